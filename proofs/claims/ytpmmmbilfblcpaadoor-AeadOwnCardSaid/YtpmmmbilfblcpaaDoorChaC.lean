/- XOR: bytes with the stream's. -/
import Derived.Test.YtpmmmbilfblcpaaDoorChaB
namespace Go.Proofs.YtpmmmbilfblcpaaDoor
open Go.RowKit Go.Cour
attribute [local go_sem] max2_int min2_int
/-- The counter behind so many blocks. -/
def ctr (c : Int) (j : Nat) : Int := (c + j) % 4294967296
def xorByte (key : List Int) (c : Int) (nonce xs : List Int) (i : Nat) : Int := bits .xor .u8 (rd xs i) (rd (block key (ctr c (i / 64)) nonce) (i % 64))
def xorTo (key : List Int) (c : Int) (nonce xs : List Int) (n : Nat) : List Int := (List.range n).foldl (fun o i => o.set i (xorByte key c nonce xs i)) (List.replicate xs.length 0)
def xorStream (key : List Int) (c : Int) (nonce xs : List Int) : List Int := xorTo key c nonce xs xs.length
theorem xorTo_succ (key : List Int) (c : Int) (nonce xs : List Int) (n : Nat) : xorTo key c nonce xs (n + 1) = (xorTo key c nonce xs n).set n (xorByte key c nonce xs n) := foldl_succ _ _ _
theorem xorTo_length (key : List Int) (c : Int) (nonce xs : List Int) : ∀ n, (xorTo key c nonce xs n).length = xs.length
  | 0 => by simp [xorTo]
  | n + 1 => by rw [xorTo_succ, List.length_set]; exact xorTo_length key c nonce xs n
theorem xorStream_length (key : List Int) (c : Int) (nonce xs : List Int) : (xorStream key c nonce xs).length = xs.length := xorTo_length _ _ _ _ _
theorem ctr_bound (c : Int) (j : Nat) : 0 ≤ ctr c j ∧ ctr c j < 4294967296 := ⟨Int.emod_nonneg _ (by decide), Int.emod_lt_of_pos _ (by decide)⟩
theorem ctr_succ (c : Int) (j : Nat) : (ctr c j + 1) % 4294967296 = ctr c (j + 1) := by unfold ctr; omega
theorem ctr_zero {c : Int} (h : 0 ≤ c ∧ c < 4294967296) : ctr c 0 = c := by unfold ctr; omega
theorem block_length (key : List Int) (c : Int) (nonce : List Int) : (block key c nonce).length = 64 := outTo_length _ _ _
theorem info23 : (Tryd.prog.info? 23).map (·.size) = some 32 := by kernel_rfl
theorem arr23 : Tryd.prog.underlying 23 = some (.array 32 5) := by kernel_rfl
theorem info24 : (Tryd.prog.info? 24).map (·.size) = some 12 := by kernel_rfl
theorem arr24 : Tryd.prog.underlying 24 = some (.array 12 5) := by kernel_rfl
theorem infoU8 : (Tryd.prog.info? 5).map (fun i => (i.zero, i.size, i.bytes)) = some (some (.int .u8 0), 1, 1) := by kernel_rfl
theorem undBytes : Tryd.prog.underlying 25 = some (.slice 5) := by kernel_rfl
theorem made_ints (n : Nat) : madeCells #[.int .u8 0] n = (ints .u8 (List.replicate n 0)).toArray := by
  apply Array.toList_inj.1
  rw [toList_madeCells_one]; simp [ints]
/-- What the blocks of a call of XOR hold. -/
structure XS (w wr : World) (key nonce out : List Int) : Prop where
  k : Blk wr w.heap.size 23 (ints .u8 key)
  n : Blk wr (w.heap.size + 1) 24 (ints .u8 nonce)
  o : Blk wr (w.heap.size + 1 + 1) 5 (ints .u8 out)
  below : Below w.heap.size w wr
  size : w.heap.size + 1 + 1 < wr.heap.size

/-- In a block of the stream. -/
structure XI (w wr : World) (H : Nat) (key nonce out blk : List Int) : Prop extends XS w wr key nonce out where
  s : Blk wr H 44 (ints .u8 blk)
  lt : w.heap.size + 1 + 1 < H
theorem XI.start {w wr wx : World} {key nonce out blk : List Int} (h : XS w wr key nonce out) (hb : Below wr.heap.size wr wx) :
    XI w ((wx.alloc (.cells (ints .u8 (List.replicate 64 0)).toArray 44)).setRow wx.heap.size (ints .u8 blk).toArray) wx.heap.size key nonce out blk := by
  have h1 := h.size
  have h2 := hb.size
  refine ⟨⟨((h.k.belowAll hb).alloc _).setRowOther (by omega) _, ((h.n.belowAll hb).alloc _).setRowOther (by omega) _, ((h.o.belowAll hb).alloc _).setRowOther (by omega) _, ?_, by simp; omega⟩, (Blk.new wx 44 _).setRow _, by omega⟩
  exact below_setRow ((below_then h.below (by omega) hb).alloc (by omega) _) (by omega) _
theorem XI.next {w wr : World} {H : Nat} {key nonce out blk : List Int} (h : XI w wr H key nonce out blk) (i : Nat) (x : Int) :
    XI w (wr.setCell ⟨w.heap.size + 1 + 1, i, none⟩ (.int .u8 x)).drew H key nonce (out.set i x) blk := by
  have h1 := h.lt
  refine ⟨⟨(h.k.setOther (by simp; omega) _).drew, (h.n.setOther (by simp) _).drew, (h.o.setI i x).drew, (h.below.setCell (by simp; omega) _).drew, by simpa [World.setCell] using h.size⟩, (h.s.setOther (by simp; omega) _).drew, h1⟩

set_option maxHeartbeats 4000000 in
set_option maxRecDepth 100000 in
theorem xor_calls (key nonce xs : List Int) (c : Int) (A : Option Addr) (cap : Nat) (w : World) (hk : key.length = 32) (hn : nonce.length = 12) (rk : bytesOk key) (rn : bytesOk nonce) (hc : 0 ≤ c ∧ c < 4294967296)
    (hr : Rd w A .u8 xs) (hl : xs.length ≤ 1000000) :
    Calls Tryd.prog 20 #[.agg (ints .u8 key).toArray, .int .u32 c, .agg (ints .u8 nonce).toArray, .slice A xs.length cap] w fun e w' =>
      ∃ g, e = .returned (.slice (some ⟨g, 0, none⟩) xs.length xs.length) ∧ w.heap.size ≤ g ∧ Blk w' g 5 (ints .u8 (xorStream key c nonce xs)) ∧ Below w.heap.size w w' := by
  have HK := hid hk
  have HN := hid hn
  have HC := hid hc
  have HR := hid hr
  clear hk hn hc hr
  obtain ⟨n, hnx⟩ : ∃ n, Hd (n = xs.length) := ⟨_, hid rfl⟩
  rw [← hnx.out] at hl ⊢
  have hmk := run_make_row' (P := Tryd.prog) 25 5 (.int .u8 0) 1 undBytes infoU8 rfl .i64 .i64 n (by omega) (by omega)
  go_enter Tryd.func20, Tryd.ntmps20
  go_wp2_with fail
  clear hmk
  go_loopg [1, 10] (n + 64) (fun kq v1 v10 wr => ∃ j : Nat, v10 = .int .i64 (64 * (j : Int)) ∧ v1 = .int .u32 (ctr c j) ∧ Hd (kq + 64 * j = n + 64) ∧ XS w wr key nonce (xorTo key c nonce xs (min (64 * j) n)))
  case atStart =>
    refine ⟨0, rfl, by rw [ctr_zero HC.out], hid (by omega), ?_, ?_, ?_, ?_, ?_⟩
    · exact ((Blk.new w 23 (ints .u8 key)).alloc _).alloc _
    · exact (Blk.new' (w.alloc _) 24 (ints .u8 nonce) _ (by simp)).alloc _
    · rw [made_ints]
      have := Blk.new' ((w.alloc (.cells (ints .u8 key).toArray 23)).alloc (.cells (ints .u8 nonce).toArray 24)) 5 (ints .u8 (List.replicate n 0)) (w.heap.size + 1 + 1) (by simp)
      rw [show xorTo key c nonce xs (min (64 * 0) n) = List.replicate n 0 by simp [xorTo, hnx.out]]
      exact this
    · exact (((Below.refl _ _).alloc (Nat.le_refl _) _).alloc (by simp) _).alloc (by simp; omega) _
    · simp
  case round =>
    obtain ⟨j, rfl, rfl, hq, hS⟩ := hrel
    by_cases hlt : 64 * j < n
    · have hi1 : (64 * (j : Int)) < n := by omega
      have hd1 : decide ((64 * (j : Int)) < n) = true := by simp; omega
      have hk32 : (ints .u8 key).length = 32 := by simpa using HK.out
      have hn12 : (ints .u8 nonce).length = 12 := by simpa using HN.out
      go_wp2_with (first
        | (refine load_blk rfl 23 _ rfl w.heap.size rfl 23 _ hS.k 32 5 arr23 hk32 info23 ?_)
        | (refine load_blk rfl 24 _ rfl (w.heap.size + 1) rfl 24 _ hS.n 12 5 arr24 hn12 info24 ?_)
        | (go_at_call 21; refine (block_calls key nonce (ctr c j) _ HK.out HN.out rk rn (ctr_bound c j)).mono ?_; rintro e wx ⟨rfl, hb⟩)
        | (refine store_blk rfl 44 _ _ rfl wx.heap.size _ rfl rfl 44 _ (Blk.new wx 44 (ints .u8 (List.replicate 64 0))) 64 info44 (by simpa using block_length key (ctr c j) nonce) (by simp) (ints_one _ _) ?_))
      have hI := XI.start hS hb (blk := block key (ctr c j) nonce)
      clear hS hb hk32 hn12
      obtain ⟨H, hH⟩ : ∃ H, H = wx.heap.size := ⟨_, rfl⟩
      obtain ⟨wo, rfl⟩ : ∃ wo : World, wo = wr := ⟨_, rfl⟩
      obtain ⟨gk1, hgk⟩ : ∃ g : Nat, Hd (g = gk) := ⟨gk, hid rfl⟩
      have hq1 : Hd (gk1 + 64 * j = n + 64) := hid (by rw [hgk.out]; exact hq.out)
      have hm : min (64 * j) n = 64 * j := by omega
      rw [hm] at hI
      rw [← hH] at hI ⊢
      clear hH hm hq
      go_loopg [12] 64 (fun kq v12 wr => ∃ i : Nat, v12 = .int .i64 i ∧ 64 * j ≤ i ∧ i ≤ 64 * j + 64 ∧ i ≤ n ∧ Hd (kq + i = 64 * j + 64) ∧ XI w wr H key nonce (xorTo key c nonce xs i) (block key (ctr c j) nonce))
      case atStart => exact ⟨64 * j, by go_num, by omega, by omega, by omega, hid (by omega), hI⟩
      case round =>
        clear hI
        obtain ⟨i, rfl, hi1, hi2, hi3, hq, hI⟩ := hrel
        by_cases hlt2 : i < n ∧ i < 64 * j + 64
        · obtain ⟨hlt3, hlt4⟩ := hlt2
          obtain ⟨g, o, rfl⟩ := HR.out.at (by rw [← hnx.out]; omega)
          have cb := ((HR.out.below hI.below).cellAt i (by rw [← hnx.out]; omega))
          obtain ⟨k, hk, hk64⟩ : ∃ k : Nat, Hd (i = 64 * j + k) ∧ k < 64 := ⟨i - 64 * j, hid (by omega), by omega⟩
          have cs := hI.s.cellI k (by rw [block_length]; omega)
          have co := hI.o.cellI i (by rw [xorTo_length, ← hnx.out]; omega)
          have fo := hI.o.frozen i
          have hx : Hd (xorByte key c nonce xs i = bits .xor .u8 (rd xs i) (rd (block key (ctr c j) nonce) k)) := hid (by
            have e1 : i / 64 = j := by have := hk.out; omega
            have e2 : i % 64 = k := by have := hk.out; omega
            rw [xorByte, e1, e2])
          go_wp2_with fail
          all_goals
            have a1 : IntKind.i64.wrap ((i : Int) - 64 * (j : Int)) = (k : Int) := by
              have := hk.out
              rw [IntWalk.i64_in _ (by omega)]
              omega
            have a2 : (i : Int) < n := by omega
            have a3 : (k : Int) < 64 := by omega
            refine wp_region_still_tail 13 (by kernel_rfl) (by kernel_rfl) ?_
            simp only [List.take_succ_cons, List.take_zero, List.drop_succ_cons, List.drop_zero]
            change wpStill _ _ (World.drew _) (fun a' => wpList _ _ _ _ a' (World.drew _)) _ _
            repeat still_step
            refine wpStill_nil ?_
            change wpList _ _ _ _ _ _
            clear a1 a2 a3
            go_wp2_with fail
            go_roundg (gk - 1)
            case measure => have := hq.out; omega
            case rel =>
              refine ⟨i + 1, by go_num, by omega, by omega, by omega, hid (by have := hq.out; omega), ?_⟩
              rw [xorTo_succ, hx.out]
              exact hI.next i _
        · go_wp2_with fail
          all_goals
            go_roundg (gk1 - 64)
            case measure => have := hq1.out; have := hgk.out; omega
            case rel =>
              refine ⟨j + 1, by go_num, by rw [ctr_succ], hid (by have := hq1.out; omega), ?_⟩
              rw [show min (64 * (j + 1)) n = i by omega]
              exact hI.toXS
    · have hd1 : decide ((64 * (j : Int)) < n) = false := by simp; omega
      go_wp2_with fail
      go_ret
      rw [show min (64 * j) n = xs.length by rw [← hnx.out]; omega] at hS
      exact ⟨w.heap.size + 1 + 1, rfl, by omega, hS.o, hS.below⟩
end Go.Proofs.YtpmmmbilfblcpaaDoor
