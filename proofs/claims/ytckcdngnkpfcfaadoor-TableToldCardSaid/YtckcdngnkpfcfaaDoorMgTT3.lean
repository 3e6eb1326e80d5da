import Derived.Test.YtckcdngnkpfcfaaDoorProg
import Derived.Test.YtckcdngnkpfcfaaDoorMgTT0
import Derived.Test.YtckcdngnkpfcfaaDoorMgTT1
import Derived.Test.YtckcdngnkpfcfaaDoorMgTT2
set_option linter.unusedSimpArgs false
set_option linter.unusedVariables false
/- The digest of a text, as a function of lists; the program's digest told. -/
namespace Go.Proofs.YtckcdngnkpfcfaaDoor
open Go.RowKit Go.Cour
def shaH0 : List Int := [1779033703, 3144134277, 1013904242, 2773480762, 1359893119, 2600822924, 528734635, 1541459225]
theorem shaH0_W32 : ∀ x ∈ shaH0, W32 x := by unfold W32; decide
/-- Byte i of a length. -/
def lenB (n : Nat) (i : Nat) : Int := (n : Int) * 8 / 2 ^ (56 - 8 * i) % 256
def lenBs (n k : Nat) : List Int := (List.range k).map (lenB n)
theorem lenBs_succ (n k : Nat) : lenBs n (k + 1) = lenBs n k ++ [lenB n k] := by simp [lenBs, List.range_succ]
/-- How many zeros. -/
def padZ (n : Nat) : Nat := (119 - n % 64) % 64
/-- What is behind a text. -/
def padOf (n : Nat) : List Int := [128] ++ List.replicate (padZ n) 0 ++ lenBs n 8
theorem padOf_length (n : Nat) : (n + (padOf n).length) % 64 = 0 := by simp [padOf, lenBs, padZ]; omega
theorem padOf_B8 (n : Nat) : ∀ x ∈ padOf n, B8 x := fun x hx => by
  unfold padOf at hx
  rcases List.mem_append.1 hx with hx | hx
  · rcases List.mem_append.1 hx with hx | hx
    · simp at hx; subst hx; exact ⟨by decide, by decide⟩
    · rw [List.mem_replicate] at hx; rw [hx.2]; exact zero_B8
  · unfold lenBs at hx
    obtain ⟨i, _, rfl⟩ := List.mem_map.1 hx
    exact ⟨Int.emod_nonneg _ (by decide), Int.emod_lt_of_pos _ (by decide)⟩
/-- Byte i of the digest. -/
def outB (h : List Int) (i : Nat) : Int := rd h (i / 4) / 2 ^ (24 - 8 * (i % 4)) % 256
def outSh (h : List Int) (k : Nat) : List Int := (List.range k).foldl (fun x i => x.set i (outB h i)) (List.replicate 32 0)
theorem outSh_succ (h : List Int) (k : Nat) : outSh h (k + 1) = (outSh h k).set k (outB h k) := by simp [outSh, List.range_succ]
@[simp] theorem outSh_length (h : List Int) (k : Nat) : (outSh h k).length = 32 := by
  induction k with
  | zero => simp [outSh]
  | succ k ih => rw [outSh_succ]; simpa using ih
/-- The digest. -/
def shaOf (xs : List Int) : List Int := outSh (blocksS shaH0 (xs ++ padOf xs.length) ((xs ++ padOf xs.length).length / 64)) 32
theorem shaOf_length (xs : List Int) : (shaOf xs).length = 32 := outSh_length _ _
theorem outS_B8 (h : List Int) (k : Nat) : ∀ x ∈ outSh h k, B8 x := by
  induction k with
  | zero => intro x hx; simp [outSh] at hx; rw [hx]; exact zero_B8
  | succ k ih => rw [outSh_succ]; exact set_all ih ⟨Int.emod_nonneg _ (by decide), Int.emod_lt_of_pos _ (by decide)⟩
theorem shaOf_B8 (xs : List Int) : ∀ x ∈ shaOf xs, B8 x := outS_B8 _ _
theorem blocksS_prefix (h xs ys : List Int) (q : Nat) (hq : 64 * q ≤ xs.length) : blocksS h (xs ++ ys) q = blocksS h xs q := by
  induction q with
  | zero => simp [blocksS]
  | succ q ih =>
    rw [blocksS_succ, blocksS_succ, ih (by omega), List.drop_append_of_le_length (by omega), List.take_append_of_le_length (by rw [List.length_drop]; omega)]
theorem blocksS_add (h xs : List Int) (q r : Nat) : blocksS (blocksS h xs q) (xs.drop (64 * q)) r = blocksS h xs (q + r) := by
  induction r with
  | zero => simp [blocksS]
  | succ r ih => rw [blocksS_succ, ih, ← Nat.add_assoc, blocksS_succ, List.drop_drop, Nat.mul_add]
/-- What is there behind a text's being written. -/
def hOf (xs : List Int) : List Int := blocksS shaH0 xs (xs.length / 64)
def restOf (xs : List Int) : List Int := xs.drop (64 * (xs.length / 64))
theorem hOf_length (xs : List Int) : (hOf xs).length = 8 := blocksS_length _ _ (by rfl) _
theorem hOf_W32 (xs : List Int) : ∀ x ∈ hOf xs, W32 x := blocksS_W32 _ _ shaH0_W32 _
theorem restOf_length (xs : List Int) : (restOf xs).length = xs.length % 64 := by unfold restOf; rw [List.length_drop]; omega
theorem rest_append (xs ys : List Int) : restOf xs ++ ys = (xs ++ ys).drop (64 * (xs.length / 64)) := by
  unfold restOf; rw [List.drop_append_of_le_length (by omega)]
theorem hOf_append (xs ys : List Int) : blocksS (hOf xs) (restOf xs ++ ys) ((restOf xs ++ ys).length / 64) = hOf (xs ++ ys) := by
  unfold hOf
  rw [rest_append, ← blocksS_prefix shaH0 xs ys _ (by omega), blocksS_add]
  congr 1
  rw [List.length_drop, List.length_append]; omega
theorem restOf_append (xs ys : List Int) : (restOf xs ++ ys).drop (64 * ((restOf xs ++ ys).length / 64)) = restOf (xs ++ ys) := by
  rw [rest_append, List.drop_drop]
  unfold restOf
  congr 1
  rw [List.length_drop, List.length_append]; omega
theorem shaOf_eq (xs : List Int) : shaOf xs = outSh (blocksS (hOf xs) (restOf xs ++ padOf xs.length) ((restOf xs ++ padOf xs.length).length / 64)) 32 := by
  rw [hOf_append]; rfl
theorem eight : ∀ {hs : List Int}, hs.length = 8 → ∃ x0 x1 x2 x3 x4 x5 x6 x7, hs = [x0, x1, x2, x3, x4, x5, x6, x7]
  | [x0, x1, x2, x3, x4, x5, x6, x7], _ => ⟨_, _, _, _, _, _, _, _, rfl⟩
theorem zeroU8S' : ((Tryd.prog.info? 5).bind (·.zero)).isSome = true := by kernel_rfl
theorem builtSha8 (x0 x1 x2 x3 x4 x5 x6 x7 : Int) (A1 : Option Addr) (n1 c1 : Nat) : Tryd.prog.built 154 [(0, .agg (ints .u32 [x0, x1, x2, x3, x4, x5, x6, x7]).toArray), (1, .slice A1 n1 c1)] = some (shaC [x0, x1, x2, x3, x4, x5, x6, x7] (.slice A1 n1 c1) 0).toArray := by kernel_rfl
theorem builtSha (hs : List Int) (hl : hs.length = 8) (A1 : Option Addr) (n1 c1 : Nat) : Tryd.prog.built 154 [(0, .agg (ints .u32 hs).toArray), (1, .slice A1 n1 c1)] = some (shaC hs (.slice A1 n1 c1) 0).toArray := by
  obtain ⟨_, _, _, _, _, _, _, _, rfl⟩ := eight hl
  exact builtSha8 _ _ _ _ _ _ _ _ _ _ _
theorem infoHashS : (Tryd.prog.info? 30).map (·.size) = some 32 := by kernel_rfl
theorem arrHashS : Tryd.prog.underlying 30 = some (.array 32 5) := by kernel_rfl
theorem zeroHashS : ((Tryd.prog.info? 30).bind (·.zero)).map (·.cells) = some (ints .u8 (List.replicate 32 0)).toArray := by kernel_rfl
abbrev Z32 (g : Nat) : Ent := .blk g 30 (ints .u8 (List.replicate 32 0))
/-- What the blocks of Hash.Sum hold. -/
abbrev SSh (w wr : World) (g2 g3 : Nat) (hs : List Int) (A : Option Addr) (n c : Nat) (ts : List Int) : Prop :=
  HS NoF w wr [.blk g3 154 (shaC hs (.slice A n c) 0), .os 5 (.slice A n c) (ints .u8 ts), Z32 g2]
set_option maxHeartbeats 2000000 in
set_option maxRecDepth 100000 in
theorem sumH_calls (xs : List Int) (gh : Nat) (vr : Value) (w : World) (hb : Blk w gh 154 (shaC (hOf xs) vr xs.length)) (ho : OwnS w 5 vr (ints .u8 (restOf xs))) (hne : vr.ownBlock ≠ some gh) (hx : ∀ x ∈ xs, B8 x) (hsz : xs.length ≤ 1000000000) :
    Calls Tryd.prog 76 #[.pointer (some ⟨gh, 0, none⟩)] w fun e w' => e = .returned (.agg (ints .u8 (shaOf xs)).toArray) ∧ Below w.heap.size w w' := by
  have hS := HS.start NoF w
  have HB := hid hb
  obtain ⟨A, c, rfl, hnc, _, hA, _, _⟩ := ho.parts
  have HO := hid ho
  obtain ⟨n, hn⟩ : ∃ n, Hd ((ints .u8 (restOf xs)).length = n) := ⟨_, hid rfl⟩
  rw [hn.out] at HB HO hnc
  obtain ⟨hs, hhs⟩ : ∃ hs, Hd (hOf xs = hs) := ⟨_, hid rfl⟩
  obtain ⟨rs, hrs⟩ : ∃ rs, Hd (restOf xs = rs) := ⟨_, hid rfl⟩
  have hl8 := hOf_length xs
  have HW : Hd (∀ x ∈ hs, W32 x) := hid (hhs.out ▸ hOf_W32 xs)
  have HRL : Hd (rs.length = xs.length % 64) := hid (hrs.out ▸ restOf_length xs)
  have HRB : Hd (∀ x ∈ rs, B8 x) := hid (hrs.out ▸ fun x hx' => hx x (List.mem_of_mem_drop hx'))
  have HEQ := hid (shaOf_eq xs)
  rw [hhs.out, hrs.out] at HEQ
  rw [hhs.out] at HB hl8
  rw [hrs.out] at HO hn
  obtain ⟨N, hN⟩ : ∃ N, Hd (xs.length = N) := ⟨_, hid rfl⟩
  rw [hN.out] at HB HEQ HRL hsz
  clear hx
  have HL := hid hl8
  clear hl8
  have hn64 : n ≤ 64 := by have h1 := hn.out; have h2 := HRL.out; rw [ints_length] at h1; omega
  have g8 := hid (shaC_get8 (vr := .slice A n c) (n := (N : Int)) HL.out)
  have g9 := hid (shaC_get9 (vr := .slice A n c) (n := (N : Int)) HL.out)
  clear hb ho hne
  go_enter Tryd.func76, Tryd.ntmps76
  go_wp2_with (first
    | (refine alloc_blk rfl 30 rfl _ rfl (ints .u8 (List.replicate 32 0)) zeroHashS ?_; intro g2 w2 hga hba hBa hsa; replace hS := hS.pushBlk hBa hba hga; clear hga hba hBa hsa)
    | fail)
  try go_wp2_with fail
  refine wp_region_S (F := NoF) (w0 := w) (L0 := [Z32 g2]) [] [4, 9, 11]
    (fun iK u E => match iK with
      | _ => False)
    ([]) (by kernel_rfl) (by kernel_rfl) hS ?_
  show wpS _ _ _ _ _ _ _ _ _ _ [0, 1, 2, 3, 4, 5, 6, 7, 8, 9, 10, 11, 12] _
  apply wpS_read (i := 0) rfl rfl ⟨_, hS⟩ rfl -- Op.move t0
  · intro w' hT'
    simp only [List.getElem_toArray, List.getElem_cons_zero, List.getElem_cons_succ]
    go_wp2_with fail
    first | exact ⟨rfl, rfl, rfl⟩ | rfl
  apply wpS_read (i := 1) rfl rfl ⟨_, hS⟩ rfl -- Op.nilCheck t7
  · intro w' hT'
    simp only [List.getElem_toArray, List.getElem_cons_zero, List.getElem_cons_succ]
    go_wp2_with fail
    first | exact ⟨rfl, rfl, rfl⟩ | rfl
  apply wpS_read (i := 2) rfl rfl ⟨_, hS⟩ rfl -- Op.fieldAddr 94 t8 0
  · intro w' hT'
    simp only [List.getElem_toArray, List.getElem_cons_zero, List.getElem_cons_succ]
    go_wp2_with fail
    first | exact ⟨rfl, rfl, rfl⟩ | rfl
  apply wpS_read (i := 3) rfl rfl ⟨_, hS⟩ rfl -- Op.load 74 t9
  · intro w' hT'
    simp only [List.getElem_toArray, List.getElem_cons_zero, List.getElem_cons_succ]
    have b0 := hT'.oldBlk HB.out id
    have c8 : w'.cell? ⟨gh, 8, none⟩ = some (.slice A n c) := (b0.cell 8).trans g8.out
    go_wp2_with (first
      | (refine load_in rfl 94 _ rfl gh 0 rfl (ints .u32 hs) (fun j v hv => by rw [b0.cell, Nat.zero_add]; unfold shaC; rw [List.getElem?_append_left (List.getElem?_eq_some_iff.1 hv).1]; exact hv) 8 29 arrW8 (by simp [HL.out]) infoW8 ?_)
      | (refine build_to rfl 154 _ rfl (shaC hs (.slice A1 n1 c1) 0).toArray (by rw [Array.toList_map]; exact builtSha hs HL.out A1 n1 c1) ?_)
      | fail)
    first | exact ⟨rfl, rfl, rfl⟩ | rfl
  refine wpS_hard (i := 4) rfl rfl ?_ -- Op.buildSlice 41 0 #[]
  intro w4 hT
  simp only [List.getElem_toArray, List.getElem_cons_zero, List.getElem_cons_succ]
  go_wp2_with (first
    | (refine hs_empty hT rfl 24 5 rfl undBytesS zeroU8S' _ rfl ?_; clear hT; intro ge wz hge hBe hT)
    | fail)
  refine HardP.mk' ([.os 5 (.slice (some ⟨ge, 0, none⟩) 0 0) []]) rfl ?_ ?_
  · exact hT
  clear hT
  clear hge hBe
  apply wpS_read (i := 5) rfl rfl ⟨_, hS⟩ rfl -- Op.move t0
  · intro w' hT'
    simp only [List.getElem_toArray, List.getElem_cons_zero, List.getElem_cons_succ]
    go_wp2_with fail
    first | exact ⟨rfl, rfl, rfl⟩ | rfl
  apply wpS_read (i := 6) rfl rfl ⟨_, hS⟩ rfl -- Op.nilCheck t12
  · intro w' hT'
    simp only [List.getElem_toArray, List.getElem_cons_zero, List.getElem_cons_succ]
    go_wp2_with fail
    first | exact ⟨rfl, rfl, rfl⟩ | rfl
  apply wpS_read (i := 7) rfl rfl ⟨_, hS⟩ rfl -- Op.fieldAddr 94 t13 1
  · intro w' hT'
    simp only [List.getElem_toArray, List.getElem_cons_zero, List.getElem_cons_succ]
    go_wp2_with fail
    first | exact ⟨rfl, rfl, rfl⟩ | rfl
  apply wpS_read (i := 8) rfl rfl ⟨_, hS⟩ rfl -- Op.load 41 t14
  · intro w' hT'
    simp only [List.getElem_toArray, List.getElem_cons_zero, List.getElem_cons_succ]
    have b0 := hT'.oldBlk HB.out id
    have c8 : w'.cell? ⟨gh, 8, none⟩ = some (.slice A n c) := (b0.cell 8).trans g8.out
    go_wp2_with (first
      | (refine load_in rfl 94 _ rfl gh 0 rfl (ints .u32 hs) (fun j v hv => by rw [b0.cell, Nat.zero_add]; unfold shaC; rw [List.getElem?_append_left (List.getElem?_eq_some_iff.1 hv).1]; exact hv) 8 29 arrW8 (by simp [HL.out]) infoW8 ?_)
      | (refine build_to rfl 154 _ rfl (shaC hs (.slice A1 n1 c1) 0).toArray (by rw [Array.toList_map]; exact builtSha hs HL.out A1 n1 c1) ?_)
      | fail)
    first | exact ⟨rfl, rfl, rfl⟩ | rfl
  refine wpS_hard (i := 9) rfl rfl ?_ -- Op.call { builtin append, args := #[t11, t15], argTypes := #[41, 41]
  intro w9 hT
  replace hT : HS NoF w w9 [.os 5 (.slice (some ⟨ge, 0, none⟩) 0 0) [], Z32 g2] := hT
  simp only [List.getElem_toArray, List.getElem_cons_zero, List.getElem_cons_succ]
  go_wp2_with (first
    | (refine hs_append hT 0 rfl rfl _ _ 24 rfl 1 undBytesS infoU8S zeroU8S rfl A n c rfl (ints .u8 rs) hn.out (news_of_rd (hT.oldRd (HO.out.rd rfl) (fun _ _ _ h => h))) (ints_one' _ _) (by simp; omega) (by simp; omega) _ rfl ?_; clear hT; intro A1 n1 c1 wz hn1 hc1 hA1 hT; have HN1 := hid hn1; clear hn1)
    | fail)
  refine HardP.mk' ([.os 5 (.slice A1 n1 c1) (ints .u8 rs)]) rfl ?_ ?_
  · exact hT
  clear hT
  apply wpS_read (i := 10) rfl rfl ⟨_, hS⟩ rfl -- Op.build 94 #[(0, t10), (1, t16)]
  · intro w' hT'
    simp only [List.getElem_toArray, List.getElem_cons_zero, List.getElem_cons_succ]
    go_wp2_with (first
      | (refine load_in rfl 94 _ rfl gh 0 rfl (ints .u32 hs) (fun j v hv => by rw [b0.cell, Nat.zero_add]; unfold shaC; rw [List.getElem?_append_left (List.getElem?_eq_some_iff.1 hv).1]; exact hv) 8 29 arrW8 (by simp [HL.out]) infoW8 ?_)
      | (refine build_to rfl 154 _ rfl (shaC hs (.slice A1 n1 c1) 0).toArray (by rw [Array.toList_map]; exact builtSha hs HL.out A1 n1 c1) ?_)
      | fail)
    first | exact ⟨rfl, rfl, rfl⟩ | rfl
  refine wpS_hard (i := 11) rfl rfl ?_ -- Op.box 94 t17
  intro w11 hT
  replace hT : HS NoF w w11 [.os 5 (.slice A1 n1 c1) (ints .u8 rs), Z32 g2] := hT
  simp only [List.getElem_toArray, List.getElem_cons_zero, List.getElem_cons_succ]
  go_wp2_with (first
    | (refine box_blk rfl 154 _ rfl _ rfl (shaC hs (.slice A1 n1 c1) 0) rfl ?_; intro g3 wz hga hba hBa hsa)
    | fail)
  refine HardP.mk' ([.blk g3 154 (shaC hs (.slice A1 n1 c1) 0), .os 5 (.slice A1 n1 c1) (ints .u8 rs)]) rfl ?_ ?_
  · exact hT.pushBlk hBa hba hga
  clear hT
  clear hga hba hBa hsa
  apply wpS_read (i := 12) rfl rfl ⟨_, hS⟩ rfl -- Op.assign t18
  · intro w' hT'
    simp only [List.getElem_toArray, List.getElem_cons_zero, List.getElem_cons_succ]
    go_wp2_with fail
    first | exact ⟨rfl, rfl, rfl⟩ | rfl
  refine wpS_end ?_
  intro wz hT
  try dsimp only

  have HNL : Hd (rs.length = n1) := hid (by have := HN1.out; simpa using this)
  have hS0 : SSh w wz g2 g3 hs A1 n1 c1 rs := hT
  clear hT hS HN1
  replace hS := hS0
  clear hS0
  have hb1 : n1 ≤ 64 := by have := HNL.out; have := HRL.out; omega
  go_wp2_with (first
    | (refine hs_load1 hS 0 rfl rfl 24 _ rfl 8 rfl (.slice A1 n1 c1) (shaC_get8 HL.out) _ undBytesS rfl _ rfl ?_)
    | (refine hs_one hS rfl 24 5 _ rfl undBytesS sizeU8S zeroU8S (.int .u8 128) rfl rfl _ rfl ?_; clear hS; intro go wo hgo hBo hS; clear hgo hBo)
    | (refine hs_append hS 2 rfl rfl _ _ 24 rfl 1 undBytesS infoU8S zeroU8S rfl (some ⟨go, 0, none⟩) 1 1 rfl (ints .u8 [128]) rfl (news_of_rd (OwnS.rd (k := .u8) (xs := [128]) (hS.os 0 rfl) rfl)) (ints_one' _ _) (by rw [ints_length, HNL.out]; omega) (by rw [ints_length, HNL.out]; omega) _ rfl ?_
       clear hS; intro A3 n3 c3 w3 hn3 hc3 hA3 hS; have HN3 := hid hn3; clear hn3
       replace hS : HS NoF w w3 [.blk g3 154 (shaC hs (.slice A1 n1 c1) 0), .os 5 (.slice A3 n3 c3) (ints .u8 (rs ++ [128])), Z32 g2] := by rw [ints_append]; exact hS.erase 0)
    | (refine hs_store1 hS 0 rfl rfl 24 _ _ rfl 8 rfl (.slice A3 n3 c3) rfl rfl sizeBytesS (by rw [shaC_length HL.out]; decide) _ rfl ?_; clear hS; intro w4 hS; rw [shaC_set8 HL.out] at hS; replace hS : SSh w w4 g2 g3 hs A3 n3 c3 (rs ++ [128]) := hS)
    | fail)
  have HNL3 : Hd (rs.length + 1 = n3) := hid (by have := HN3.out; simpa using this)
  dsimp only [Act.put]
  go_loopg [] (padZ N + 1) (fun kq wr => ∃ (k : Nat) (A1 : Option Addr) (n1 c1 : Nat), k ≤ padZ N ∧ Hd (n1 = rs.length + 1 + k) ∧ Hd (kq + k = padZ N + 1) ∧ SSh w wr g2 g3 hs A1 n1 c1 (rs ++ [128] ++ List.replicate k 0))
  case atStart => exact ⟨0, A3, n3, c3, Nat.zero_le _, hid HNL3.out.symm, hid (by omega), by simpa using hS⟩
  case round =>
    clear hS HN3 HNL3
    obtain ⟨k, A1, n1, c1, hk, hn1, hq, hS⟩ := hrel
    have hr := HRL.out
    have hlt64 : N % 64 < 64 := Nat.mod_lt _ (by decide)
    have hpz : Hd (padZ N = (119 - N % 64) % 64) := hid rfl
    by_cases hlt : k < padZ N
    · have h56 : ¬ (n1 : Int) % 64 = 56 := by have := hn1.out; have := hpz.out; omega
      have h56' : ¬ n1 % 64 = 56 := by have := hn1.out; have := hpz.out; omega
      have hb1 : n1 ≤ 200 := by have := hn1.out; have := hpz.out; omega
      have HLT : Hd ((rs ++ [128] ++ List.replicate k 0).length = n1) := hid (by simp; have := hn1.out; omega)
      have HTS : Hd (rs ++ [128] ++ List.replicate k 0 ++ [0] = rs ++ [128] ++ List.replicate (k + 1) 0) := hid (by rw [List.append_assoc (rs ++ [128]), ← List.replicate_succ'])
      obtain ⟨ts, hts⟩ : ∃ ts, Hd (rs ++ [128] ++ List.replicate k 0 = ts) := ⟨_, hid rfl⟩
      rw [hts.out] at hS HLT HTS
      clear hr
      go_wp2_with (first
    | (refine hs_load1 hS 0 rfl rfl 24 _ rfl 8 rfl (.slice A1 n1 c1) (shaC_get8 HL.out) _ undBytesS rfl _ rfl ?_)
    | (refine hs_one hS rfl 24 5 _ rfl undBytesS sizeU8S zeroU8S (.int .u8 0) rfl rfl _ rfl ?_; clear hS; intro go wo hgo hBo hS; clear hgo hBo)
    | (refine hs_append hS 2 rfl rfl _ _ 24 rfl 1 undBytesS infoU8S zeroU8S rfl (some ⟨go, 0, none⟩) 1 1 rfl (ints .u8 [0]) rfl (news_of_rd (OwnS.rd (k := .u8) (xs := [0]) (hS.os 0 rfl) rfl)) (ints_one' _ _) (by rw [ints_length, HLT.out]; omega) (by rw [ints_length, HLT.out]; omega) _ rfl ?_
       clear hS; intro A3 n3 c3 w3 hn3 hc3 hA3 hS; have HN3 := hid hn3; clear hn3
       replace hS : HS NoF w w3 [.blk g3 154 (shaC hs (.slice A1 n1 c1) 0), .os 5 (.slice A3 n3 c3) (ints .u8 (ts ++ [0])), Z32 g2] := by rw [ints_append]; exact hS.erase 0)
    | (refine hs_store1 hS 0 rfl rfl 24 _ _ rfl 8 rfl (.slice A3 n3 c3) rfl rfl sizeBytesS (by rw [shaC_length HL.out]; decide) _ rfl ?_; clear hS; intro w4 hS; rw [shaC_set8 HL.out] at hS; replace hS : SSh w w4 g2 g3 hs A3 n3 c3 (ts ++ [0]) := hS)
    | fail)
      go_roundg (gk - 1)
      case measure => have := hq.out; omega
      case rel => exact ⟨k + 1, A3, n3, c3, by omega, hid (by have := HN3.out; have := hn1.out; have := HLT.out; simp at *; omega), hid (by have := hq.out; omega), HTS.out ▸ hS⟩
    · obtain rfl : k = padZ N := by omega
      have h56 : (n1 : Int) % 64 = 56 := by have := hn1.out; have := hpz.out; omega
      have h56' : n1 % 64 = 56 := by have := hn1.out; have := hpz.out; omega
      have c8 : wr.cell? ⟨g3, 8, none⟩ = some (.slice A1 n1 c1) := (hS.cell 0 rfl 8).trans (shaC_get8 HL.out)
      have hnb : Hd (n1 ≤ 130) := hid (by have := hn1.out; have := hpz.out; omega)
      have hn1' : Hd (n1 + 0 = rs.length + 1 + padZ N) := hid hn1.out
      clear hlt hk hq hr hlt64 hn1
      go_wp2_with fail
      clear c8 h56 h56'
      have hN8 : Hd (padOf N = [128] ++ List.replicate (padZ N) 0 ++ lenBs N 8) := hid rfl
      go_loopg [4, 44] 9 (fun kq v4 v44 wr => ∃ (k : Nat) (A1 : Option Addr) (m1 c1 : Nat), k ≤ 8 ∧ v44 = .int .i64 k ∧ Hd (m1 = n1 + k) ∧ Hd (kq + k = 9) ∧ SSh w wr g2 g3 hs A1 m1 c1 (rs ++ [128] ++ List.replicate (padZ N) 0 ++ lenBs N k))
      case atStart => exact ⟨0, A1, n1, c1, Nat.zero_le _, rfl, hid rfl, hid (by omega), by simpa [lenBs] using hS⟩
      case round =>
        clear hS
        obtain ⟨k, A1, m1, c1, hk, rfl, hm1, hq, hS⟩ := hrel
        by_cases hlt : k < 8
        · have hlt2 : (k : Int) < 8 := by omega
          obtain ⟨s, hs'⟩ : ∃ s : Nat, 56 - 8 * k = s := ⟨_, rfl⟩
          have e56 : 56 - 8 * (k : Int) = (s : Int) := by omega
          have hs64 : s ≤ 56 := by omega
          have hLB : Hd (lenB N k = (N : Int) * 8 / 2 ^ s % 256) := hid (by unfold lenB; rw [hs'])
          have HTS : Hd (rs ++ [128] ++ List.replicate (padZ N) 0 ++ lenBs N k ++ [(N : Int) * 8 / 2 ^ s % 256] = rs ++ [128] ++ List.replicate (padZ N) 0 ++ lenBs N (k + 1)) := hid (by rw [List.append_assoc, ← hLB.out, ← lenBs_succ])
          have HLT : Hd ((rs ++ [128] ++ List.replicate (padZ N) 0 ++ lenBs N k).length = m1) := hid (by simp [lenBs]; have := hm1.out; have := hn1'.out; omega)
          have hmb : m1 ≤ 200 := by have := hm1.out; have := hnb.out; omega
          obtain ⟨ts, hts⟩ : ∃ ts, Hd (rs ++ [128] ++ List.replicate (padZ N) 0 ++ lenBs N k = ts) := ⟨_, hid rfl⟩
          rw [hts.out] at hS HLT HTS
          obtain ⟨B, hBB⟩ : ∃ B, Hd ((N : Int) * 8 / 2 ^ s % 256 = B) := ⟨_, hid rfl⟩
          clear hs'
          go_wp2_with fail
          replace hS : HS NoF w wr ([.os 5 (.slice A1 m1 c1) (ints .u8 ts), Z32 g2] ++ [.blk g3 154 (shaC hs (.slice A1 m1 c1) 0)]) := hS.perm (List.perm_append_comm (l₁ := [Ent.blk g3 154 (shaC hs (.slice A1 m1 c1) 0)]) (l₂ := [Ent.os 5 (.slice A1 m1 c1) (ints .u8 ts), Z32 g2]))
          try go_wp2_with fail
          refine wp_region_S (F := NoF) (w0 := w) (L0 := [.blk g3 154 (shaC hs (.slice A1 m1 c1) 0)]) [] [15, 16, 19]
            (fun iK u E => match iK with
              | _ => False)
            ([.os 5 (.slice A1 m1 c1) (ints .u8 ts), Z32 g2]) (by kernel_rfl) (by kernel_rfl) hS ?_
          show wpS _ _ _ _ _ _ _ _ _ _ [0, 1, 2, 3, 4, 5, 6, 7, 8, 9, 10, 11, 12, 13, 14, 15, 16, 17, 18, 19] _
          apply wpS_read (i := 0) rfl rfl ⟨_, (HS.drop2 (E := [.os 5 (.slice A1 m1 c1) (ints .u8 ts), Z32 g2]) (L := [.blk g3 154 (shaC hs (.slice A1 m1 c1) 0)]) hS)⟩ rfl -- Op.move t3
          · intro w' hT'
            simp only [List.getElem_toArray, List.getElem_cons_zero, List.getElem_cons_succ]
            go_wp2_with fail
            first | exact ⟨rfl, rfl, rfl⟩ | rfl
          apply wpS_read (i := 1) rfl rfl ⟨_, (HS.drop2 (E := [.os 5 (.slice A1 m1 c1) (ints .u8 ts), Z32 g2]) (L := [.blk g3 154 (shaC hs (.slice A1 m1 c1) 0)]) hS)⟩ rfl -- Op.move t3
          · intro w' hT'
            simp only [List.getElem_toArray, List.getElem_cons_zero, List.getElem_cons_succ]
            go_wp2_with fail
            first | exact ⟨rfl, rfl, rfl⟩ | rfl
          apply wpS_read (i := 2) rfl rfl ⟨_, (HS.drop2 (E := [.os 5 (.slice A1 m1 c1) (ints .u8 ts), Z32 g2]) (L := [.blk g3 154 (shaC hs (.slice A1 m1 c1) 0)]) hS)⟩ rfl -- Op.nilCheck t48
          · intro w' hT'
            simp only [List.getElem_toArray, List.getElem_cons_zero, List.getElem_cons_succ]
            go_wp2_with fail
            first | exact ⟨rfl, rfl, rfl⟩ | rfl
          apply wpS_read (i := 3) rfl rfl ⟨_, (HS.drop2 (E := [.os 5 (.slice A1 m1 c1) (ints .u8 ts), Z32 g2]) (L := [.blk g3 154 (shaC hs (.slice A1 m1 c1) 0)]) hS)⟩ rfl -- Op.fieldAddr 94 t49 1
          · intro w' hT'
            simp only [List.getElem_toArray, List.getElem_cons_zero, List.getElem_cons_succ]
            go_wp2_with fail
            first | exact ⟨rfl, rfl, rfl⟩ | rfl
          apply wpS_read (i := 4) rfl rfl ⟨_, (HS.drop2 (E := [.os 5 (.slice A1 m1 c1) (ints .u8 ts), Z32 g2]) (L := [.blk g3 154 (shaC hs (.slice A1 m1 c1) 0)]) hS)⟩ rfl -- Op.load 41 t50
          · intro w' hT'
            simp only [List.getElem_toArray, List.getElem_cons_zero, List.getElem_cons_succ]
            have b0 := hT'.oldBlk HB.out id
            have c9 : w'.cell? ⟨gh, 9, none⟩ = some (.int .u64 N) := (b0.cell 9).trans g9.out
            have c8 : w'.cell? ⟨g3, 8, none⟩ = some (.slice A1 m1 c1) := (hT'.cell 0 rfl 8).trans (shaC_get8 HL.out)
            go_wp2_with fail
            first | exact ⟨rfl, rfl, rfl⟩ | rfl
          apply wpS_read (i := 5) rfl rfl ⟨_, (HS.drop2 (E := [.os 5 (.slice A1 m1 c1) (ints .u8 ts), Z32 g2]) (L := [.blk g3 154 (shaC hs (.slice A1 m1 c1) 0)]) hS)⟩ rfl -- Op.move t0
          · intro w' hT'
            simp only [List.getElem_toArray, List.getElem_cons_zero, List.getElem_cons_succ]
            go_wp2_with fail
            first | exact ⟨rfl, rfl, rfl⟩ | rfl
          apply wpS_read (i := 6) rfl rfl ⟨_, (HS.drop2 (E := [.os 5 (.slice A1 m1 c1) (ints .u8 ts), Z32 g2]) (L := [.blk g3 154 (shaC hs (.slice A1 m1 c1) 0)]) hS)⟩ rfl -- Op.nilCheck t52
          · intro w' hT'
            simp only [List.getElem_toArray, List.getElem_cons_zero, List.getElem_cons_succ]
            go_wp2_with fail
            first | exact ⟨rfl, rfl, rfl⟩ | rfl
          apply wpS_read (i := 7) rfl rfl ⟨_, (HS.drop2 (E := [.os 5 (.slice A1 m1 c1) (ints .u8 ts), Z32 g2]) (L := [.blk g3 154 (shaC hs (.slice A1 m1 c1) 0)]) hS)⟩ rfl -- Op.fieldAddr 94 t53 2
          · intro w' hT'
            simp only [List.getElem_toArray, List.getElem_cons_zero, List.getElem_cons_succ]
            go_wp2_with fail
            first | exact ⟨rfl, rfl, rfl⟩ | rfl
          apply wpS_read (i := 8) rfl rfl ⟨_, (HS.drop2 (E := [.os 5 (.slice A1 m1 c1) (ints .u8 ts), Z32 g2]) (L := [.blk g3 154 (shaC hs (.slice A1 m1 c1) 0)]) hS)⟩ rfl -- Op.load 72 t54
          · intro w' hT'
            simp only [List.getElem_toArray, List.getElem_cons_zero, List.getElem_cons_succ]
            have b0 := hT'.oldBlk HB.out id
            have c9 : w'.cell? ⟨gh, 9, none⟩ = some (.int .u64 N) := (b0.cell 9).trans g9.out
            have c8 : w'.cell? ⟨g3, 8, none⟩ = some (.slice A1 m1 c1) := (hT'.cell 0 rfl 8).trans (shaC_get8 HL.out)
            go_wp2_with fail
            first | exact ⟨rfl, rfl, rfl⟩ | rfl
          apply wpS_read (i := 9) rfl rfl ⟨_, (HS.drop2 (E := [.os 5 (.slice A1 m1 c1) (ints .u8 ts), Z32 g2]) (L := [.blk g3 154 (shaC hs (.slice A1 m1 c1) 0)]) hS)⟩ rfl -- Op.binOp BinOp.mul 72 t55 (const (8:u64)) 72
          · intro w' hT'
            simp only [List.getElem_toArray, List.getElem_cons_zero, List.getElem_cons_succ]
            go_wp2_with fail
            first | exact ⟨rfl, rfl, rfl⟩ | rfl
          apply wpS_read (i := 10) rfl rfl ⟨_, (HS.drop2 (E := [.os 5 (.slice A1 m1 c1) (ints .u8 ts), Z32 g2]) (L := [.blk g3 154 (shaC hs (.slice A1 m1 c1) 0)]) hS)⟩ rfl -- Op.move t4
          · intro w' hT'
            simp only [List.getElem_toArray, List.getElem_cons_zero, List.getElem_cons_succ]
            go_wp2_with fail
            first | exact ⟨rfl, rfl, rfl⟩ | rfl
          apply wpS_read (i := 11) rfl rfl ⟨_, (HS.drop2 (E := [.os 5 (.slice A1 m1 c1) (ints .u8 ts), Z32 g2]) (L := [.blk g3 154 (shaC hs (.slice A1 m1 c1) 0)]) hS)⟩ rfl -- Op.binOp BinOp.mul 3 (const (8:i64)) t57 3
          · intro w' hT'
            simp only [List.getElem_toArray, List.getElem_cons_zero, List.getElem_cons_succ]
            go_wp2_with fail
            first | exact ⟨rfl, rfl, rfl⟩ | rfl
          apply wpS_read (i := 12) rfl rfl ⟨_, (HS.drop2 (E := [.os 5 (.slice A1 m1 c1) (ints .u8 ts), Z32 g2]) (L := [.blk g3 154 (shaC hs (.slice A1 m1 c1) 0)]) hS)⟩ rfl -- Op.binOp BinOp.sub 3 (const (56:i64)) t58 3
          · intro w' hT'
            simp only [List.getElem_toArray, List.getElem_cons_zero, List.getElem_cons_succ]
            go_wp2_with fail
            first | exact ⟨rfl, rfl, rfl⟩ | rfl
          apply wpS_read (i := 13) rfl rfl ⟨_, (HS.drop2 (E := [.os 5 (.slice A1 m1 c1) (ints .u8 ts), Z32 g2]) (L := [.blk g3 154 (shaC hs (.slice A1 m1 c1) 0)]) hS)⟩ rfl -- Op.binOp BinOp.shr 72 t56 t59 3
          · intro w' hT'
            simp only [List.getElem_toArray, List.getElem_cons_zero, List.getElem_cons_succ]
            go_wp2_with fail
            first | exact ⟨rfl, rfl, rfl⟩ | rfl
          apply wpS_read (i := 14) rfl rfl ⟨_, (HS.drop2 (E := [.os 5 (.slice A1 m1 c1) (ints .u8 ts), Z32 g2]) (L := [.blk g3 154 (shaC hs (.slice A1 m1 c1) 0)]) hS)⟩ rfl -- Op.convert 72 5 t60
          · intro w' hT'
            simp only [List.getElem_toArray, List.getElem_cons_zero, List.getElem_cons_succ]
            go_wp2_with fail
            first | exact ⟨rfl, rfl, rfl⟩ | rfl
          refine wpS_hard (i := 15) rfl rfl ?_ -- Op.buildSlice 41 1 #[(0, t61)]
          intro w15 hT
          simp only [List.getElem_toArray, List.getElem_cons_zero, List.getElem_cons_succ]
          go_wp2_with (first
            | (rw [hBB.out]; refine hs_one hT rfl 24 5 _ rfl undBytesS sizeU8S zeroU8S (.int .u8 B) rfl rfl _ rfl ?_; clear hT; intro go wo hgo hBo hT)
            | fail)
          refine HardP.mk' ([.os 5 (.slice (some ⟨go, 0, none⟩) 1 1) (ints .u8 [B]), .os 5 (.slice A1 m1 c1) (ints .u8 ts), Z32 g2]) rfl ?_ ?_
          · exact hT
          clear hT
          clear hgo hBo
          refine wpS_hard (i := 16) rfl rfl ?_ -- Op.call { builtin append, args := #[t51, t62], argTypes := #[41, 41]
          intro w16 hT
          replace hT : HS NoF w w16 [.os 5 (.slice (some ⟨go, 0, none⟩) 1 1) (ints .u8 [B]), .os 5 (.slice A1 m1 c1) (ints .u8 ts), Z32 g2, .blk g3 154 (shaC hs (.slice A1 m1 c1) 0)] := hT
          simp only [List.getElem_toArray, List.getElem_cons_zero, List.getElem_cons_succ]
          go_wp2_with (first
            | (refine hs_append hT 1 rfl rfl _ _ 24 rfl 1 undBytesS infoU8S zeroU8S rfl (some ⟨go, 0, none⟩) 1 1 rfl (ints .u8 [B]) rfl (news_of_rd (OwnS.rd (k := .u8) (xs := [B]) (hT.os 0 rfl) rfl)) (ints_one' _ _) (by rw [ints_length, HLT.out]; omega) (by rw [ints_length, HLT.out]; omega) _ rfl ?_; clear hT; intro A3 n3 c3 w3 hn3 hc3 hA3 hT; have HN3 := hid hn3; clear hn3; rw [← ints_append] at hT)
            | fail)
          refine HardP.mk' ([.os 5 (.slice (some ⟨go, 0, none⟩) 1 1) (ints .u8 [B]), .os 5 (.slice A3 n3 c3) (ints .u8 (ts ++ [B])), Z32 g2]) rfl ?_ ?_
          · exact hT
          clear hT
          apply wpS_read (i := 17) rfl rfl ⟨_, (HS.drop2 (E := [.os 5 (.slice A1 m1 c1) (ints .u8 ts), Z32 g2]) (L := [.blk g3 154 (shaC hs (.slice A1 m1 c1) 0)]) hS)⟩ rfl -- Op.nilCheck t47
          · intro w' hT'
            simp only [List.getElem_toArray, List.getElem_cons_zero, List.getElem_cons_succ]
            go_wp2_with fail
            first | exact ⟨rfl, rfl, rfl⟩ | rfl
          apply wpS_read (i := 18) rfl rfl ⟨_, (HS.drop2 (E := [.os 5 (.slice A1 m1 c1) (ints .u8 ts), Z32 g2]) (L := [.blk g3 154 (shaC hs (.slice A1 m1 c1) 0)]) hS)⟩ rfl -- Op.fieldAddr 94 t64 1
          · intro w' hT'
            simp only [List.getElem_toArray, List.getElem_cons_zero, List.getElem_cons_succ]
            go_wp2_with fail
            first | exact ⟨rfl, rfl, rfl⟩ | rfl
          refine wpS_tot (i := 19) rfl rfl (by kernel_rfl) ?_ -- Op.store 41 t65 t63
          intro w19 hT
          replace hT : HS NoF w w19 [.os 5 (.slice (some ⟨go, 0, none⟩) 1 1) (ints .u8 [B]), .os 5 (.slice A3 n3 c3) (ints .u8 (ts ++ [B])), Z32 g2, .blk g3 154 (shaC hs (.slice A1 m1 c1) 0)] := hT
          simp only [List.getElem_toArray, List.getElem_cons_zero, List.getElem_cons_succ]
          go_wp2_with (first
            | (refine hs_store1 hT 3 rfl rfl 24 _ _ rfl 8 rfl (.slice A3 n3 c3) rfl rfl sizeBytesS (by rw [shaC_length HL.out]; decide) _ rfl ?_; clear hT; intro w4 hT; rw [shaC_set8 HL.out] at hT)
            | fail)
          refine TotP.mk' ([.os 5 (.slice (some ⟨go, 0, none⟩) 1 1) (ints .u8 [B]), .os 5 (.slice A3 n3 c3) (ints .u8 (ts ++ [B])), Z32 g2, .blk g3 154 (shaC hs (.slice A3 n3 c3) 0)]) rfl ?_ ?_
          · exact hT
          clear hT
          refine wpS_end ?_
          intro wz hT
          try dsimp only

          rw [hBB.out] at HTS
          have hS : SSh w wz g2 g3 hs A3 n3 c3 (rs ++ [128] ++ List.replicate (padZ N) 0 ++ lenBs N (k + 1)) := by
            rw [← HTS.out]
            exact (hT.erase 0).perm (List.perm_append_comm (l₁ := [Ent.os 5 (.slice A3 n3 c3) (ints .u8 (ts ++ [B])), Z32 g2]) (l₂ := [Ent.blk g3 154 (shaC hs (.slice A3 n3 c3) 0)]))
          go_wp2_with fail
          go_roundg (gk - 1)
          case measure => have := hq.out; omega
          case rel => exact ⟨k + 1, A3, n3, c3, by omega, by go_num, hid (by have h1 := HN3.out; have h2 := hm1.out; have h3 := HLT.out; simp at h1; omega), hid (by have := hq.out; omega), hS⟩
        · obtain rfl : k = 8 := by omega
          have HPAD : Hd (rs ++ [128] ++ List.replicate (padZ N) 0 ++ lenBs N 8 = rs ++ padOf N) := hid (by rw [hN8.out]; simp)
          rw [HPAD.out] at hS
          have HPB : Hd (∀ x ∈ rs ++ padOf N, B8 x) := hid fun x hx => by
            rcases List.mem_append.1 hx with hx | hx
            · exact HRB.out x hx
            · exact padOf_B8 N x hx
          have HPL : Hd ((rs ++ padOf N).length ≤ 200) := hid (by have h1 := HRL.out; have h2 := Nat.mod_lt N (show 64 > 0 by decide); simp [padOf, lenBs, padZ]; omega)
          obtain ⟨ps, hps⟩ : ∃ ps, Hd (rs ++ padOf N = ps) := ⟨_, hid rfl⟩
          rw [hps.out] at hS HPB HPL HEQ
          obtain ⟨hz, hhz⟩ : ∃ hz, Hd (blocksS hs ps (ps.length / 64) = hz) := ⟨_, hid rfl⟩
          have HZL : Hd (hz.length = 8) := hid (hhz.out ▸ blocksS_length hs ps HL.out _)
          have HZW : Hd (∀ x ∈ hz, W32 x) := hid (hhz.out ▸ blocksS_W32 hs ps HW.out _)
          rw [hhz.out] at HEQ
          have hne3 : (Value.slice A1 m1 c1).ownBlock ≠ some g3 := fun he => hS.mem.apart (i := 0) (j := 1) rfl rfl (by decide) g3 rfl he
          have hpl := HPL.out
          clear hlt hk hm1 hn1' hnb hN8
          go_wp2_with (first
            | (go_at_call 75
               refine (write_calls hs ps [] 0 g3 0 0 none (.slice A1 m1 c1) _ (hS.blk 0 rfl) (hS.os 1 rfl) hne3 HL.out HW.out HPB.out (fun x hx => by cases hx) rfl (Nat.le_refl _) (.inl rfl) (fun a ha => by cases ha) (by simp; omega) (by omega)).mono ?_
               rintro e w6 ⟨rfl, vr', hw⟩
               rw [List.append_nil, hhz.out] at hw
               replace hS : HS NoF w w6 [.blk g3 154 (shaC hz vr' 0), .os 5 vr' (ints .u8 (ps.drop (64 * (ps.length / 64)))), Z32 g2] := by
                 have h9 := HS.call (A := [Ent.blk g3 154 (shaC hs (.slice A1 m1 c1) 0), Ent.os 5 (.slice A1 m1 c1) (ints .u8 ps)]) (L := [Z32 g2]) hS hw (fun k hk => by
                   rcases hk with hk | hk
                   · exact ⟨_, List.mem_cons_self .., hk⟩
                   · exact ⟨_, List.mem_cons_of_mem _ (List.mem_cons_self ..), hk⟩)
                 exact h9
               clear hw)
            | (refine alloc_blk rfl 30 rfl _ rfl (ints .u8 (List.replicate 32 0)) zeroHashS ?_; intro g5 w7 hga hba hBa hsa; replace hS := hS.pushBlk hBa hba hga; clear hga hba hBa hsa)
            | fail)
          obtain ⟨ql, hql⟩ : ∃ ql, Hd (ps.drop (64 * (ps.length / 64)) = ql) := ⟨_, hid rfl⟩
          rw [hql.out] at hS
          replace hS : HS NoF w w7 [.blk g5 30 (ints .u8 (outSh hz 0)), .blk g3 154 (shaC hz vr' 0), .os 5 vr' (ints .u8 ql), Z32 g2] := hS
          clear hq
          go_loopg [6, 69] 33 (fun kq v6 v69 wr => ∃ k : Nat, k ≤ 32 ∧ v69 = .int .i64 k ∧ Hd (kq + k = 33) ∧ HS NoF w wr [.blk g5 30 (ints .u8 (outSh hz k)), .blk g3 154 (shaC hz vr' 0), .os 5 vr' (ints .u8 ql), Z32 g2])
          case atStart => exact ⟨0, by omega, rfl, hid (by omega), hS⟩
          case round =>
            clear hS
            obtain ⟨k, hk, rfl, hq, hS⟩ := hrel
            by_cases hlt : k < 32
            · have hlt2 : (k : Int) < 32 := by omega
              obtain ⟨j, hj⟩ : ∃ j : Nat, k / 4 = j := ⟨_, rfl⟩
              obtain ⟨r, hr⟩ : ∃ r : Nat, k % 4 = r := ⟨_, rfl⟩
              obtain ⟨s, hs'⟩ : ∃ s : Nat, 24 - 8 * r = s := ⟨_, rfl⟩
              have e1 : (k : Int) / 4 = (j : Int) := by omega
              have e2 : (k : Int) % 4 = (r : Int) := by omega
              have e3 : 24 - 8 * (r : Int) = (s : Int) := by omega
              have hj8 : j < 8 := by omega
              have hr4 : r < 4 := by omega
              have hs24 : s ≤ 24 := by omega
              have HX := hid (outSh_succ hz k)
              have HB1 : Hd (outB hz k = rd hz j / 2 ^ s % 256) := hid (by unfold outB; rw [hj, hr, hs'])
              obtain ⟨x, hx⟩ : ∃ x, rd hz j = x := ⟨_, rfl⟩
              obtain ⟨rx, sx⟩ : W32 x := hx ▸ rd_all HZW.out zero_W32 _
              rw [hx] at HB1
              have cx : wr.cell? ⟨g3, j, none⟩ = some (.int .u32 x) := by rw [hS.cell 1 rfl j]; unfold shaC; rw [List.getElem?_append_left (by simp [HZL.out]; omega), ints_get _ _ _ (by rw [HZL.out]; omega), hx]
              clear hj hr hs' hx
              go_wp2_with (first
                | (refine hs_store1 hS 0 rfl rfl 5 _ _ rfl k rfl (.int .u8 (x / 2 ^ s % 256)) rfl rfl sizeU8S (by simp; omega) _ rfl ?_
                   clear hS cx; intro w8 hS; rw [ints_set, ← HB1.out, ← HX.out] at hS)
                | fail)
              go_roundg (gk - 1)
              case measure => have := hq.out; omega
              case rel => exact ⟨k + 1, by omega, by go_num, hid (by have := hq.out; omega), hS⟩
            · obtain rfl : k = 32 := by omega
              rw [← HEQ.out] at hS
              have HLL : Hd ((shaOf xs).length = 32) := hid (shaOf_length xs)
              obtain ⟨ds, hds⟩ : ∃ ds, Hd (shaOf xs = ds) := ⟨_, hid rfl⟩
              rw [hds.out] at hS HLL HEQ
              clear hlt hk hq
              go_wp2_with (first
                | (refine hs_loadW hS 0 rfl rfl 30 _ rfl rfl 32 infoHashS (by simp [HLL.out]) _ arrHashS rfl _ rfl ?_)
                | (refine hs_storeW hS 3 rfl rfl 30 _ _ rfl rfl (ints .u8 ds) rfl (ints_one' _ _) _ infoHashS (by simp [HLL.out]) (by simp) _ rfl ?_; clear hS; intro w9 hS)
                | fail)
              refine bodyPost_ret (results_blk rfl _ _ g2 _ _ 32 _ rfl (hS.blk 3 rfl) arrHashS (by simp [HLL.out]) infoHashS) rfl ⟨by rw [hds.out], hS.bel⟩
end Go.Proofs.YtckcdngnkpfcfaaDoor
/- The program's New, and the digest of lists, one behind the other. -/
namespace Go.Proofs.YtckcdngnkpfcfaaDoor
open Go.RowKit Go.Cour
theorem builtW8 : Tryd.prog.built 154 [(0, .agg (ints .u32 shaH0).toArray)] = some (shaC shaH0 (.slice none 0 0) 0).toArray := by kernel_rfl
set_option maxRecDepth 100000 in
theorem new_calls (w : World) : Calls Tryd.prog 74 #[] w fun e w' => ∃ g, e = .returned (.pointer (some ⟨g, 0, none⟩)) ∧ HS NoF w w' [.blk g 154 (shaC shaH0 (.slice none 0 0) 0)] := by
  have hS := HS.start NoF w
  go_enter Tryd.func74, Tryd.ntmps74
  go_wp2_with (first
    | (refine wpList_buildFlatArr rfl 94 29 8 _ rfl .u32 shaH0 arrW8 sizeU32 (by kernel_rfl) (by rfl) ?_)
    | (refine build_to rfl 154 _ rfl (shaC shaH0 (.slice none 0 0) 0).toArray (by rw [Array.toList_map]; exact builtW8) ?_)
    | (refine box_blk rfl 154 _ rfl _ rfl (shaC shaH0 (.slice none 0 0) 0) rfl ?_; intro g wz hga hba hBa hsa; replace hS := hS.pushBlk hBa hba hga)
    | fail)
  go_ret
  exact ⟨g, rfl, hS⟩
/-- Lists that stand in memory, one behind the other. -/
def RdL (w : World) (A : Option Addr) (bss : List (List Int)) : Prop :=
  bss = [] ∨ ∃ g o, A = some ⟨g, o, none⟩ ∧ ∀ i bs, bss[i]? = some bs → ∃ (Ai : Option Addr) (ni ci : Nat), w.cell? ⟨g, o + i, none⟩ = some (.slice Ai ni ci) ∧ bs.length = ni ∧ ni ≤ ci ∧ Rd w Ai .u8 bs
theorem os_nil (w : World) : OwnS w 5 (.slice none 0 0) (ints .u8 []) := .inl ⟨rfl, rfl⟩
set_option maxHeartbeats 1000000 in
set_option maxRecDepth 100000 in
theorem shasum_calls (bss : List (List Int)) (m c : Nat) (A : Option Addr) (w : World) (hm : bss.length = m) (hr : RdL w A bss) (hb : ∀ bs ∈ bss, ∀ x ∈ bs, B8 x) (hsz : bss.flatten.length ≤ 100000000) (hmm : m ≤ 100000000) :
    Calls Tryd.prog 42 #[.slice A m c] w fun e w' => e = .returned (.agg (ints .u8 (shaOf bss.flatten)).toArray) ∧ Below w.heap.size w w' := by
  have hS := HS.start NoF w
  have HM := hid hm
  have HR := hid hr
  have HB := hid hb
  have HSZ := hid hsz
  clear hm hr hb hsz
  go_enter Tryd.func42, Tryd.ntmps42
  go_wp2_with (first
    | (refine alloc_blk rfl 30 rfl _ rfl (ints .u8 (List.replicate 32 0)) zeroHashS ?_; intro g2 w2 hga hba hBa hsa; replace hS := hS.pushBlk hBa hba hga; clear hga hba hBa hsa)
    | (go_at_call 74; refine (new_calls _).mono ?_; rintro e w3 ⟨gh, rfl, hn⟩
       replace hS : HS NoF w w3 [.blk gh 154 (shaC shaH0 (.slice none 0 0) 0), Z32 g2] := HS.call (A := []) hS hn (fun k hk => hk.elim)
       clear hn)
    | fail)
  have hS0 : HS NoF w w3 [.blk gh 154 (shaC (hOf (bss.take 0).flatten) (.slice none 0 0) ((bss.take 0).flatten.length : Nat)), .os 5 (.slice none 0 0) (ints .u8 (restOf (bss.take 0).flatten)), Z32 g2] := by
    have h1 := hS.take (.os 5 (.slice none 0 0) (ints .u8 [])) (os_nil _) (fun k hk => by cases hk) (fun f hf k hk => by cases hk)
    have e0 : (bss.take 0).flatten = [] := rfl
    have e1 : hOf [] = shaH0 := rfl
    have e2 : restOf [] = [] := rfl
    rw [e0, e1, e2]
    exact h1.perm (List.Perm.swap _ _ _)
  clear hS
  go_loopg [5, 9] (m + 1) (fun kq v5 v9 wr => ∃ (i : Nat) (vr : Value), i ≤ m ∧ v9 = .int .i64 i ∧ Hd (kq + i = m + 1) ∧ HS NoF w wr [.blk gh 154 (shaC (hOf (bss.take i).flatten) vr ((bss.take i).flatten.length : Nat)), .os 5 vr (ints .u8 (restOf (bss.take i).flatten)), Z32 g2])
  case atStart => exact ⟨0, _, by omega, rfl, hid (by omega), hS0⟩
  case round =>
    clear hS0
    obtain ⟨i, vr, hi, rfl, hq, hS⟩ := hrel
    have hown : vr.ownBlock ≠ some gh := fun he => hS.mem.apart (i := 0) (j := 1) rfl rfl (by decide) gh rfl he
    have hle : Hd ((bss.take i).flatten.length ≤ bss.flatten.length) := hid (by
      conv => rhs; rw [← List.take_append_drop i bss, List.flatten_append, List.length_append]
      omega)
    by_cases hlt : i < m
    · have hlt2 : (i : Int) < m := by omega
      obtain ⟨bs, hbs⟩ : ∃ bs, bss[i]? = some bs := ⟨bss[i]'(by rw [HM.out]; exact hlt), List.getElem?_eq_getElem _⟩
      have HT : Hd ((bss.take (i + 1)).flatten = (bss.take i).flatten ++ bs) := hid (by rw [List.take_add_one, hbs, List.flatten_append]; simp)
      have hle2 : Hd ((bss.take (i + 1)).flatten.length ≤ bss.flatten.length) := hid (by
        conv => rhs; rw [← List.take_append_drop (i + 1) bss, List.flatten_append, List.length_append]
        omega)
      have HBS : Hd (∀ x ∈ bs, B8 x) := hid (HB.out bs (List.mem_of_getElem? hbs))
      have HM8 : Hd (∀ x ∈ restOf (bss.take i).flatten, B8 x) := hid fun x hx => by
        obtain ⟨l, hl, hxl⟩ := List.mem_flatten.1 (List.mem_of_mem_drop hx)
        exact HB.out l (List.mem_of_mem_take hl) x hxl
      obtain ⟨g, o, rfl, hall⟩ : ∃ g o, A = some ⟨g, o, none⟩ ∧ ∀ i bs, bss[i]? = some bs → ∃ (Ai : Option Addr) (ni ci : Nat), w.cell? ⟨g, o + i, none⟩ = some (.slice Ai ni ci) ∧ bs.length = ni ∧ ni ≤ ci ∧ Rd w Ai .u8 bs := by
        rcases HR.out with h | h
        · rw [h] at hbs; simp at hbs
        · exact h
      obtain ⟨Ai, ni, ci, hcell, hni, hnc, hrd⟩ := hall i bs hbs
      have cc := hS.oldCell hcell id
      have HRD := hid (hS.oldRd hrd (fun _ _ _ h => h))
      have HSEP : Hd (∀ a, Ai = some a → bs ≠ [] → ¬ SF gh vr a.block) := hid fun a ha hne hf => by
        have hlt' : a.block < w.heap.size := by
          rcases hrd with h | ⟨g', o', he, h⟩
          · exact absurd h hne
          · rw [ha] at he; injection he with he; subst he
            exact lt_of_cell (h 0 (by cases bs with | nil => exact absurd rfl hne | cons => simp))
        rcases hf with hf | hf
        · rcases hS.own _ (List.mem_cons_self ..) a.block hf with h | h
          · exact h
          · omega
        · rcases hS.own _ (List.mem_cons_of_mem _ (List.mem_cons_self ..)) a.block hf with h | h
          · exact h
          · omega
      have HNI := hid hni
      obtain ⟨M, hMM⟩ : ∃ M, Hd ((bss.take i).flatten = M) := ⟨_, hid rfl⟩
      rw [hMM.out] at hS HT hle HM8
      have HLEN : Hd ((M ++ bs).length ≤ 100000000) := hid (by rw [← HT.out]; exact Nat.le_trans hle2.out HSZ.out)
      clear hall hcell hrd hni hle2 hbs
      go_wp2_with (first
        | (go_at_call 75
           refine (write_calls (hOf M) (restOf M) bs (M.length : Nat) gh ni ci Ai vr _ (hS.blk 0 rfl) (hS.os 1 rfl) hown (hOf_length M) (hOf_W32 M) HM8.out HBS.out HNI.out hnc HRD.out HSEP.out
             (by rw [restOf_length]; have h1 := HLEN.out; have h2 := HNI.out; rw [List.length_append] at h1; omega) (by have h1 := HLEN.out; rw [List.length_append] at h1; omega)).mono ?_
           rintro e w6 ⟨rfl, vr', hw⟩
           rw [hOf_append, restOf_append, ← HT.out] at hw
           have HLN : Hd ((M.length : Int) + ni = ((bss.take (i + 1)).flatten.length : Nat)) := hid (by rw [HT.out, List.length_append, HNI.out]; omega)
           rw [HLN.out] at hw
           replace hS : HS NoF w w6 [.blk gh 154 (shaC (hOf (bss.take (i + 1)).flatten) vr' ((bss.take (i + 1)).flatten.length : Nat)), .os 5 vr' (ints .u8 (restOf (bss.take (i + 1)).flatten)), Z32 g2] :=
             HS.call (A := [Ent.blk gh 154 (shaC (hOf M) vr (M.length : Nat)), Ent.os 5 vr (ints .u8 (restOf M))]) (L := [Z32 g2]) hS hw (fun k hk => by
                   rcases hk with hk | hk
                   · exact ⟨_, List.mem_cons_self .., hk⟩
                   · exact ⟨_, List.mem_cons_of_mem _ (List.mem_cons_self ..), hk⟩)
           clear hw)
        | fail)
      go_roundg (gk - 1)
      case measure => have := hq.out; omega
      case rel => exact ⟨i + 1, vr', by omega, by go_num, hid (by have := hq.out; omega), hS⟩
    · obtain rfl : i = m := by omega
      have HALL : Hd (bss.take i = bss) := hid (List.take_of_length_le (by rw [HM.out]; exact Nat.le_refl _))
      rw [HALL.out] at hS hle
      have HB8 : Hd (∀ x ∈ bss.flatten, B8 x) := hid fun x hx => by
        obtain ⟨l, hl, hxl⟩ := List.mem_flatten.1 hx
        exact HB.out l hl x hxl
      obtain ⟨M, hMM⟩ : ∃ M, Hd (bss.flatten = M) := ⟨_, hid rfl⟩
      rw [hMM.out] at hS HB8 HSZ
      have HSL : Hd ((shaOf M).length = 32) := hid (shaOf_length M)
      clear hlt hi hq
      go_wp2_with (first
        | (go_at_call 76
           refine (sumH_calls M gh vr _ (hS.blk 0 rfl) (hS.os 1 rfl) hown HB8.out (by have := HSZ.out; omega)).mono ?_
           rintro e w6 ⟨rfl, hB⟩
           replace hS := hS.below hB
           clear hB)
        | (refine hs_storeW hS 2 rfl rfl 30 _ _ rfl rfl (ints .u8 (shaOf M)) rfl (ints_one' _ _) _ infoHashS (by simp [HSL.out]) (by simp) _ rfl ?_; clear hS; intro w9 hS)
        | fail)
      refine bodyPost_ret (results_blk rfl _ _ g2 _ _ 32 _ rfl (hS.blk 2 rfl) arrHashS (by simp [HSL.out]) infoHashS) rfl ⟨by rw [hMM.out], hS.bel⟩
end Go.Proofs.YtckcdngnkpfcfaaDoor
/- The reference's round. -/
namespace Go.Proofs.YtckcdngnkpfcfaaDoor
open Go.RowKit Go.Cour
theorem bits_or_comm' (k : IntKind) (x y : Int) : bits .or k x y = bits .or k y x := by
  unfold bits
  simp only [BitVec.or_comm]
theorem rotr2_calls (x : Int) (w : World) (h : 0 ≤ x) (h' : x < 4294967296) :
    Calls Tryd.prog 77 #[.int .u32 x, .int .u64 2] w fun e w' => e = .returned (.int .u32 (rotr 2 x)) ∧ w' = w :=
  (rot2_calls x w h h').mono fun e w' ⟨h1, h2⟩ => ⟨by rw [h1, bits_or_comm']; rfl, h2⟩
theorem rotr6_calls (x : Int) (w : World) (h : 0 ≤ x) (h' : x < 4294967296) :
    Calls Tryd.prog 77 #[.int .u32 x, .int .u64 6] w fun e w' => e = .returned (.int .u32 (rotr 6 x)) ∧ w' = w :=
  (rot6_calls x w h h').mono fun e w' ⟨h1, h2⟩ => ⟨by rw [h1, bits_or_comm']; rfl, h2⟩
theorem rotr7_calls (x : Int) (w : World) (h : 0 ≤ x) (h' : x < 4294967296) :
    Calls Tryd.prog 77 #[.int .u32 x, .int .u64 7] w fun e w' => e = .returned (.int .u32 (rotr 7 x)) ∧ w' = w :=
  (rot7_calls x w h h').mono fun e w' ⟨h1, h2⟩ => ⟨by rw [h1, bits_or_comm']; rfl, h2⟩
theorem rotr11_calls (x : Int) (w : World) (h : 0 ≤ x) (h' : x < 4294967296) :
    Calls Tryd.prog 77 #[.int .u32 x, .int .u64 11] w fun e w' => e = .returned (.int .u32 (rotr 11 x)) ∧ w' = w :=
  (rot11_calls x w h h').mono fun e w' ⟨h1, h2⟩ => ⟨by rw [h1, bits_or_comm']; rfl, h2⟩
theorem rotr13_calls (x : Int) (w : World) (h : 0 ≤ x) (h' : x < 4294967296) :
    Calls Tryd.prog 77 #[.int .u32 x, .int .u64 13] w fun e w' => e = .returned (.int .u32 (rotr 13 x)) ∧ w' = w :=
  (rot13_calls x w h h').mono fun e w' ⟨h1, h2⟩ => ⟨by rw [h1, bits_or_comm']; rfl, h2⟩
theorem rotr17_calls (x : Int) (w : World) (h : 0 ≤ x) (h' : x < 4294967296) :
    Calls Tryd.prog 77 #[.int .u32 x, .int .u64 17] w fun e w' => e = .returned (.int .u32 (rotr 17 x)) ∧ w' = w :=
  (rot17_calls x w h h').mono fun e w' ⟨h1, h2⟩ => ⟨by rw [h1, bits_or_comm']; rfl, h2⟩
theorem rotr18_calls (x : Int) (w : World) (h : 0 ≤ x) (h' : x < 4294967296) :
    Calls Tryd.prog 77 #[.int .u32 x, .int .u64 18] w fun e w' => e = .returned (.int .u32 (rotr 18 x)) ∧ w' = w :=
  (rot18_calls x w h h').mono fun e w' ⟨h1, h2⟩ => ⟨by rw [h1, bits_or_comm']; rfl, h2⟩
theorem rotr19_calls (x : Int) (w : World) (h : 0 ≤ x) (h' : x < 4294967296) :
    Calls Tryd.prog 77 #[.int .u32 x, .int .u64 19] w fun e w' => e = .returned (.int .u32 (rotr 19 x)) ∧ w' = w :=
  (rot19_calls x w h h').mono fun e w' ⟨h1, h2⟩ => ⟨by rw [h1, bits_or_comm']; rfl, h2⟩
theorem rotr22_calls (x : Int) (w : World) (h : 0 ≤ x) (h' : x < 4294967296) :
    Calls Tryd.prog 77 #[.int .u32 x, .int .u64 22] w fun e w' => e = .returned (.int .u32 (rotr 22 x)) ∧ w' = w :=
  (rot22_calls x w h h').mono fun e w' ⟨h1, h2⟩ => ⟨by rw [h1, bits_or_comm']; rfl, h2⟩
theorem rotr25_calls (x : Int) (w : World) (h : 0 ≤ x) (h' : x < 4294967296) :
    Calls Tryd.prog 77 #[.int .u32 x, .int .u64 25] w fun e w' => e = .returned (.int .u32 (rotr 25 x)) ∧ w' = w :=
  (rot25_calls x w h h').mono fun e w' ⟨h1, h2⟩ => ⟨by rw [h1, bits_or_comm']; rfl, h2⟩
/-- What the blocks of the reference's round hold. -/
abbrev RS (w wr : World) (g2 g4 g5 g6 : Nat) (h ks xs : List Int) : Prop := HS NoF w wr [.blk g6 134 (ints .u32 xs), .blk g5 134 (ints .u32 ks), .blk g4 94 (ints .u32 (List.replicate 8 0)), .blk g2 94 (ints .u32 h)]
abbrev RV (w wr : World) (g2 g4 g5 g6 gv : Nat) (h ks xs v : List Int) : Prop := HS NoF w wr [.blk gv 94 (ints .u32 v), .blk g6 134 (ints .u32 xs), .blk g5 134 (ints .u32 ks), .blk g4 94 (ints .u32 (List.replicate 8 0)), .blk g2 94 (ints .u32 h)]
set_option maxHeartbeats 4000000 in
set_option maxRecDepth 100000 in
theorem round1_calls (h b : List Int) (g o n c : Nat) (w : World) (hl : h.length = 8) (hh : ∀ x ∈ h, W32 x) (hb : At w g o b 64) (hr : ∀ i, 0 ≤ rd b i ∧ rd b i < 256) (hn : 64 ≤ n) :
    Calls Tryd.prog 44 #[.agg (ints .u32 h).toArray, .slice (some ⟨g, o, none⟩) n c] w fun e w' => e = .returned (.agg (ints .u32 (shaBlock h b)).toArray) ∧ Below w.heap.size w w' := by
  have HB := hid hb
  have HR := hid hr
  have HL := hid hl
  obtain ⟨ks, hks⟩ : ∃ ks, Hd (shaK = ks) := ⟨_, hid rfl⟩
  have HLk : Hd (ks.length = 64) := hid (by rw [← hks.out]; rfl)
  have hKb : Hd (Tryd.prog.built 134 ((shaK.zipIdx 0).map fun x => (x.2, Value.int .u32 x.1)) = some (ints .u32 ks).toArray) := hid (by rw [← hks.out]; kernel_rfl)
  clear hb hr hl
  have hS := HS.start NoF w
  go_enter Tryd.func44, Tryd.ntmps44
  go_wp2_with (first
    | (refine box_blk rfl 94 _ rfl _ rfl (ints .u32 h) rfl ?_; intro g2 wz hga hba hBa hsa; replace hS := hS.pushBlk hBa hba hga; clear hga hba hBa hsa)
    | (refine alloc_blk rfl 94 rfl _ rfl (ints .u32 (List.replicate 8 0)) zeroW8 ?_; intro g4 w4 hga hba hBa hsa; replace hS := hS.pushBlk hBa hba hga; clear hga hba hBa hsa)
    | (have _ := mk0; refine alloc_blk rfl 134 rfl _ rfl (ints .u32 (List.replicate 64 0)) zeroW64 ?_; intro g6 w6 hga hba hBa hsa; replace hS := hS.pushBlk hBa hba hga; clear hga hba hBa hsa; have mk1 : True := trivial)
    | (refine alloc_blk rfl 134 rfl _ rfl (ints .u32 (List.replicate 64 0)) zeroW64 ?_; intro g5 w5 hga hba hBa hsa; replace hS := hS.pushBlk hBa hba hga; clear hga hba hBa hsa; have mk0 : True := trivial)
    | (refine wpList_buildFlatArr rfl 134 29 64 _ rfl .u32 shaK arrW64 sizeU32 (by kernel_rfl) (by rfl) ?_; rw [show (shaK.map (Value.int .u32)) = ints .u32 ks from by rw [hks.out]; rfl])
    | (refine hs_storeW hS 0 rfl rfl 134 _ _ rfl rfl (ints .u32 ks) rfl (ints_one' _ _) _ infoW64 (by simp [HLk.out]) (by simp) _ rfl ?_; clear hS; intro w9 hS)
    | fail)
  replace hS : RS w w6 g2 g4 g5 g6 h ks (schedA b 0) := hS
  clear hKb
  go_loopg [7] 17 (fun kq v7 wr => ∃ i : Nat, i ≤ 16 ∧ v7 = .int .i64 i ∧ Hd (kq + i = 17) ∧ RS w wr g2 g4 g5 g6 h ks (schedA b i))
  case atStart => exact ⟨0, by omega, rfl, hid (by omega), hS⟩
  case round =>
    clear hS
    obtain ⟨i, hi, rfl, hq, hS⟩ := hrel
    by_cases hlt : i < 16
    · have hlt2 : (i : Int) < 16 := by omega
      obtain ⟨p, hp⟩ : ∃ p : Nat, 4 * i = p := ⟨_, rfl⟩
      have hp2 : 4 * (i : Int) = (p : Int) := by omega
      have hpn : p + 3 < n := by omega
      have HW : Hd (word32 b i = bits .or .u32 (bits .or .u32 (bits .or .u32 (rd b p * 16777216) (rd b (p + 1) * 65536)) (rd b (p + 2) * 256)) (rd b (p + 3))) := hid (by rw [← hp]; rfl)
      have r0 := HR.out p
      have r1 := HR.out (p + 1)
      have r2 := HR.out (p + 2)
      have r3 := HR.out (p + 3)
      have c0 := hid (HB.out p (by omega))
      have c1 := hid (HB.out (p + 1) (by omega))
      have c2 := hid (HB.out (p + 2) (by omega))
      have c3 := hid (HB.out (p + 3) (by omega))
      have HLA : Hd (i < (schedA b i).length) := hid (by simp; omega)
      have HX := hid (schedA_succ b i)
      generalize rd b p = b0 at *
      generalize rd b (p + 1) = b1 at *
      generalize rd b (p + 2) = b2 at *
      generalize rd b (p + 3) = b3 at *
      clear hp
      try go_wp2_with fail
      refine wp_region_L (T := fun w' => RS w w' g2 g4 g5 g6 h ks (schedA b i)) (by kernel_rfl) (by kernel_rfl) hS.drew ?_
      intro wa hT
      show wpT _ _ _ _ [0, 1, 2, 3, 4, 5, 6, 7, 8, 9, 10, 11, 12, 13, 14, 15, 16, 17, 18, 19, 20, 21, 22, 23, 24, 25, 26, 27, 28, 29, 30, 31, 32, 33, 34, 35] _ _
      apply wpT_read (i := 0) rfl hT rfl -- Op.move t7
      · intro w' hT'
        simp only [List.getElem_toArray, List.getElem_cons_zero, List.getElem_cons_succ]
        go_wp2_with fail
        first | exact ⟨rfl, rfl, rfl⟩ | rfl
      apply wpT_read (i := 1) rfl hT rfl -- Op.move t1
      · intro w' hT'
        simp only [List.getElem_toArray, List.getElem_cons_zero, List.getElem_cons_succ]
        go_wp2_with fail
        first | exact ⟨rfl, rfl, rfl⟩ | rfl
      apply wpT_read (i := 2) rfl hT rfl -- Op.move t7
      · intro w' hT'
        simp only [List.getElem_toArray, List.getElem_cons_zero, List.getElem_cons_succ]
        go_wp2_with fail
        first | exact ⟨rfl, rfl, rfl⟩ | rfl
      apply wpT_read (i := 3) rfl hT rfl -- Op.binOp BinOp.mul 3 (const (4:i64)) t26 3
      · intro w' hT'
        simp only [List.getElem_toArray, List.getElem_cons_zero, List.getElem_cons_succ]
        go_wp2_with fail
        first | exact ⟨rfl, rfl, rfl⟩ | rfl
      apply wpT_read (i := 4) rfl hT rfl -- Op.indexAddr 41 t25 t27
      · intro w' hT'
        simp only [List.getElem_toArray, List.getElem_cons_zero, List.getElem_cons_succ]
        go_wp2_with fail
        first | exact ⟨rfl, rfl, rfl⟩ | rfl
      apply wpT_read (i := 5) rfl hT rfl -- Op.load 5 t28
      · intro w' hT'
        simp only [List.getElem_toArray, List.getElem_cons_zero, List.getElem_cons_succ]
        have k0 := hT'.oldCell c0.out id
        have k1 := hT'.oldCell c1.out id
        have k2 := hT'.oldCell c2.out id
        have k3 := hT'.oldCell c3.out id
        go_wp2_with fail
        first | exact ⟨rfl, rfl, rfl⟩ | rfl
      apply wpT_read (i := 6) rfl hT rfl -- Op.convert 5 73 t29
      · intro w' hT'
        simp only [List.getElem_toArray, List.getElem_cons_zero, List.getElem_cons_succ]
        go_wp2_with fail
        first | exact ⟨rfl, rfl, rfl⟩ | rfl
      apply wpT_read (i := 7) rfl hT rfl -- Op.binOp BinOp.shl 73 t30 (const (24:u64)) 63
      · intro w' hT'
        simp only [List.getElem_toArray, List.getElem_cons_zero, List.getElem_cons_succ]
        go_wp2_with fail
        first | exact ⟨rfl, rfl, rfl⟩ | rfl
      apply wpT_read (i := 8) rfl hT rfl -- Op.move t1
      · intro w' hT'
        simp only [List.getElem_toArray, List.getElem_cons_zero, List.getElem_cons_succ]
        go_wp2_with fail
        first | exact ⟨rfl, rfl, rfl⟩ | rfl
      apply wpT_read (i := 9) rfl hT rfl -- Op.move t7
      · intro w' hT'
        simp only [List.getElem_toArray, List.getElem_cons_zero, List.getElem_cons_succ]
        go_wp2_with fail
        first | exact ⟨rfl, rfl, rfl⟩ | rfl
      apply wpT_read (i := 10) rfl hT rfl -- Op.binOp BinOp.mul 3 (const (4:i64)) t33 3
      · intro w' hT'
        simp only [List.getElem_toArray, List.getElem_cons_zero, List.getElem_cons_succ]
        go_wp2_with fail
        first | exact ⟨rfl, rfl, rfl⟩ | rfl
      apply wpT_read (i := 11) rfl hT rfl -- Op.binOp BinOp.add 3 t34 (const (1:i64)) 3
      · intro w' hT'
        simp only [List.getElem_toArray, List.getElem_cons_zero, List.getElem_cons_succ]
        go_wp2_with fail
        first | exact ⟨rfl, rfl, rfl⟩ | rfl
      apply wpT_read (i := 12) rfl hT rfl -- Op.indexAddr 41 t32 t35
      · intro w' hT'
        simp only [List.getElem_toArray, List.getElem_cons_zero, List.getElem_cons_succ]
        go_wp2_with fail
        first | exact ⟨rfl, rfl, rfl⟩ | rfl
      apply wpT_read (i := 13) rfl hT rfl -- Op.load 5 t36
      · intro w' hT'
        simp only [List.getElem_toArray, List.getElem_cons_zero, List.getElem_cons_succ]
        have k0 := hT'.oldCell c0.out id
        have k1 := hT'.oldCell c1.out id
        have k2 := hT'.oldCell c2.out id
        have k3 := hT'.oldCell c3.out id
        go_wp2_with fail
        first | exact ⟨rfl, rfl, rfl⟩ | rfl
      apply wpT_read (i := 14) rfl hT rfl -- Op.convert 5 73 t37
      · intro w' hT'
        simp only [List.getElem_toArray, List.getElem_cons_zero, List.getElem_cons_succ]
        go_wp2_with fail
        first | exact ⟨rfl, rfl, rfl⟩ | rfl
      apply wpT_read (i := 15) rfl hT rfl -- Op.binOp BinOp.shl 73 t38 (const (16:u64)) 63
      · intro w' hT'
        simp only [List.getElem_toArray, List.getElem_cons_zero, List.getElem_cons_succ]
        go_wp2_with fail
        first | exact ⟨rfl, rfl, rfl⟩ | rfl
      apply wpT_read (i := 16) rfl hT rfl -- Op.binOp BinOp.or 73 t31 t39 73
      · intro w' hT'
        simp only [List.getElem_toArray, List.getElem_cons_zero, List.getElem_cons_succ]
        go_wp2_with fail
        first | exact ⟨rfl, rfl, rfl⟩ | rfl
      apply wpT_read (i := 17) rfl hT rfl -- Op.move t1
      · intro w' hT'
        simp only [List.getElem_toArray, List.getElem_cons_zero, List.getElem_cons_succ]
        go_wp2_with fail
        first | exact ⟨rfl, rfl, rfl⟩ | rfl
      apply wpT_read (i := 18) rfl hT rfl -- Op.move t7
      · intro w' hT'
        simp only [List.getElem_toArray, List.getElem_cons_zero, List.getElem_cons_succ]
        go_wp2_with fail
        first | exact ⟨rfl, rfl, rfl⟩ | rfl
      apply wpT_read (i := 19) rfl hT rfl -- Op.binOp BinOp.mul 3 (const (4:i64)) t42 3
      · intro w' hT'
        simp only [List.getElem_toArray, List.getElem_cons_zero, List.getElem_cons_succ]
        go_wp2_with fail
        first | exact ⟨rfl, rfl, rfl⟩ | rfl
      apply wpT_read (i := 20) rfl hT rfl -- Op.binOp BinOp.add 3 t43 (const (2:i64)) 3
      · intro w' hT'
        simp only [List.getElem_toArray, List.getElem_cons_zero, List.getElem_cons_succ]
        go_wp2_with fail
        first | exact ⟨rfl, rfl, rfl⟩ | rfl
      apply wpT_read (i := 21) rfl hT rfl -- Op.indexAddr 41 t41 t44
      · intro w' hT'
        simp only [List.getElem_toArray, List.getElem_cons_zero, List.getElem_cons_succ]
        go_wp2_with fail
        first | exact ⟨rfl, rfl, rfl⟩ | rfl
      apply wpT_read (i := 22) rfl hT rfl -- Op.load 5 t45
      · intro w' hT'
        simp only [List.getElem_toArray, List.getElem_cons_zero, List.getElem_cons_succ]
        have k0 := hT'.oldCell c0.out id
        have k1 := hT'.oldCell c1.out id
        have k2 := hT'.oldCell c2.out id
        have k3 := hT'.oldCell c3.out id
        go_wp2_with fail
        first | exact ⟨rfl, rfl, rfl⟩ | rfl
      apply wpT_read (i := 23) rfl hT rfl -- Op.convert 5 73 t46
      · intro w' hT'
        simp only [List.getElem_toArray, List.getElem_cons_zero, List.getElem_cons_succ]
        go_wp2_with fail
        first | exact ⟨rfl, rfl, rfl⟩ | rfl
      apply wpT_read (i := 24) rfl hT rfl -- Op.binOp BinOp.shl 73 t47 (const (8:u64)) 63
      · intro w' hT'
        simp only [List.getElem_toArray, List.getElem_cons_zero, List.getElem_cons_succ]
        go_wp2_with fail
        first | exact ⟨rfl, rfl, rfl⟩ | rfl
      apply wpT_read (i := 25) rfl hT rfl -- Op.binOp BinOp.or 73 t40 t48 73
      · intro w' hT'
        simp only [List.getElem_toArray, List.getElem_cons_zero, List.getElem_cons_succ]
        go_wp2_with fail
        first | exact ⟨rfl, rfl, rfl⟩ | rfl
      apply wpT_read (i := 26) rfl hT rfl -- Op.move t1
      · intro w' hT'
        simp only [List.getElem_toArray, List.getElem_cons_zero, List.getElem_cons_succ]
        go_wp2_with fail
        first | exact ⟨rfl, rfl, rfl⟩ | rfl
      apply wpT_read (i := 27) rfl hT rfl -- Op.move t7
      · intro w' hT'
        simp only [List.getElem_toArray, List.getElem_cons_zero, List.getElem_cons_succ]
        go_wp2_with fail
        first | exact ⟨rfl, rfl, rfl⟩ | rfl
      apply wpT_read (i := 28) rfl hT rfl -- Op.binOp BinOp.mul 3 (const (4:i64)) t51 3
      · intro w' hT'
        simp only [List.getElem_toArray, List.getElem_cons_zero, List.getElem_cons_succ]
        go_wp2_with fail
        first | exact ⟨rfl, rfl, rfl⟩ | rfl
      apply wpT_read (i := 29) rfl hT rfl -- Op.binOp BinOp.add 3 t52 (const (3:i64)) 3
      · intro w' hT'
        simp only [List.getElem_toArray, List.getElem_cons_zero, List.getElem_cons_succ]
        go_wp2_with fail
        first | exact ⟨rfl, rfl, rfl⟩ | rfl
      apply wpT_read (i := 30) rfl hT rfl -- Op.indexAddr 41 t50 t53
      · intro w' hT'
        simp only [List.getElem_toArray, List.getElem_cons_zero, List.getElem_cons_succ]
        go_wp2_with fail
        first | exact ⟨rfl, rfl, rfl⟩ | rfl
      apply wpT_read (i := 31) rfl hT rfl -- Op.load 5 t54
      · intro w' hT'
        simp only [List.getElem_toArray, List.getElem_cons_zero, List.getElem_cons_succ]
        have k0 := hT'.oldCell c0.out id
        have k1 := hT'.oldCell c1.out id
        have k2 := hT'.oldCell c2.out id
        have k3 := hT'.oldCell c3.out id
        go_wp2_with fail
        first | exact ⟨rfl, rfl, rfl⟩ | rfl
      apply wpT_read (i := 32) rfl hT rfl -- Op.convert 5 73 t55
      · intro w' hT'
        simp only [List.getElem_toArray, List.getElem_cons_zero, List.getElem_cons_succ]
        go_wp2_with fail
        first | exact ⟨rfl, rfl, rfl⟩ | rfl
      apply wpT_read (i := 33) rfl hT rfl -- Op.binOp BinOp.or 73 t49 t56 73
      · intro w' hT'
        simp only [List.getElem_toArray, List.getElem_cons_zero, List.getElem_cons_succ]
        go_wp2_with fail
        first | exact ⟨rfl, rfl, rfl⟩ | rfl
      apply wpT_read (i := 34) rfl hT rfl -- Op.indexAddr 84 t6 t24
      · intro w' hT'
        simp only [List.getElem_toArray, List.getElem_cons_zero, List.getElem_cons_succ]
        go_wp2_with fail
        first | exact ⟨rfl, rfl, rfl⟩ | rfl
      refine wpT_totL (i := 35) rfl rfl (by kernel_rfl) ?_ -- Op.store 73 t58 t57
      simp only [List.getElem_toArray, List.getElem_cons_zero, List.getElem_cons_succ]
      have fz := hT.frozen 0 rfl i
      have cc := hT.cellI 0 rfl i HLA.out
      go_wp2_with fail
      refine OnX.mk (fun w' => RS w w' g2 g4 g5 g6 h ks (schedA b (i + 1))) rfl ?_ ?_
      · rw [HX.out, HW.out]; exact hT.setI 0 rfl i _
      clear hT
      clear fz cc
      intro w6_35 hT
      refine wpT_end ?_
      try dsimp only

      go_wp2_with fail
      go_roundg (gk - 1)
      case measure => have := hq.out; omega
      case rel => exact ⟨i + 1, by omega, by go_num, hid (by have := hq.out; omega), hT⟩
    · obtain rfl : i = 16 := by omega
      have hA : Hd (schedA b 16 = schedB b 0) := hid rfl
      rw [hA.out] at hS
      clear hA
      go_wp2_with fail
      go_loopg [8, 9, 10] 49 (fun kq v8 v9 v10 wr => ∃ q : Nat, 16 ≤ q ∧ q ≤ 64 ∧ v8 = .int .i64 q ∧ Hd (kq + q = 65) ∧ RS w wr g2 g4 g5 g6 h ks (schedB b (q - 16)))
      case atStart => exact ⟨16, by omega, by omega, rfl, hid (by omega), hS⟩
      case round =>
        clear hS hq
        obtain ⟨q, hq1, hq2, rfl, hq, hS⟩ := hrel
        by_cases hlt : q < 64
        · have hlt2 : (q : Int) < 64 := by omega
          obtain ⟨p15, hp15⟩ : ∃ p : Nat, q - 15 = p := ⟨_, rfl⟩
          obtain ⟨p2, hp2⟩ : ∃ p : Nat, q - 2 = p := ⟨_, rfl⟩
          obtain ⟨p16, hp16⟩ : ∃ p : Nat, q - 16 = p := ⟨_, rfl⟩
          obtain ⟨p7, hp7⟩ : ∃ p : Nat, q - 7 = p := ⟨_, rfl⟩
          have e15 : (q : Int) - 15 = (p15 : Int) := by omega
          have e2 : (q : Int) - 2 = (p2 : Int) := by omega
          have e16 : (q : Int) - 16 = (p16 : Int) := by omega
          have e7 : (q : Int) - 7 = (p7 : Int) := by omega
          have l15 : p15 < 64 := by omega
          have l2 : p2 < 64 := by omega
          have l16 : p16 < 64 := by omega
          have l7 : p7 < 64 := by omega
          have HX := hid (schedB_succ b p16)
          rw [hp16] at hS
          have hq16 : 16 + p16 = q := by omega
          have HN : Hd (q + 1 - 16 = p16 + 1) := hid (by omega)
          rw [hq16] at HX
          have R := schedB_W32 b p16
          have HL2 := schedB_length b p16
          generalize schedB b p16 = ws at *
          obtain ⟨x15, hx15⟩ : ∃ x, rd ws p15 = x := ⟨_, rfl⟩
          obtain ⟨x2, hx2⟩ : ∃ x, rd ws p2 = x := ⟨_, rfl⟩
          obtain ⟨x16, hx16⟩ : ∃ x, rd ws p16 = x := ⟨_, rfl⟩
          obtain ⟨x7, hx7⟩ : ∃ x, rd ws p7 = x := ⟨_, rfl⟩
          obtain ⟨r15, s15⟩ : W32 x15 := hx15 ▸ rd_all R zero_W32 _
          obtain ⟨r2, s2⟩ : W32 x2 := hx2 ▸ rd_all R zero_W32 _
          obtain ⟨r16, s16⟩ : W32 x16 := hx16 ▸ rd_all R zero_W32 _
          obtain ⟨r7, s7⟩ : W32 x7 := hx7 ▸ rd_all R zero_W32 _
          have HW : Hd (schedW ws q = (x16 + sig 7 18 8 x15 + x7 + sig 17 19 1024 x2) % 4294967296) := hid (by unfold schedW; rw [hp15, hp2, hp16, hp7, hx15, hx2, hx16, hx7])
          have C15 : Hd (∀ {w'}, RS w w' g2 g4 g5 g6 h ks ws → w'.cell? ⟨g6, p15, none⟩ = some (.int .u32 x15)) := hid fun h => by rw [h.cellI 0 rfl p15 (by omega), hx15]
          have C2 : Hd (∀ {w'}, RS w w' g2 g4 g5 g6 h ks ws → w'.cell? ⟨g6, p2, none⟩ = some (.int .u32 x2)) := hid fun h => by rw [h.cellI 0 rfl p2 (by omega), hx2]
          have C16 : Hd (∀ {w'}, RS w w' g2 g4 g5 g6 h ks ws → w'.cell? ⟨g6, p16, none⟩ = some (.int .u32 x16)) := hid fun h => by rw [h.cellI 0 rfl p16 (by omega), hx16]
          have C7 : Hd (∀ {w'}, RS w w' g2 g4 g5 g6 h ks ws → w'.cell? ⟨g6, p7, none⟩ = some (.int .u32 x7)) := hid fun h => by rw [h.cellI 0 rfl p7 (by omega), hx7]
          have HQ : Hd (q < ws.length) := hid (by omega)
          clear hp15 hp2 hp16 hp7 hx15 hx2 hx16 hx7 R hq16 HL2
          try go_wp2_with fail
          refine wp_region_L (T := fun w' => RS w w' g2 g4 g5 g6 h ks ws) (by kernel_rfl) (by kernel_rfl) hS.drew ?_
          intro wa hT
          show wpT _ _ _ _ [0, 1, 2, 3, 4, 5, 6, 7, 8, 9, 10, 11, 12, 13, 14, 15, 16, 17] _ _
          apply wpT_read (i := 0) rfl hT rfl -- Op.move t8
          · intro w' hT'
            simp only [List.getElem_toArray, List.getElem_cons_zero, List.getElem_cons_succ]
            go_wp2_with fail
            first | exact ⟨rfl, rfl, rfl⟩ | rfl
          apply wpT_read (i := 1) rfl hT rfl -- Op.binOp BinOp.sub 3 t63 (const (15:i64)) 3
          · intro w' hT'
            simp only [List.getElem_toArray, List.getElem_cons_zero, List.getElem_cons_succ]
            go_wp2_with fail
            first | exact ⟨rfl, rfl, rfl⟩ | rfl
          apply wpT_read (i := 2) rfl hT rfl -- Op.indexAddr 84 t6 t64
          · intro w' hT'
            simp only [List.getElem_toArray, List.getElem_cons_zero, List.getElem_cons_succ]
            go_wp2_with fail
            first | exact ⟨rfl, rfl, rfl⟩ | rfl
          apply wpT_read (i := 3) rfl hT rfl -- Op.load 73 t65
          · intro w' hT'
            simp only [List.getElem_toArray, List.getElem_cons_zero, List.getElem_cons_succ]
            have k15 := C15.out hT'
            go_wp2_with fail
            first | exact ⟨rfl, rfl, rfl⟩ | rfl
          refine wpT_actL (i := 4) rfl rfl ?_ -- Op.call { value (Operand.func 45), args := #[t66, const (7:u64)], ar
          simp only [List.getElem_toArray, List.getElem_cons_zero, List.getElem_cons_succ]
          go_wp2_with (first
            | (go_at_call 77; refine (rotr7_calls x15 _ r15 s15).mono ?_; rintro e w1 ⟨rfl, rfl⟩)
            | fail)
          refine OnT.mk rfl ?_ ?_
          · exact hT
          clear hT
          intro w10_4 hT
          apply wpT_read (i := 5) rfl hT rfl -- Op.move t8
          · intro w' hT'
            simp only [List.getElem_toArray, List.getElem_cons_zero, List.getElem_cons_succ]
            go_wp2_with fail
            first | exact ⟨rfl, rfl, rfl⟩ | rfl
          apply wpT_read (i := 6) rfl hT rfl -- Op.binOp BinOp.sub 3 t68 (const (15:i64)) 3
          · intro w' hT'
            simp only [List.getElem_toArray, List.getElem_cons_zero, List.getElem_cons_succ]
            go_wp2_with fail
            first | exact ⟨rfl, rfl, rfl⟩ | rfl
          apply wpT_read (i := 7) rfl hT rfl -- Op.indexAddr 84 t6 t69
          · intro w' hT'
            simp only [List.getElem_toArray, List.getElem_cons_zero, List.getElem_cons_succ]
            go_wp2_with fail
            first | exact ⟨rfl, rfl, rfl⟩ | rfl
          apply wpT_read (i := 8) rfl hT rfl -- Op.load 73 t70
          · intro w' hT'
            simp only [List.getElem_toArray, List.getElem_cons_zero, List.getElem_cons_succ]
            have k15 := C15.out hT'
            go_wp2_with fail
            first | exact ⟨rfl, rfl, rfl⟩ | rfl
          refine wpT_actL (i := 9) rfl rfl ?_ -- Op.call { value (Operand.func 45), args := #[t71, const (18:u64)], a
          simp only [List.getElem_toArray, List.getElem_cons_zero, List.getElem_cons_succ]
          go_wp2_with (first
            | (go_at_call 77; refine (rotr18_calls x15 _ r15 s15).mono ?_; rintro e w1 ⟨rfl, rfl⟩)
            | fail)
          refine OnT.mk rfl ?_ ?_
          · exact hT
          clear hT
          intro w10_9 hT
          apply wpT_read (i := 10) rfl hT rfl -- Op.binOp BinOp.xor 73 t67 t72 73
          · intro w' hT'
            simp only [List.getElem_toArray, List.getElem_cons_zero, List.getElem_cons_succ]
            go_wp2_with fail
            first | exact ⟨rfl, rfl, rfl⟩ | rfl
          apply wpT_read (i := 11) rfl hT rfl -- Op.move t8
          · intro w' hT'
            simp only [List.getElem_toArray, List.getElem_cons_zero, List.getElem_cons_succ]
            go_wp2_with fail
            first | exact ⟨rfl, rfl, rfl⟩ | rfl
          apply wpT_read (i := 12) rfl hT rfl -- Op.binOp BinOp.sub 3 t74 (const (15:i64)) 3
          · intro w' hT'
            simp only [List.getElem_toArray, List.getElem_cons_zero, List.getElem_cons_succ]
            go_wp2_with fail
            first | exact ⟨rfl, rfl, rfl⟩ | rfl
          apply wpT_read (i := 13) rfl hT rfl -- Op.indexAddr 84 t6 t75
          · intro w' hT'
            simp only [List.getElem_toArray, List.getElem_cons_zero, List.getElem_cons_succ]
            go_wp2_with fail
            first | exact ⟨rfl, rfl, rfl⟩ | rfl
          apply wpT_read (i := 14) rfl hT rfl -- Op.load 73 t76
          · intro w' hT'
            simp only [List.getElem_toArray, List.getElem_cons_zero, List.getElem_cons_succ]
            have k15 := C15.out hT'
            go_wp2_with fail
            first | exact ⟨rfl, rfl, rfl⟩ | rfl
          apply wpT_read (i := 15) rfl hT rfl -- Op.binOp BinOp.shr 73 t77 (const (3:u64)) 63
          · intro w' hT'
            simp only [List.getElem_toArray, List.getElem_cons_zero, List.getElem_cons_succ]
            go_wp2_with fail
            first | exact ⟨rfl, rfl, rfl⟩ | rfl
          apply wpT_read (i := 16) rfl hT rfl -- Op.binOp BinOp.xor 73 t73 t78 73
          · intro w' hT'
            simp only [List.getElem_toArray, List.getElem_cons_zero, List.getElem_cons_succ]
            go_wp2_with fail
            first | exact ⟨rfl, rfl, rfl⟩ | rfl
          apply wpT_read (i := 17) rfl hT rfl -- Op.assign t79
          · intro w' hT'
            simp only [List.getElem_toArray, List.getElem_cons_zero, List.getElem_cons_succ]
            go_wp2_with fail
            first | exact ⟨rfl, rfl, rfl⟩ | rfl
          refine wpT_end ?_
          try dsimp only

          replace hS := hT
          clear hT
          try go_wp2_with fail
          refine wp_region_L (T := fun w' => RS w w' g2 g4 g5 g6 h ks ws) (by kernel_rfl) (by kernel_rfl) hS.drew ?_
          intro wa hT
          show wpT _ _ _ _ [0, 1, 2, 3, 4, 5, 6, 7, 8, 9, 10, 11, 12, 13, 14, 15, 16, 17] _ _
          apply wpT_read (i := 0) rfl hT rfl -- Op.move t8
          · intro w' hT'
            simp only [List.getElem_toArray, List.getElem_cons_zero, List.getElem_cons_succ]
            go_wp2_with fail
            first | exact ⟨rfl, rfl, rfl⟩ | rfl
          apply wpT_read (i := 1) rfl hT rfl -- Op.binOp BinOp.sub 3 t80 (const (2:i64)) 3
          · intro w' hT'
            simp only [List.getElem_toArray, List.getElem_cons_zero, List.getElem_cons_succ]
            go_wp2_with fail
            first | exact ⟨rfl, rfl, rfl⟩ | rfl
          apply wpT_read (i := 2) rfl hT rfl -- Op.indexAddr 84 t6 t81
          · intro w' hT'
            simp only [List.getElem_toArray, List.getElem_cons_zero, List.getElem_cons_succ]
            go_wp2_with fail
            first | exact ⟨rfl, rfl, rfl⟩ | rfl
          apply wpT_read (i := 3) rfl hT rfl -- Op.load 73 t82
          · intro w' hT'
            simp only [List.getElem_toArray, List.getElem_cons_zero, List.getElem_cons_succ]
            have k2 := C2.out hT'
            go_wp2_with fail
            first | exact ⟨rfl, rfl, rfl⟩ | rfl
          refine wpT_actL (i := 4) rfl rfl ?_ -- Op.call { value (Operand.func 45), args := #[t83, const (17:u64)], a
          simp only [List.getElem_toArray, List.getElem_cons_zero, List.getElem_cons_succ]
          go_wp2_with (first
            | (go_at_call 77; refine (rotr17_calls x2 _ r2 s2).mono ?_; rintro e w1 ⟨rfl, rfl⟩)
            | fail)
          refine OnT.mk rfl ?_ ?_
          · exact hT
          clear hT
          intro w11_4 hT
          apply wpT_read (i := 5) rfl hT rfl -- Op.move t8
          · intro w' hT'
            simp only [List.getElem_toArray, List.getElem_cons_zero, List.getElem_cons_succ]
            go_wp2_with fail
            first | exact ⟨rfl, rfl, rfl⟩ | rfl
          apply wpT_read (i := 6) rfl hT rfl -- Op.binOp BinOp.sub 3 t85 (const (2:i64)) 3
          · intro w' hT'
            simp only [List.getElem_toArray, List.getElem_cons_zero, List.getElem_cons_succ]
            go_wp2_with fail
            first | exact ⟨rfl, rfl, rfl⟩ | rfl
          apply wpT_read (i := 7) rfl hT rfl -- Op.indexAddr 84 t6 t86
          · intro w' hT'
            simp only [List.getElem_toArray, List.getElem_cons_zero, List.getElem_cons_succ]
            go_wp2_with fail
            first | exact ⟨rfl, rfl, rfl⟩ | rfl
          apply wpT_read (i := 8) rfl hT rfl -- Op.load 73 t87
          · intro w' hT'
            simp only [List.getElem_toArray, List.getElem_cons_zero, List.getElem_cons_succ]
            have k2 := C2.out hT'
            go_wp2_with fail
            first | exact ⟨rfl, rfl, rfl⟩ | rfl
          refine wpT_actL (i := 9) rfl rfl ?_ -- Op.call { value (Operand.func 45), args := #[t88, const (19:u64)], a
          simp only [List.getElem_toArray, List.getElem_cons_zero, List.getElem_cons_succ]
          go_wp2_with (first
            | (go_at_call 77; refine (rotr19_calls x2 _ r2 s2).mono ?_; rintro e w1 ⟨rfl, rfl⟩)
            | fail)
          refine OnT.mk rfl ?_ ?_
          · exact hT
          clear hT
          intro w11_9 hT
          apply wpT_read (i := 10) rfl hT rfl -- Op.binOp BinOp.xor 73 t84 t89 73
          · intro w' hT'
            simp only [List.getElem_toArray, List.getElem_cons_zero, List.getElem_cons_succ]
            go_wp2_with fail
            first | exact ⟨rfl, rfl, rfl⟩ | rfl
          apply wpT_read (i := 11) rfl hT rfl -- Op.move t8
          · intro w' hT'
            simp only [List.getElem_toArray, List.getElem_cons_zero, List.getElem_cons_succ]
            go_wp2_with fail
            first | exact ⟨rfl, rfl, rfl⟩ | rfl
          apply wpT_read (i := 12) rfl hT rfl -- Op.binOp BinOp.sub 3 t91 (const (2:i64)) 3
          · intro w' hT'
            simp only [List.getElem_toArray, List.getElem_cons_zero, List.getElem_cons_succ]
            go_wp2_with fail
            first | exact ⟨rfl, rfl, rfl⟩ | rfl
          apply wpT_read (i := 13) rfl hT rfl -- Op.indexAddr 84 t6 t92
          · intro w' hT'
            simp only [List.getElem_toArray, List.getElem_cons_zero, List.getElem_cons_succ]
            go_wp2_with fail
            first | exact ⟨rfl, rfl, rfl⟩ | rfl
          apply wpT_read (i := 14) rfl hT rfl -- Op.load 73 t93
          · intro w' hT'
            simp only [List.getElem_toArray, List.getElem_cons_zero, List.getElem_cons_succ]
            have k2 := C2.out hT'
            go_wp2_with fail
            first | exact ⟨rfl, rfl, rfl⟩ | rfl
          apply wpT_read (i := 15) rfl hT rfl -- Op.binOp BinOp.shr 73 t94 (const (10:u64)) 63
          · intro w' hT'
            simp only [List.getElem_toArray, List.getElem_cons_zero, List.getElem_cons_succ]
            go_wp2_with fail
            first | exact ⟨rfl, rfl, rfl⟩ | rfl
          apply wpT_read (i := 16) rfl hT rfl -- Op.binOp BinOp.xor 73 t90 t95 73
          · intro w' hT'
            simp only [List.getElem_toArray, List.getElem_cons_zero, List.getElem_cons_succ]
            go_wp2_with fail
            first | exact ⟨rfl, rfl, rfl⟩ | rfl
          apply wpT_read (i := 17) rfl hT rfl -- Op.assign t96
          · intro w' hT'
            simp only [List.getElem_toArray, List.getElem_cons_zero, List.getElem_cons_succ]
            go_wp2_with fail
            first | exact ⟨rfl, rfl, rfl⟩ | rfl
          refine wpT_end ?_
          try dsimp only

          replace hS := hT
          clear hT
          try go_wp2_with fail
          refine wp_region_L (T := fun w' => RS w w' g2 g4 g5 g6 h ks ws) (by kernel_rfl) (by kernel_rfl) hS.drew ?_
          intro wa hT
          show wpT _ _ _ _ [0, 1, 2, 3, 4, 5, 6, 7, 8, 9, 10, 11, 12, 13, 14, 15] _ _
          apply wpT_read (i := 0) rfl hT rfl -- Op.move t8
          · intro w' hT'
            simp only [List.getElem_toArray, List.getElem_cons_zero, List.getElem_cons_succ]
            go_wp2_with fail
            first | exact ⟨rfl, rfl, rfl⟩ | rfl
          apply wpT_read (i := 1) rfl hT rfl -- Op.move t8
          · intro w' hT'
            simp only [List.getElem_toArray, List.getElem_cons_zero, List.getElem_cons_succ]
            go_wp2_with fail
            first | exact ⟨rfl, rfl, rfl⟩ | rfl
          apply wpT_read (i := 2) rfl hT rfl -- Op.binOp BinOp.sub 3 t98 (const (16:i64)) 3
          · intro w' hT'
            simp only [List.getElem_toArray, List.getElem_cons_zero, List.getElem_cons_succ]
            go_wp2_with fail
            first | exact ⟨rfl, rfl, rfl⟩ | rfl
          apply wpT_read (i := 3) rfl hT rfl -- Op.indexAddr 84 t6 t99
          · intro w' hT'
            simp only [List.getElem_toArray, List.getElem_cons_zero, List.getElem_cons_succ]
            go_wp2_with fail
            first | exact ⟨rfl, rfl, rfl⟩ | rfl
          apply wpT_read (i := 4) rfl hT rfl -- Op.load 73 t100
          · intro w' hT'
            simp only [List.getElem_toArray, List.getElem_cons_zero, List.getElem_cons_succ]
            have k16 := C16.out hT'
            have k7 := C7.out hT'
            go_wp2_with fail
            first | exact ⟨rfl, rfl, rfl⟩ | rfl
          apply wpT_read (i := 5) rfl hT rfl -- Op.move t9
          · intro w' hT'
            simp only [List.getElem_toArray, List.getElem_cons_zero, List.getElem_cons_succ]
            go_wp2_with fail
            first | exact ⟨rfl, rfl, rfl⟩ | rfl
          apply wpT_read (i := 6) rfl hT rfl -- Op.binOp BinOp.add 73 t101 t102 73
          · intro w' hT'
            simp only [List.getElem_toArray, List.getElem_cons_zero, List.getElem_cons_succ]
            go_wp2_with fail
            first | exact ⟨rfl, rfl, rfl⟩ | rfl
          apply wpT_read (i := 7) rfl hT rfl -- Op.move t8
          · intro w' hT'
            simp only [List.getElem_toArray, List.getElem_cons_zero, List.getElem_cons_succ]
            go_wp2_with fail
            first | exact ⟨rfl, rfl, rfl⟩ | rfl
          apply wpT_read (i := 8) rfl hT rfl -- Op.binOp BinOp.sub 3 t104 (const (7:i64)) 3
          · intro w' hT'
            simp only [List.getElem_toArray, List.getElem_cons_zero, List.getElem_cons_succ]
            go_wp2_with fail
            first | exact ⟨rfl, rfl, rfl⟩ | rfl
          apply wpT_read (i := 9) rfl hT rfl -- Op.indexAddr 84 t6 t105
          · intro w' hT'
            simp only [List.getElem_toArray, List.getElem_cons_zero, List.getElem_cons_succ]
            go_wp2_with fail
            first | exact ⟨rfl, rfl, rfl⟩ | rfl
          apply wpT_read (i := 10) rfl hT rfl -- Op.load 73 t106
          · intro w' hT'
            simp only [List.getElem_toArray, List.getElem_cons_zero, List.getElem_cons_succ]
            have k16 := C16.out hT'
            have k7 := C7.out hT'
            go_wp2_with fail
            first | exact ⟨rfl, rfl, rfl⟩ | rfl
          apply wpT_read (i := 11) rfl hT rfl -- Op.binOp BinOp.add 73 t103 t107 73
          · intro w' hT'
            simp only [List.getElem_toArray, List.getElem_cons_zero, List.getElem_cons_succ]
            go_wp2_with fail
            first | exact ⟨rfl, rfl, rfl⟩ | rfl
          apply wpT_read (i := 12) rfl hT rfl -- Op.move t10
          · intro w' hT'
            simp only [List.getElem_toArray, List.getElem_cons_zero, List.getElem_cons_succ]
            go_wp2_with fail
            first | exact ⟨rfl, rfl, rfl⟩ | rfl
          apply wpT_read (i := 13) rfl hT rfl -- Op.binOp BinOp.add 73 t108 t109 73
          · intro w' hT'
            simp only [List.getElem_toArray, List.getElem_cons_zero, List.getElem_cons_succ]
            go_wp2_with fail
            first | exact ⟨rfl, rfl, rfl⟩ | rfl
          apply wpT_read (i := 14) rfl hT rfl -- Op.indexAddr 84 t6 t97
          · intro w' hT'
            simp only [List.getElem_toArray, List.getElem_cons_zero, List.getElem_cons_succ]
            go_wp2_with fail
            first | exact ⟨rfl, rfl, rfl⟩ | rfl
          refine wpT_totL (i := 15) rfl rfl (by kernel_rfl) ?_ -- Op.store 73 t111 t110
          simp only [List.getElem_toArray, List.getElem_cons_zero, List.getElem_cons_succ]
          have fz := hT.frozen 0 rfl q
          have cc := hT.cellI 0 rfl q HQ.out
          go_wp2_with fail
          refine OnX.mk (fun w' => RS w w' g2 g4 g5 g6 h ks (schedB b (p16 + 1))) rfl ?_ ?_
          · rw [HX.out, HW.out]; exact hT.setI 0 rfl q _
          clear hT
          clear fz cc
          intro w12_15 hT
          refine wpT_end ?_
          try dsimp only

          go_wp2_with fail
          go_roundg (gk - 1)
          case measure => have := hq.out; omega
          case rel => exact ⟨q + 1, by omega, by omega, by go_num, hid (by have := hq.out; omega), by rw [HN.out]; exact hT⟩
        · obtain rfl : q = 64 := by omega
          clear hlt hq1 hq2 hq
          replace hS : RS w wr g2 g4 g5 g6 h ks (sched b) := hS
          obtain ⟨ws, hws⟩ : ∃ ws, Hd (sched b = ws) := ⟨_, hid rfl⟩
          have HLs : Hd (ws.length = 64) := hid (by rw [← hws.out]; exact schedB_length b 48)
          rw [hws.out] at hS
          go_wp2_with (first
            | (refine hs_loadW hS 3 rfl rfl 94 _ rfl rfl 8 infoW8 (by simp [HL.out]) _ arrW8 rfl _ rfl ?_)
            | (refine alloc_blk rfl 94 rfl _ rfl (ints .u32 (List.replicate 8 0)) zeroW8 ?_; intro gv wv hga hba hBa hsa; replace hS := hS.pushBlk hBa hba hga; clear hga hba hBa hsa)
            | (refine hs_storeW hS 0 rfl rfl 94 _ _ rfl rfl (ints .u32 h) rfl (ints_one' _ _) _ infoW8 (by simp [HL.out]) (by simp) _ rfl ?_; clear hS; intro wb hS)
            | fail)
          replace hS : RV w wb g2 g4 g5 g6 gv h ks ws (roundsS b h 0) := hS
          go_loopg [12, 13, 14, 15, 16, 17] 65 (fun kq v12 v13 v14 v15 v16 v17 wr => ∃ i : Nat, i ≤ 64 ∧ v12 = .int .i64 i ∧ Hd (kq + i = 65) ∧ RV w wr g2 g4 g5 g6 gv h ks ws (roundsS b h i))
          case atStart => exact ⟨0, by omega, rfl, hid (by omega), hS⟩
          case round =>
            clear hS
            obtain ⟨i, hi, rfl, hq, hS⟩ := hrel
            by_cases hlt : i < 64
            · have hlt2 : (i : Int) < 64 := by omega
              have HX := hid (roundsS_succ b h i)
              rw [hws.out] at HX
              have R := roundsS_W32 b h hh i
              have HL8 := roundsS_length b h HL.out i
              generalize roundsS b h i = ss at *
              obtain ⟨x0, x1, x2, x3, x4, x5, x6, x7, rfl⟩ := eight HL8
              obtain ⟨⟨r0, s0⟩, ⟨r1, s1⟩, ⟨r2, s2⟩, ⟨r3, s3⟩, ⟨r4, s4⟩, ⟨r5, s5⟩, ⟨r6, s6⟩, ⟨r7, s7⟩⟩ : W32 x0 ∧ W32 x1 ∧ W32 x2 ∧ W32 x3 ∧ W32 x4 ∧ W32 x5 ∧ W32 x6 ∧ W32 x7 := by
                refine ⟨R _ ?_, R _ ?_, R _ ?_, R _ ?_, R _ ?_, R _ ?_, R _ ?_, R _ ?_⟩ <;> simp
              clear R HL8
              obtain ⟨ki, hki⟩ : ∃ k, Hd (rd ks i = k) := ⟨_, hid rfl⟩
              obtain ⟨wi, hwi⟩ : ∃ k, Hd (rd ws i = k) := ⟨_, hid rfl⟩
              obtain ⟨rk, sk⟩ : W32 ki := by rw [← hki.out, ← hks.out]; exact shaK_W32 i
              obtain ⟨rw_, sw_⟩ : W32 wi := by rw [← hwi.out, ← hws.out]; exact rd_all (schedB_W32 b 48) zero_W32 _
              have CK : Hd (∀ {w'}, RV w w' g2 g4 g5 g6 gv h ks ws [x0, x1, x2, x3, x4, x5, x6, x7] → w'.cell? ⟨g5, i, none⟩ = some (.int .u32 ki)) := hid fun h => by rw [h.cellI 2 rfl i (by rw [HLk.out]; exact hlt), hki.out]
              have CW : Hd (∀ {w'}, RV w w' g2 g4 g5 g6 gv h ks ws [x0, x1, x2, x3, x4, x5, x6, x7] → w'.cell? ⟨g6, i, none⟩ = some (.int .u32 wi)) := hid fun h => by rw [h.cellI 1 rfl i (by rw [HLs.out]; exact hlt), hwi.out]
              have HST : Hd (stepS ws [x0, x1, x2, x3, x4, x5, x6, x7] i = [((x7 + Sig 6 11 25 x4 + bits .xor .u32 (bits .and .u32 x4 x5) (bits .and .u32 (bits .xor .u32 IntKind.u32.max x4) x6) + ki + wi) + Sig 2 13 22 x0 + bits .xor .u32 (bits .xor .u32 (bits .and .u32 x0 x1) (bits .and .u32 x0 x2)) (bits .and .u32 x1 x2)) % 4294967296, x0, x1, x2, (x3 + (x7 + Sig 6 11 25 x4 + bits .xor .u32 (bits .and .u32 x4 x5) (bits .and .u32 (bits .xor .u32 IntKind.u32.max x4) x6) + ki + wi)) % 4294967296, x4, x5, x6]) := hid (by unfold stepS oneS twoS; rw [hks.out, hki.out, hwi.out, ← Int.add_assoc]; rfl)
              try go_wp2_with fail
              refine wp_region_L (T := fun w' => RV w w' g2 g4 g5 g6 gv h ks ws [x0, x1, x2, x3, x4, x5, x6, x7]) (by kernel_rfl) (by kernel_rfl) hS.drew ?_
              intro wa hT
              show wpT _ _ _ _ [0, 1, 2, 3, 4, 5, 6, 7, 8, 9, 10, 11] _ _
              apply wpT_read (i := 0) rfl hT rfl -- Op.indexAddr 74 t11 (const (4:i64))
              · intro w' hT'
                simp only [List.getElem_toArray, List.getElem_cons_zero, List.getElem_cons_succ]
                go_wp2_with fail
                first | exact ⟨rfl, rfl, rfl⟩ | rfl
              apply wpT_read (i := 1) rfl hT rfl -- Op.load 73 t117
              · intro w' hT'
                simp only [List.getElem_toArray, List.getElem_cons_zero, List.getElem_cons_succ]
                have cx4 : w'.cell? ⟨gv, 4, none⟩ = some (.int .u32 x4) := hT'.cell 0 rfl 4
                go_wp2_with fail
                first | exact ⟨rfl, rfl, rfl⟩ | rfl
              refine wpT_actL (i := 2) rfl rfl ?_ -- Op.call { value (Operand.func 45), args := #[t118, const (6:u64)], a
              simp only [List.getElem_toArray, List.getElem_cons_zero, List.getElem_cons_succ]
              go_wp2_with (first
                | (go_at_call 77; refine (rotr6_calls x4 _ r4 s4).mono ?_; rintro e w1 ⟨rfl, rfl⟩)
                | fail)
              refine OnT.mk rfl ?_ ?_
              · exact hT
              clear hT
              intro w17_2 hT
              apply wpT_read (i := 3) rfl hT rfl -- Op.indexAddr 74 t11 (const (4:i64))
              · intro w' hT'
                simp only [List.getElem_toArray, List.getElem_cons_zero, List.getElem_cons_succ]
                go_wp2_with fail
                first | exact ⟨rfl, rfl, rfl⟩ | rfl
              apply wpT_read (i := 4) rfl hT rfl -- Op.load 73 t120
              · intro w' hT'
                simp only [List.getElem_toArray, List.getElem_cons_zero, List.getElem_cons_succ]
                have cx4 : w'.cell? ⟨gv, 4, none⟩ = some (.int .u32 x4) := hT'.cell 0 rfl 4
                go_wp2_with fail
                first | exact ⟨rfl, rfl, rfl⟩ | rfl
              refine wpT_actL (i := 5) rfl rfl ?_ -- Op.call { value (Operand.func 45), args := #[t121, const (11:u64)], 
              simp only [List.getElem_toArray, List.getElem_cons_zero, List.getElem_cons_succ]
              go_wp2_with (first
                | (go_at_call 77; refine (rotr11_calls x4 _ r4 s4).mono ?_; rintro e w1 ⟨rfl, rfl⟩)
                | fail)
              refine OnT.mk rfl ?_ ?_
              · exact hT
              clear hT
              intro w17_5 hT
              apply wpT_read (i := 6) rfl hT rfl -- Op.binOp BinOp.xor 73 t119 t122 73
              · intro w' hT'
                simp only [List.getElem_toArray, List.getElem_cons_zero, List.getElem_cons_succ]
                go_wp2_with fail
                first | exact ⟨rfl, rfl, rfl⟩ | rfl
              apply wpT_read (i := 7) rfl hT rfl -- Op.indexAddr 74 t11 (const (4:i64))
              · intro w' hT'
                simp only [List.getElem_toArray, List.getElem_cons_zero, List.getElem_cons_succ]
                go_wp2_with fail
                first | exact ⟨rfl, rfl, rfl⟩ | rfl
              apply wpT_read (i := 8) rfl hT rfl -- Op.load 73 t124
              · intro w' hT'
                simp only [List.getElem_toArray, List.getElem_cons_zero, List.getElem_cons_succ]
                have cx4 : w'.cell? ⟨gv, 4, none⟩ = some (.int .u32 x4) := hT'.cell 0 rfl 4
                go_wp2_with fail
                first | exact ⟨rfl, rfl, rfl⟩ | rfl
              refine wpT_actL (i := 9) rfl rfl ?_ -- Op.call { value (Operand.func 45), args := #[t125, const (25:u64)], 
              simp only [List.getElem_toArray, List.getElem_cons_zero, List.getElem_cons_succ]
              go_wp2_with (first
                | (go_at_call 77; refine (rotr25_calls x4 _ r4 s4).mono ?_; rintro e w1 ⟨rfl, rfl⟩)
                | fail)
              refine OnT.mk rfl ?_ ?_
              · exact hT
              clear hT
              intro wn hT
              apply wpT_read (i := 10) rfl hT rfl -- Op.binOp BinOp.xor 73 t123 t126 73
              · intro w' hT'
                simp only [List.getElem_toArray, List.getElem_cons_zero, List.getElem_cons_succ]
                go_wp2_with fail
                first | exact ⟨rfl, rfl, rfl⟩ | rfl
              apply wpT_read (i := 11) rfl hT rfl -- Op.assign t127
              · intro w' hT'
                simp only [List.getElem_toArray, List.getElem_cons_zero, List.getElem_cons_succ]
                go_wp2_with fail
                first | exact ⟨rfl, rfl, rfl⟩ | rfl
              refine wpT_end ?_
              try dsimp only

              replace hS := hT
              clear hT
              have cx4 : wn.cell? ⟨gv, 4, none⟩ = some (.int .u32 x4) := hS.cell 0 rfl 4
              have cx5 : wn.cell? ⟨gv, 5, none⟩ = some (.int .u32 x5) := hS.cell 0 rfl 5
              have cx6 : wn.cell? ⟨gv, 6, none⟩ = some (.int .u32 x6) := hS.cell 0 rfl 6
              have hsg : IntKind.u32.signed = false := rfl
              go_wp2_with fail
              clear hsg
              clear cx4 cx5 cx6
              try go_wp2_with fail
              refine wp_region_L (T := fun w' => RV w w' g2 g4 g5 g6 gv h ks ws [x0, x1, x2, x3, x4, x5, x6, x7]) (by kernel_rfl) (by kernel_rfl) hS.drew ?_
              intro wa hT
              show wpT _ _ _ _ [0, 1, 2, 3, 4, 5, 6, 7, 8, 9, 10, 11, 12, 13, 14] _ _
              apply wpT_read (i := 0) rfl hT rfl -- Op.indexAddr 74 t11 (const (7:i64))
              · intro w' hT'
                simp only [List.getElem_toArray, List.getElem_cons_zero, List.getElem_cons_succ]
                go_wp2_with fail
                first | exact ⟨rfl, rfl, rfl⟩ | rfl
              apply wpT_read (i := 1) rfl hT rfl -- Op.load 73 t140
              · intro w' hT'
                simp only [List.getElem_toArray, List.getElem_cons_zero, List.getElem_cons_succ]
                have cx7 : w'.cell? ⟨gv, 7, none⟩ = some (.int .u32 x7) := hT'.cell 0 rfl 7
                have ck := CK.out hT'
                have cw := CW.out hT'
                go_wp2_with fail
                first | exact ⟨rfl, rfl, rfl⟩ | rfl
              apply wpT_read (i := 2) rfl hT rfl -- Op.move t13
              · intro w' hT'
                simp only [List.getElem_toArray, List.getElem_cons_zero, List.getElem_cons_succ]
                go_wp2_with fail
                first | exact ⟨rfl, rfl, rfl⟩ | rfl
              apply wpT_read (i := 3) rfl hT rfl -- Op.binOp BinOp.add 73 t141 t142 73
              · intro w' hT'
                simp only [List.getElem_toArray, List.getElem_cons_zero, List.getElem_cons_succ]
                go_wp2_with fail
                first | exact ⟨rfl, rfl, rfl⟩ | rfl
              apply wpT_read (i := 4) rfl hT rfl -- Op.move t14
              · intro w' hT'
                simp only [List.getElem_toArray, List.getElem_cons_zero, List.getElem_cons_succ]
                go_wp2_with fail
                first | exact ⟨rfl, rfl, rfl⟩ | rfl
              apply wpT_read (i := 5) rfl hT rfl -- Op.binOp BinOp.add 73 t143 t144 73
              · intro w' hT'
                simp only [List.getElem_toArray, List.getElem_cons_zero, List.getElem_cons_succ]
                go_wp2_with fail
                first | exact ⟨rfl, rfl, rfl⟩ | rfl
              apply wpT_read (i := 6) rfl hT rfl -- Op.move t12
              · intro w' hT'
                simp only [List.getElem_toArray, List.getElem_cons_zero, List.getElem_cons_succ]
                go_wp2_with fail
                first | exact ⟨rfl, rfl, rfl⟩ | rfl
              apply wpT_read (i := 7) rfl hT rfl -- Op.indexAddr 84 t5 t146
              · intro w' hT'
                simp only [List.getElem_toArray, List.getElem_cons_zero, List.getElem_cons_succ]
                go_wp2_with fail
                first | exact ⟨rfl, rfl, rfl⟩ | rfl
              apply wpT_read (i := 8) rfl hT rfl -- Op.load 73 t147
              · intro w' hT'
                simp only [List.getElem_toArray, List.getElem_cons_zero, List.getElem_cons_succ]
                have cx7 : w'.cell? ⟨gv, 7, none⟩ = some (.int .u32 x7) := hT'.cell 0 rfl 7
                have ck := CK.out hT'
                have cw := CW.out hT'
                go_wp2_with fail
                first | exact ⟨rfl, rfl, rfl⟩ | rfl
              apply wpT_read (i := 9) rfl hT rfl -- Op.binOp BinOp.add 73 t145 t148 73
              · intro w' hT'
                simp only [List.getElem_toArray, List.getElem_cons_zero, List.getElem_cons_succ]
                go_wp2_with fail
                first | exact ⟨rfl, rfl, rfl⟩ | rfl
              apply wpT_read (i := 10) rfl hT rfl -- Op.move t12
              · intro w' hT'
                simp only [List.getElem_toArray, List.getElem_cons_zero, List.getElem_cons_succ]
                go_wp2_with fail
                first | exact ⟨rfl, rfl, rfl⟩ | rfl
              apply wpT_read (i := 11) rfl hT rfl -- Op.indexAddr 84 t6 t150
              · intro w' hT'
                simp only [List.getElem_toArray, List.getElem_cons_zero, List.getElem_cons_succ]
                go_wp2_with fail
                first | exact ⟨rfl, rfl, rfl⟩ | rfl
              apply wpT_read (i := 12) rfl hT rfl -- Op.load 73 t151
              · intro w' hT'
                simp only [List.getElem_toArray, List.getElem_cons_zero, List.getElem_cons_succ]
                have cx7 : w'.cell? ⟨gv, 7, none⟩ = some (.int .u32 x7) := hT'.cell 0 rfl 7
                have ck := CK.out hT'
                have cw := CW.out hT'
                go_wp2_with fail
                first | exact ⟨rfl, rfl, rfl⟩ | rfl
              apply wpT_read (i := 13) rfl hT rfl -- Op.binOp BinOp.add 73 t149 t152 73
              · intro w' hT'
                simp only [List.getElem_toArray, List.getElem_cons_zero, List.getElem_cons_succ]
                go_wp2_with fail
                first | exact ⟨rfl, rfl, rfl⟩ | rfl
              apply wpT_read (i := 14) rfl hT rfl -- Op.assign t153
              · intro w' hT'
                simp only [List.getElem_toArray, List.getElem_cons_zero, List.getElem_cons_succ]
                go_wp2_with fail
                first | exact ⟨rfl, rfl, rfl⟩ | rfl
              refine wpT_end ?_
              try dsimp only

              replace hS := hT
              clear hT
              try go_wp2_with fail
              refine wp_region_L (T := fun w' => RV w w' g2 g4 g5 g6 gv h ks ws [x0, x1, x2, x3, x4, x5, x6, x7]) (by kernel_rfl) (by kernel_rfl) hS.drew ?_
              intro wa hT
              show wpT _ _ _ _ [0, 1, 2, 3, 4, 5, 6, 7, 8, 9, 10, 11] _ _
              apply wpT_read (i := 0) rfl hT rfl -- Op.indexAddr 74 t11 (const (0:i64))
              · intro w' hT'
                simp only [List.getElem_toArray, List.getElem_cons_zero, List.getElem_cons_succ]
                go_wp2_with fail
                first | exact ⟨rfl, rfl, rfl⟩ | rfl
              apply wpT_read (i := 1) rfl hT rfl -- Op.load 73 t154
              · intro w' hT'
                simp only [List.getElem_toArray, List.getElem_cons_zero, List.getElem_cons_succ]
                have cx0 : w'.cell? ⟨gv, 0, none⟩ = some (.int .u32 x0) := hT'.cell 0 rfl 0
                go_wp2_with fail
                first | exact ⟨rfl, rfl, rfl⟩ | rfl
              refine wpT_actL (i := 2) rfl rfl ?_ -- Op.call { value (Operand.func 45), args := #[t155, const (2:u64)], a
              simp only [List.getElem_toArray, List.getElem_cons_zero, List.getElem_cons_succ]
              go_wp2_with (first
                | (go_at_call 77; refine (rotr2_calls x0 _ r0 s0).mono ?_; rintro e w1 ⟨rfl, rfl⟩)
                | fail)
              refine OnT.mk rfl ?_ ?_
              · exact hT
              clear hT
              intro w20_2 hT
              apply wpT_read (i := 3) rfl hT rfl -- Op.indexAddr 74 t11 (const (0:i64))
              · intro w' hT'
                simp only [List.getElem_toArray, List.getElem_cons_zero, List.getElem_cons_succ]
                go_wp2_with fail
                first | exact ⟨rfl, rfl, rfl⟩ | rfl
              apply wpT_read (i := 4) rfl hT rfl -- Op.load 73 t157
              · intro w' hT'
                simp only [List.getElem_toArray, List.getElem_cons_zero, List.getElem_cons_succ]
                have cx0 : w'.cell? ⟨gv, 0, none⟩ = some (.int .u32 x0) := hT'.cell 0 rfl 0
                go_wp2_with fail
                first | exact ⟨rfl, rfl, rfl⟩ | rfl
              refine wpT_actL (i := 5) rfl rfl ?_ -- Op.call { value (Operand.func 45), args := #[t158, const (13:u64)], 
              simp only [List.getElem_toArray, List.getElem_cons_zero, List.getElem_cons_succ]
              go_wp2_with (first
                | (go_at_call 77; refine (rotr13_calls x0 _ r0 s0).mono ?_; rintro e w1 ⟨rfl, rfl⟩)
                | fail)
              refine OnT.mk rfl ?_ ?_
              · exact hT
              clear hT
              intro w20_5 hT
              apply wpT_read (i := 6) rfl hT rfl -- Op.binOp BinOp.xor 73 t156 t159 73
              · intro w' hT'
                simp only [List.getElem_toArray, List.getElem_cons_zero, List.getElem_cons_succ]
                go_wp2_with fail
                first | exact ⟨rfl, rfl, rfl⟩ | rfl
              apply wpT_read (i := 7) rfl hT rfl -- Op.indexAddr 74 t11 (const (0:i64))
              · intro w' hT'
                simp only [List.getElem_toArray, List.getElem_cons_zero, List.getElem_cons_succ]
                go_wp2_with fail
                first | exact ⟨rfl, rfl, rfl⟩ | rfl
              apply wpT_read (i := 8) rfl hT rfl -- Op.load 73 t161
              · intro w' hT'
                simp only [List.getElem_toArray, List.getElem_cons_zero, List.getElem_cons_succ]
                have cx0 : w'.cell? ⟨gv, 0, none⟩ = some (.int .u32 x0) := hT'.cell 0 rfl 0
                go_wp2_with fail
                first | exact ⟨rfl, rfl, rfl⟩ | rfl
              refine wpT_actL (i := 9) rfl rfl ?_ -- Op.call { value (Operand.func 45), args := #[t162, const (22:u64)], 
              simp only [List.getElem_toArray, List.getElem_cons_zero, List.getElem_cons_succ]
              go_wp2_with (first
                | (go_at_call 77; refine (rotr22_calls x0 _ r0 s0).mono ?_; rintro e w1 ⟨rfl, rfl⟩)
                | fail)
              refine OnT.mk rfl ?_ ?_
              · exact hT
              clear hT
              intro wm hT
              apply wpT_read (i := 10) rfl hT rfl -- Op.binOp BinOp.xor 73 t160 t163 73
              · intro w' hT'
                simp only [List.getElem_toArray, List.getElem_cons_zero, List.getElem_cons_succ]
                go_wp2_with fail
                first | exact ⟨rfl, rfl, rfl⟩ | rfl
              apply wpT_read (i := 11) rfl hT rfl -- Op.assign t164
              · intro w' hT'
                simp only [List.getElem_toArray, List.getElem_cons_zero, List.getElem_cons_succ]
                go_wp2_with fail
                first | exact ⟨rfl, rfl, rfl⟩ | rfl
              refine wpT_end ?_
              try dsimp only

              replace hS := hT
              clear hT
              have cx0 : wm.cell? ⟨gv, 0, none⟩ = some (.int .u32 x0) := hS.cell 0 rfl 0
              have cx1 : wm.cell? ⟨gv, 1, none⟩ = some (.int .u32 x1) := hS.cell 0 rfl 1
              have cx2 : wm.cell? ⟨gv, 2, none⟩ = some (.int .u32 x2) := hS.cell 0 rfl 2
              have cx3 : wm.cell? ⟨gv, 3, none⟩ = some (.int .u32 x3) := hS.cell 0 rfl 3
              have cx4 : wm.cell? ⟨gv, 4, none⟩ = some (.int .u32 x4) := hS.cell 0 rfl 4
              have cx5 : wm.cell? ⟨gv, 5, none⟩ = some (.int .u32 x5) := hS.cell 0 rfl 5
              have cx6 : wm.cell? ⟨gv, 6, none⟩ = some (.int .u32 x6) := hS.cell 0 rfl 6
              go_wp2_with (first
                | (refine hs_storeW hS 0 rfl rfl 94 _ _ rfl rfl (ints .u32 (stepS ws [x0, x1, x2, x3, x4, x5, x6, x7] i)) (by rw [HST.out]; rfl) (ints_one' _ _) _ infoW8 (by rfl) (by rfl) _ rfl ?_
                   rw [← HX.out]; clear hS; intro wy hS)
                | fail)
              go_roundg (gk - 1)
              case measure => have := hq.out; omega
              case rel => exact ⟨i + 1, by omega, by go_num, hid (by have := hq.out; omega), hS⟩
            · obtain rfl : i = 64 := by omega
              have R := roundsS_W32 b h hh 64
              have HL8 := hid (roundsS_length b h HL.out 64)
              have HF : Hd (topS h (roundsS b h 64) 8 = shaBlock h b) := hid rfl
              generalize roundsS b h 64 = ss at *
              replace hS : RV w wr g2 g4 g5 g6 gv (topS h ss 0) ks ws ss := hS
              clear hlt hi hq
              go_wp2_with fail
              go_loopg [18] 9 (fun kq v18 wr => ∃ i : Nat, i ≤ 8 ∧ v18 = .int .i64 i ∧ Hd (kq + i = 9) ∧ RV w wr g2 g4 g5 g6 gv (topS h ss i) ks ws ss)
              case atStart => exact ⟨0, by omega, rfl, hid (by omega), hS⟩
              case round =>
                clear hS
                obtain ⟨i, hi, rfl, hq, hS⟩ := hrel
                by_cases hlt : i < 8
                · have hlt2 : (i : Int) < 8 := by omega
                  have HX := hid (topS_succ h ss i)
                  have HTL : Hd ((topS h ss i).length = 8) := hid (by simp [HL.out])
                  have e1 := topS_rd h ss i i (Nat.le_refl _)
                  generalize topS h ss i = ts at *
                  obtain ⟨x, hx⟩ : ∃ x, rd h i = x := ⟨_, rfl⟩
                  obtain ⟨y, hy⟩ : ∃ y, rd ss i = y := ⟨_, rfl⟩
                  obtain ⟨rx, sx⟩ : W32 x := hx ▸ rd_all hh zero_W32 _
                  obtain ⟨ry, sy⟩ : W32 y := hy ▸ rd_all R zero_W32 _
                  rw [hx] at e1
                  rw [hx, hy] at HX
                  have C1 : Hd (∀ {w'}, RV w w' g2 g4 g5 g6 gv ts ks ws ss → w'.cell? ⟨g2, i, none⟩ = some (.int .u32 x)) := hid fun h => by rw [h.cellI 4 rfl i (by rw [HTL.out]; exact hlt), e1]
                  have C2 : Hd (∀ {w'}, RV w w' g2 g4 g5 g6 gv ts ks ws ss → w'.cell? ⟨gv, i, none⟩ = some (.int .u32 y)) := hid fun h => by rw [h.cellI 0 rfl i (by rw [HL8.out]; exact hlt), hy]
                  clear e1 hx hy
                  try go_wp2_with fail
                  refine wp_region_L (T := fun w' => RV w w' g2 g4 g5 g6 gv ts ks ws ss) (by kernel_rfl) (by kernel_rfl) hS.drew ?_
                  intro wa hT
                  show wpT _ _ _ _ [0, 1, 2, 3, 4, 5, 6, 7, 8, 9] _ _
                  apply wpT_read (i := 0) rfl hT rfl -- Op.move t18
                  · intro w' hT'
                    simp only [List.getElem_toArray, List.getElem_cons_zero, List.getElem_cons_succ]
                    go_wp2_with fail
                    first | exact ⟨rfl, rfl, rfl⟩ | rfl
                  apply wpT_read (i := 1) rfl hT rfl -- Op.move t18
                  · intro w' hT'
                    simp only [List.getElem_toArray, List.getElem_cons_zero, List.getElem_cons_succ]
                    go_wp2_with fail
                    first | exact ⟨rfl, rfl, rfl⟩ | rfl
                  apply wpT_read (i := 2) rfl hT rfl -- Op.indexAddr 74 t2 t209
                  · intro w' hT'
                    simp only [List.getElem_toArray, List.getElem_cons_zero, List.getElem_cons_succ]
                    go_wp2_with fail
                    first | exact ⟨rfl, rfl, rfl⟩ | rfl
                  apply wpT_read (i := 3) rfl hT rfl -- Op.load 73 t210
                  · intro w' hT'
                    simp only [List.getElem_toArray, List.getElem_cons_zero, List.getElem_cons_succ]
                    have c1 := C1.out hT'
                    have c2 := C2.out hT'
                    go_wp2_with fail
                    first | exact ⟨rfl, rfl, rfl⟩ | rfl
                  apply wpT_read (i := 4) rfl hT rfl -- Op.move t18
                  · intro w' hT'
                    simp only [List.getElem_toArray, List.getElem_cons_zero, List.getElem_cons_succ]
                    go_wp2_with fail
                    first | exact ⟨rfl, rfl, rfl⟩ | rfl
                  apply wpT_read (i := 5) rfl hT rfl -- Op.indexAddr 74 t11 t212
                  · intro w' hT'
                    simp only [List.getElem_toArray, List.getElem_cons_zero, List.getElem_cons_succ]
                    go_wp2_with fail
                    first | exact ⟨rfl, rfl, rfl⟩ | rfl
                  apply wpT_read (i := 6) rfl hT rfl -- Op.load 73 t213
                  · intro w' hT'
                    simp only [List.getElem_toArray, List.getElem_cons_zero, List.getElem_cons_succ]
                    have c1 := C1.out hT'
                    have c2 := C2.out hT'
                    go_wp2_with fail
                    first | exact ⟨rfl, rfl, rfl⟩ | rfl
                  apply wpT_read (i := 7) rfl hT rfl -- Op.binOp BinOp.add 73 t211 t214 73
                  · intro w' hT'
                    simp only [List.getElem_toArray, List.getElem_cons_zero, List.getElem_cons_succ]
                    go_wp2_with fail
                    first | exact ⟨rfl, rfl, rfl⟩ | rfl
                  apply wpT_read (i := 8) rfl hT rfl -- Op.indexAddr 74 t2 t208
                  · intro w' hT'
                    simp only [List.getElem_toArray, List.getElem_cons_zero, List.getElem_cons_succ]
                    go_wp2_with fail
                    first | exact ⟨rfl, rfl, rfl⟩ | rfl
                  refine wpT_totL (i := 9) rfl rfl (by kernel_rfl) ?_ -- Op.store 73 t216 t215
                  simp only [List.getElem_toArray, List.getElem_cons_zero, List.getElem_cons_succ]
                  have fz := hT.frozen 4 rfl i
                  have cc := C1.out hT
                  go_wp2_with fail
                  refine OnX.mk (fun w' => RV w w' g2 g4 g5 g6 gv (topS h ss (i + 1)) ks ws ss) rfl ?_ ?_
                  · rw [HX.out]; exact hT.setI 4 rfl i _
                  clear hT
                  clear fz cc
                  intro w26_9 hT
                  refine wpT_end ?_
                  try dsimp only

                  go_wp2_with fail
                  go_roundg (gk - 1)
                  case measure => have := hq.out; omega
                  case rel => exact ⟨i + 1, by omega, by go_num, hid (by have := hq.out; omega), hT⟩
                · obtain rfl : i = 8 := by omega
                  rw [HF.out] at hS
                  have HSB : Hd ((shaBlock h b).length = 8) := hid (by rw [shaBlock_length, HL.out])
                  obtain ⟨zs, hzs⟩ : ∃ zs, Hd (shaBlock h b = zs) := ⟨_, hid rfl⟩
                  rw [hzs.out] at hS HSB HF
                  clear hlt hi hq
                  go_wp2_with (first
                    | (refine hs_loadW hS 4 rfl rfl 94 _ rfl rfl 8 infoW8 (by simp [HSB.out]) _ arrW8 rfl _ rfl ?_)
                    | (refine hs_storeW hS 3 rfl rfl 94 _ _ rfl rfl (ints .u32 zs) rfl (ints_one' _ _) _ infoW8 (by simp [HSB.out]) (by simp) _ rfl ?_; clear hS; intro wb hS)
                    | fail)
                  exact bodyPost_ret (results_blk rfl _ _ g4 _ _ 8 _ rfl (hS.blk 3 rfl) arrW8 (by simp [HSB.out]) infoW8) rfl ⟨by rw [hzs.out], hS.bel⟩
end Go.Proofs.YtckcdngnkpfcfaaDoor
/- File, Clone: bytes made of a number; a copy. -/
namespace Go.Proofs.YtckcdngnkpfcfaaDoor
open Go.RowKit Go.Cour
theorem rd_append (xs : List Int) (y : Int) (i : Nat) : rd (xs ++ [y]) i = if i < xs.length then rd xs i else if i = xs.length then y else 0 := by
  unfold rd
  rw [List.getD_eq_getElem?_getD, List.getElem?_append]
  split
  · rw [List.getD_eq_getElem?_getD]
  · by_cases h : i = xs.length
    · simp [h]
    · rw [if_neg h, List.getElem?_eq_none (by simp; omega)]; rfl
theorem bytesOk_snoc {xs : List Int} (h : bytesOk xs) {y : Int} (h0 : 0 ≤ y) (h1 : y < 256) : bytesOk (xs ++ [y]) := by
  intro i
  rw [rd_append]
  split
  · exact h i
  · split <;> omega
def fileByte (n : Int) (i : Nat) : Int := wrap64 (wrap64 (n + i * 7) + i / 13) % 256
def fileTo (n : Int) (i : Nat) : List Int := (List.range i).map (fileByte n)
theorem fileTo_succ (n : Int) (i : Nat) : fileTo n (i + 1) = fileTo n i ++ [fileByte n i] := by simp [fileTo, List.range_succ]
theorem fileTo_length (n : Int) (i : Nat) : (fileTo n i).length = i := by simp [fileTo]
theorem fileTo_ok (n : Int) : ∀ i, bytesOk (fileTo n i)
  | 0 => fun j => by simp [fileTo, rd]
  | i + 1 => by rw [fileTo_succ]; exact bytesOk_snoc (fileTo_ok n i) (Int.emod_nonneg _ (by decide)) (Int.emod_lt_of_pos _ (by decide))
set_option maxHeartbeats 2000000 in
set_option maxRecDepth 100000 in
theorem file_calls (n : Int) (size : Nat) (w : World) (hs : size ≤ 1000000) :
    Calls Tryd.prog 9 #[.int .i64 n, .int .i64 size] w fun e w' => ∃ v, e = .returned v ∧ Own w' w.heap.size 5 .u8 v (fileTo n size) ∧ Below w.heap.size w w' := by
  go_enter Tryd.func9, Tryd.ntmps9
  go_wp2
  go_loopg [5, 6] (size + 1) (fun kq v5 v6 wr => ∃ i : Nat, i ≤ size ∧ v6 = .int .i64 i ∧ Hd (kq + i = size + 1) ∧ Own wr w.heap.size 5 .u8 v5 (fileTo n i) ∧ Below w.heap.size w wr)
  case atStart => exact ⟨0, by omega, rfl, hid (by omega), Own.nil _ _ _ _, Below.refl _ _⟩
  case round =>
    obtain ⟨i, hi, rfl, hq, ho, hb⟩ := hrel
    by_cases hlt : i < size
    · have hl := fileTo_length n i
      have HL := hid hl
      clear hl
      have hz := hb.size
      go_wp2_with (at_builtin; refine append_one rfl (.tmp 12) (.tmp 21) 24 rfl w.heap.size 5 .u8 1 undBytes infoU8 _ (fileTo n i) rfl ho _ rfl (by rw [HL.out]; omega) (by rw [HL.out]; omega) hz ?_; intro v' w1 ho' hg')
      go_roundg (gk - 1)
      case measure => have := hq.out; omega
      case rel => exact ⟨i + 1, by omega, by go_num, hid (by have := hq.out; omega), by rw [fileTo_succ]; exact ho', ho.grown_below hb hg' hz (Nat.le_refl _)⟩
    · obtain rfl : i = size := by omega
      go_wp2
      go_ret
      exact ⟨_, rfl, ho, hb⟩
end Go.Proofs.YtckcdngnkpfcfaaDoor
/- courierref.Bytes: a copy. -/
namespace Go.Proofs.YtckcdngnkpfcfaaDoor
open Go.RowKit Go.Cour
theorem make_cap {P : Program} (t e : TypeId) (z : Value) (bytes : Nat) (ht : P.underlying t = some (.slice e)) (hinfo : (P.info? e).map (fun i => (i.zero, i.size, i.bytes)) = some (some z, 1, bytes)) (hz1 : z.cells = #[z])
    (kl kc : IntKind) (n : Nat) (hbytes : bytes * n ≤ 281474976710656) (h63 : n ≤ 9223372036854775807) (w : World) :
    (Instr.makeSlice t (.int kl 0) (.int kc (n : Int))).run P w = .ok (.slice (some ⟨w.heap.size, 0, none⟩) 0 n) (w.alloc (.cells (madeCells #[z] n) e)) := by
  obtain ⟨i, hi, hzz⟩ := Option.map_eq_some_iff.1 hinfo
  simp only [Prod.mk.injEq] at hzz
  obtain ⟨hz, hs, hb⟩ := hzz
  have hb' : (i.bytes : Int) * (n : Int) ≤ 281474976710656 := by
    have h : ((i.bytes * n : Nat) : Int) ≤ 281474976710656 := by rw [hb]; omega
    rwa [Int.natCast_mul] at h
  have hr := run_make (P := P) w t e i z ht hi hz kl kc 0 n (Int.le_refl _) (by omega) hb' (by omega)
  simp only [Int.toNat_natCast, hs, Nat.mul_one, hz1] at hr
  exact hr
set_option maxHeartbeats 1000000 in
set_option maxRecDepth 100000 in
theorem bytes_calls (xs : List Int) (A : Option Addr) (c m : Nat) (w : World) (hm : m = xs.length) (hr : Rd w A .u8 xs) (hl : m ≤ 1000000) :
    Calls Tryd.prog 24 #[.slice A m c] w fun e w' => ∃ v, e = .returned v ∧ Own w' w.heap.size 5 .u8 v xs ∧ Below w.heap.size w w' := by
  have HM := hid hm
  have HR := hid hr
  clear hm hr
  have hmk := make_cap (P := Tryd.prog) 24 5 (.int .u8 0) 1 undBytes infoU8 rfl .i64 .i64 m (by omega) (by omega)
  go_enter Tryd.func24, Tryd.ntmps24
  go_wp2_with fail
  clear hmk
  have h0 : Own (w.alloc (.cells (madeCells #[.int .u8 0] m) 5)) w.heap.size 5 .u8 (.slice (some ⟨w.heap.size, 0, none⟩) 0 m) [] :=
    ⟨by simp [ints], .inr ⟨w.heap.size, m, _, rfl, Nat.le_refl _, heap_alloc_new w _, Nat.zero_le _, by unfold maxLen; omega, by rw [made_ints]; simp, by simp [ints]⟩⟩
  have hB0 : Below w.heap.size w (w.alloc (.cells (madeCells #[.int .u8 0] m) 5)) := (Below.refl _ _).alloc (Nat.le_refl _) _
  generalize w.alloc (.cells (madeCells #[.int .u8 0] m) 5) = w1 at *
  go_loopg [3, 4] (m + 1) (fun kq v3 v4 wr => ∃ i : Nat, i ≤ m ∧ v4 = .int .i64 i ∧ Hd (kq + i = m + 1) ∧ Own wr w.heap.size 5 .u8 v3 (xs.take i) ∧ Below w.heap.size w wr)
  case atStart => exact ⟨0, by omega, rfl, hid (by omega), h0, hB0⟩
  case round =>
    clear h0 hB0
    obtain ⟨i, hi, rfl, hq, ho, hB⟩ := hrel
    obtain ⟨ts, hts⟩ : ∃ ts, Hd (xs.take i = ts) := ⟨_, ⟨rfl⟩⟩
    rw [hts.out] at ho
    have htl : Hd (ts.length = i) := hid (by rw [← hts.out, List.length_take, ← HM.out]; omega)
    by_cases hlt : i < m
    · obtain ⟨g, o, rfl⟩ := HR.out.at (by rw [← HM.out]; omega)
      have cx := (HR.out.below hB).cellAt i (by rw [← HM.out]; omega)
      have a1 : (i : Int) < m := by omega
      obtain ⟨x, hx⟩ : ∃ x, Hd (x = rd xs i) := ⟨_, hid rfl⟩
      rw [← hx.out] at cx
      have hts1 : Hd (ts ++ [x] = xs.take (i + 1)) := hid (by
        rw [← hts.out, hx.out, List.take_add_one]
        congr 1
        have hlx : i < xs.length := by rw [← HM.out]; exact hlt
        rw [List.getElem?_eq_getElem hlx]
        simp [rd, hlx])
      go_wp2_with (first
        | (at_builtin; refine append_one rfl (.tmp 14) (.tmp 19) 24 rfl w.heap.size 5 .u8 1 undBytes infoU8 _ ts rfl ho x rfl (by rw [htl.out]; omega) (by rw [htl.out]; omega) hB.size ?_; intro v' w2 ho' hg'; rw [hts1.out] at ho')
        | fail)
      go_roundg (gk - 1)
      case measure => have := hq.out; omega
      case rel => exact ⟨i + 1, by omega, by go_num, hid (by have := hq.out; omega), ho', ho.grown_below hB hg' hB.size (Nat.le_refl _)⟩
    · obtain rfl : i = m := by omega
      have hte : Hd (ts = xs) := hid (by rw [← hts.out, List.take_of_length_le (by rw [← HM.out]; omega)])
      go_wp2_with fail
      go_ret
      rw [hte.out] at ho
      exact ⟨_, rfl, ho, hB⟩
end Go.Proofs.YtckcdngnkpfcfaaDoor
/- courierref.Bytes: see Bytes. -/
/- The reference's digest. -/
namespace Go.Proofs.YtckcdngnkpfcfaaDoor
open Go.RowKit Go.Cour
set_option maxHeartbeats 4000000 in
set_option maxRecDepth 100000 in
theorem sum1_calls (xs : List Int) (A : Option Addr) (m c : Nat) (w : World) (hm : xs.length = m) (hr : Rd w A .u8 xs) (hx : ∀ x ∈ xs, B8 x) (hsz : m ≤ 1000000) :
    Calls Tryd.prog 14 #[.slice A m c] w fun e w' => e = .returned (.agg (ints .u8 (shaOf xs)).toArray) ∧ Below w.heap.size w w' := by
  have HM := hid hm
  have HR := hid hr
  have HX8 := hid hx
  have hS := HS.start NoF w
  clear hm hr hx
  go_enter Tryd.func14, Tryd.ntmps14
  go_wp2_with (first
    | (refine alloc_blk rfl 30 rfl _ rfl (ints .u8 (List.replicate 32 0)) zeroHashS ?_; intro g2 w2 hga hba hBa hsa; replace hS := hS.pushBlk hBa hba hga; clear hga hba hBa hsa)
    | (go_at_call 24; refine (bytes_calls xs A c m _ HM.out.symm (hS.oldRd HR.out (fun _ _ _ h => h)) (by omega)).mono ?_; rintro e w3 ⟨v3, rfl, ho, hB⟩
       obtain ⟨A1, c1, rfl, hc1, hA1⟩ := ho.partsL HM.out
       replace hS := hS.pushOwn hB ho
       clear ho hB)
    | (refine hs_one hS rfl 24 5 _ rfl undBytesS sizeU8S zeroU8S (.int .u8 128) rfl rfl _ rfl ?_; clear hS; intro go wo hgo hBo hS; clear hgo hBo)
    | (refine hs_append hS 1 rfl rfl _ _ 24 rfl 1 undBytesS infoU8S zeroU8S rfl (some ⟨go, 0, none⟩) 1 1 rfl (ints .u8 [128]) rfl (news_of_rd (OwnS.rd (k := .u8) (xs := [128]) (hS.os 0 rfl) rfl)) (ints_one' _ _) (by rw [ints_length, HM.out]; omega) (by rw [ints_length, HM.out]; omega) _ rfl ?_
       clear hS; intro A3 n3 c3 w5 hn3 hc3 hA3 hS; have HN3 := hid hn3; clear hn3
       replace hS : HS NoF w w5 [.os 5 (.slice A3 n3 c3) (ints .u8 (xs ++ [128])), Z32 g2] := by rw [ints_append]; exact hS.erase 0)
    | fail)
  have HN3' : Hd (n3 = m + 1) := hid (by rw [← HN3.out, List.length_append, ints_length, ints_length, HM.out]; rfl)
  clear HN3 hc1 hA1
  go_loopg [3] (padZ m + 1) (fun kq v3 wr => ∃ (k : Nat) (A1 : Option Addr) (n1 c1 : Nat), k ≤ padZ m ∧ v3 = .slice A1 n1 c1 ∧ n1 ≤ c1 ∧ Hd (n1 = m + 1 + k) ∧ Hd (kq + k = padZ m + 1) ∧ HS NoF w wr [.os 5 (.slice A1 n1 c1) (ints .u8 (xs ++ [128] ++ List.replicate k 0)), Z32 g2])
  case atStart => exact ⟨0, A3, n3, c3, Nat.zero_le _, rfl, hc3, hid HN3'.out, hid (by omega), by simpa using hS⟩
  case round =>
    clear hS HN3' hA3 hc3
    obtain ⟨k, A1, n1, c1, hk, rfl, hnc1, hn1, hq, hS⟩ := hrel
    have hlt64 : m % 64 < 64 := Nat.mod_lt _ (by decide)
    have hpz : Hd (padZ m = (119 - m % 64) % 64) := hid rfl
    by_cases hlt : k < padZ m
    · have h56 : ¬ (n1 : Int) % 64 = 56 := by have := hn1.out; have := hpz.out; omega
      have h56' : ¬ n1 % 64 = 56 := by have := hn1.out; have := hpz.out; omega
      have hb1 : n1 ≤ 1000100 := by have := hn1.out; have := hpz.out; omega
      have HLT : Hd ((xs ++ [128] ++ List.replicate k 0).length = n1) := hid (by simp [HM.out]; have := hn1.out; omega)
      have HTS : Hd (xs ++ [128] ++ List.replicate k 0 ++ [0] = xs ++ [128] ++ List.replicate (k + 1) 0) := hid (by rw [List.append_assoc (xs ++ [128]), ← List.replicate_succ'])
      obtain ⟨ts, hts⟩ : ∃ ts, Hd (xs ++ [128] ++ List.replicate k 0 = ts) := ⟨_, hid rfl⟩
      rw [hts.out] at hS HLT HTS
      clear hlt64
      go_wp2_with (first
    | (refine hs_one hS rfl 24 5 _ rfl undBytesS sizeU8S zeroU8S (.int .u8 (0)) rfl rfl _ rfl ?_; clear hS; intro go wo hgo hBo hS; clear hgo hBo)
    | (refine hs_append hS 1 rfl rfl _ _ 24 rfl 1 undBytesS infoU8S zeroU8S rfl (some ⟨go, 0, none⟩) 1 1 rfl (ints .u8 [0]) rfl (news_of_rd (OwnS.rd (k := .u8) (xs := [0]) (hS.os 0 rfl) rfl)) (ints_one' _ _) (by rw [ints_length, HLT.out]; omega) (by rw [ints_length, HLT.out]; omega) _ rfl ?_
       clear hS; intro A3 n3 c3 w5 hn3 hc3 hA3 hS; have HN3 := hid hn3; clear hn3
       replace hS : HS NoF w w5 [.os 5 (.slice A3 n3 c3) (ints .u8 (ts ++ [0])), Z32 g2] := by rw [ints_append]; exact hS.erase 0)
    | fail)
      go_roundg (gk - 1)
      case measure => have := hq.out; omega
      case rel => exact ⟨k + 1, A3, n3, c3, by omega, rfl, hc3, hid (by have := HN3.out; have := hn1.out; have := HLT.out; simp at *; omega), hid (by have := hq.out; omega), HTS.out ▸ hS⟩
    · obtain rfl : k = padZ m := by omega
      have h56 : (n1 : Int) % 64 = 56 := by have := hn1.out; have := hpz.out; omega
      have h56' : n1 % 64 = 56 := by have := hn1.out; have := hpz.out; omega
      have hnb : Hd (n1 ≤ 1000100) := hid (by have := hn1.out; have := hpz.out; omega)
      clear hlt hk hq hlt64
      have hb1 : n1 ≤ 1000100 := hnb.out
      go_wp2_with fail
      clear h56 h56'
      have hN8 : Hd (padOf m = [128] ++ List.replicate (padZ m) 0 ++ lenBs m 8) := hid rfl
      go_loopg [3, 5] 9 (fun kq v3 v5 wr => ∃ (k : Nat) (A1 : Option Addr) (m1 c1 : Nat), k ≤ 8 ∧ v3 = .slice A1 m1 c1 ∧ m1 ≤ c1 ∧ v5 = .int .i64 (7 - (k : Int)) ∧ Hd (m1 = n1 + k) ∧ Hd (kq + k = 9) ∧ HS NoF w wr [.os 5 (.slice A1 m1 c1) (ints .u8 (xs ++ [128] ++ List.replicate (padZ m) 0 ++ lenBs m k)), Z32 g2])
      case atStart => exact ⟨0, A1, n1, c1, Nat.zero_le _, rfl, hnc1, rfl, hid rfl, hid (by omega), by simpa [lenBs] using hS⟩
      case round =>
        clear hS hnc1
        obtain ⟨k, A1, m1, c1, hk, rfl, hnc1, rfl, hm1, hq, hS⟩ := hrel
        by_cases hlt : k < 8
        · obtain ⟨t, ht⟩ : ∃ t : Nat, 7 - k = t := ⟨_, rfl⟩
          have e7 : 7 - (k : Int) = (t : Int) := by omega
          have e7' : Hd ((t : Int) - 1 = 7 - ((k + 1 : Nat) : Int)) := hid (by omega)
          obtain ⟨s, hs'⟩ : ∃ s : Nat, 8 * t = s := ⟨_, rfl⟩
          have e8 : 8 * (t : Int) = (s : Int) := by omega
          have ht0 : (0 : Int) ≤ t := by omega
          have hs64 : s ≤ 56 := by omega
          have hLB : Hd (lenB m k = (m : Int) * 8 / 2 ^ s % 256) := hid (by unfold lenB; rw [show 56 - 8 * k = s by omega])
          have HTS : Hd (xs ++ [128] ++ List.replicate (padZ m) 0 ++ lenBs m k ++ [(m : Int) * 8 / 2 ^ s % 256] = xs ++ [128] ++ List.replicate (padZ m) 0 ++ lenBs m (k + 1)) := hid (by rw [List.append_assoc, ← hLB.out, ← lenBs_succ])
          have HLT : Hd ((xs ++ [128] ++ List.replicate (padZ m) 0 ++ lenBs m k).length = m1) := hid (by simp [lenBs, HM.out]; have := hm1.out; have := hn1.out; omega)
          have hmb : m1 ≤ 1000200 := by have := hm1.out; have := hnb.out; omega
          obtain ⟨ts, hts⟩ : ∃ ts, Hd (xs ++ [128] ++ List.replicate (padZ m) 0 ++ lenBs m k = ts) := ⟨_, hid rfl⟩
          rw [hts.out] at hS HLT HTS
          clear hs' ht hb1
          go_wp2_with (first
    | (refine hs_one hS rfl 24 5 _ rfl undBytesS sizeU8S zeroU8S (.int .u8 ((m : Int) * 8 / 2 ^ s % 256)) rfl rfl _ rfl ?_; clear hS; intro go wo hgo hBo hS; clear hgo hBo)
    | (refine hs_append hS 1 rfl rfl _ _ 24 rfl 1 undBytesS infoU8S zeroU8S rfl (some ⟨go, 0, none⟩) 1 1 rfl (ints .u8 [(m : Int) * 8 / 2 ^ s % 256]) rfl (news_of_rd (OwnS.rd (k := .u8) (xs := [(m : Int) * 8 / 2 ^ s % 256]) (hS.os 0 rfl) rfl)) (ints_one' _ _) (by rw [ints_length, HLT.out]; omega) (by rw [ints_length, HLT.out]; omega) _ rfl ?_
       clear hS; intro A3 n3 c3 w5 hn3 hc3 hA3 hS; have HN3 := hid hn3; clear hn3
       replace hS : HS NoF w w5 [.os 5 (.slice A3 n3 c3) (ints .u8 (ts ++ [(m : Int) * 8 / 2 ^ s % 256])), Z32 g2] := by rw [ints_append]; exact hS.erase 0)
    | fail)
          go_roundg (gk - 1)
          case measure => have := hq.out; omega
          case rel => exact ⟨k + 1, A3, n3, c3, by omega, rfl, hc3, by rw [e7'.out], hid (by have h1 := HN3.out; have h2 := hm1.out; have h3 := HLT.out; simp at h1; omega), hid (by have := hq.out; omega), HTS.out ▸ hS⟩
        · obtain rfl : k = 8 := by omega
          have HPAD : Hd (xs ++ [128] ++ List.replicate (padZ m) 0 ++ lenBs m 8 = xs ++ padOf m) := hid (by rw [hN8.out]; simp)
          rw [HPAD.out] at hS
          have HPB : Hd (∀ x ∈ xs ++ padOf m, B8 x) := hid fun x hx => by
            rcases List.mem_append.1 hx with hx | hx
            · exact HX8.out x hx
            · exact padOf_B8 m x hx
          have HP64 : Hd ((xs ++ padOf m).length % 64 = 0) := hid (by rw [List.length_append, HM.out]; exact padOf_length m)
          have HPL : Hd ((xs ++ padOf m).length = m1) := hid (by rw [← HPAD.out]; simp [lenBs, HM.out]; have := hm1.out; have := hn1.out; omega)
          have HEQ : Hd (shaOf xs = outSh (blocksS shaH0 (xs ++ padOf m) ((xs ++ padOf m).length / 64)) 32) := hid (by unfold shaOf; rw [HM.out])
          obtain ⟨ps, hps⟩ : ∃ ps, Hd (xs ++ padOf m = ps) := ⟨_, hid rfl⟩
          rw [hps.out] at hS HPB HP64 HPL HEQ
          obtain ⟨Q, hQ⟩ : ∃ Q, Hd (ps.length / 64 = Q) := ⟨_, hid rfl⟩
          rw [hQ.out] at HEQ
          have HQ : Hd (m1 = 64 * Q) := hid (by have := HPL.out; have := HP64.out; have := hQ.out; omega)
          have hmb : m1 ≤ 1000200 := by have := hm1.out; have := hnb.out; omega
          have hneg : (7 : Int) - (8 : Nat) = -1 := by decide
          clear hlt hk hm1 hn1 hnb hN8 hq hb1
          go_wp2_with (first
            | (refine wpList_buildFlatArr rfl 94 29 8 _ rfl .u32 shaH0 arrW8 sizeU32 (by kernel_rfl) (by rfl) ?_)
            | (refine alloc_blk rfl 94 rfl _ rfl (ints .u32 (List.replicate 8 0)) zeroW8 ?_; intro g6 w7 hga hba hBa hsa; replace hS := hS.pushBlk hBa hba hga; clear hga hba hBa hsa)
            | (refine hs_storeW hS 0 rfl rfl 94 _ _ rfl rfl (ints .u32 shaH0) rfl (ints_one' _ _) _ infoW8 (by rfl) (by simp) _ rfl ?_; clear hS; intro wb hS)
            | fail)
          replace hS : HS NoF w wb [.blk g6 94 (ints .u32 (blocksS shaH0 ps 0)), .os 5 (.slice A1 m1 c1) (ints .u8 ps), Z32 g2] := hS
          clear hneg HPAD
          go_loopg [7] (Q + 1) (fun kq v7 wr => ∃ (q p : Nat), q ≤ Q ∧ p = 64 * q ∧ v7 = .int .i64 p ∧ Hd (kq + q = Q + 1) ∧ HS NoF w wr [.blk g6 94 (ints .u32 (blocksS shaH0 ps q)), .os 5 (.slice A1 m1 c1) (ints .u8 ps), Z32 g2])
          case atStart => exact ⟨0, 0, Nat.zero_le _, rfl, rfl, hid (by omega), hS⟩
          case round =>
            clear hS
            obtain ⟨q, p, hqQ, hp, rfl, hq, hS⟩ := hrel
            have HP := hid hp
            clear hp
            by_cases hlt : q < Q
            · have hpm : p < m1 := by have := HP.out; have := HQ.out; omega
              have hpm2 : (p : Int) < m1 := by omega
              have hp64 : p + 64 ≤ m1 := by have := HP.out; have := HQ.out; omega
              obtain ⟨g, o, rfl⟩ := ((hS.os 1 rfl).rd rfl).at (by rw [HPL.out]; omega)
              have HX := hid (blocksS_succ shaH0 ps q)
              rw [← HP.out] at HX
              have HATf : Hd (∀ {w'}, HS NoF w w' [.blk g6 94 (ints .u32 (blocksS shaH0 ps q)), .os 5 (.slice (some ⟨g, o, none⟩) m1 c1) (ints .u8 ps), Z32 g2] → At w' g (o + p) ((ps.drop p).take 64) 64) := hid fun h i hi => by
                rw [rd_take _ _ _ hi, rd_drop, Nat.add_assoc]
                exact ((h.os 1 rfl).rd rfl).cellAt (p + i) (by rw [HPL.out]; omega)
              have hr8 : Hd (∀ i, 0 ≤ rd ((ps.drop p).take 64) i ∧ rd ((ps.drop p).take 64) i < 256) := hid (rd_all (P := B8) (fun x hx => HPB.out x (List.mem_of_mem_drop (List.mem_of_mem_take hx))) zero_B8)
              have HBL := hid (blocksS_length shaH0 ps (by rfl) q)
              have HBW := hid (blocksS_W32 shaH0 ps shaH0_W32 q)
              obtain ⟨bs, hbs⟩ : ∃ bs, Hd (blocksS shaH0 ps q = bs) := ⟨_, hid rfl⟩
              obtain ⟨ns, hns⟩ : ∃ ns, Hd (shaBlock bs ((ps.drop p).take 64) = ns) := ⟨_, hid rfl⟩
              rw [hbs.out] at hS HX HATf HBL HBW
              have HNL : Hd (ns.length = 8) := hid (by rw [← hns.out, shaBlock_length, HBL.out])
              rw [hns.out] at HX
              try go_wp2_with fail
              refine wp_region_S (F := NoF) (w0 := w) (L0 := [.blk g6 94 (ints .u32 bs), .os 5 (.slice (some ⟨g, o, none⟩) m1 c1) (ints .u8 ps), Z32 g2]) [6] [7]
                (fun iK u E => match iK with
                  | 6 => u = .agg (ints .u32 ns).toArray ∧ E = []
                  | _ => False)
                ([]) (by kernel_rfl) (by kernel_rfl) hS ?_
              show wpS _ _ _ _ _ _ _ _ _ _ [0, 1, 2, 3, 4, 5, 6, 7] _
              apply wpS_read (i := 0) rfl rfl ⟨_, hS⟩ rfl -- Op.load 74 t6
              · intro w' hT'
                simp only [List.getElem_toArray, List.getElem_cons_zero, List.getElem_cons_succ]
                go_wp2_with (first
                  | (refine hs_loadW hT' 0 rfl rfl 94 _ rfl rfl 8 infoW8 (by simp [HBL.out]) _ arrW8 rfl _ rfl ?_)
                  | (refine slice_two rfl _ _ _ 24 rfl 5 undBytesS sizeU8S g o m1 c1 p (p + 64) 64 rfl rfl rfl (by omega) (by omega) (by omega) (by omega) _ rfl ?_)
                  | fail)
                first | exact ⟨rfl, rfl, rfl⟩ | rfl
              apply wpS_read (i := 1) rfl rfl ⟨_, hS⟩ rfl -- Op.move t3
              · intro w' hT'
                simp only [List.getElem_toArray, List.getElem_cons_zero, List.getElem_cons_succ]
                go_wp2_with fail
                first | exact ⟨rfl, rfl, rfl⟩ | rfl
              apply wpS_read (i := 2) rfl rfl ⟨_, hS⟩ rfl -- Op.move t7
              · intro w' hT'
                simp only [List.getElem_toArray, List.getElem_cons_zero, List.getElem_cons_succ]
                go_wp2_with fail
                first | exact ⟨rfl, rfl, rfl⟩ | rfl
              apply wpS_read (i := 3) rfl rfl ⟨_, hS⟩ rfl -- Op.move t7
              · intro w' hT'
                simp only [List.getElem_toArray, List.getElem_cons_zero, List.getElem_cons_succ]
                go_wp2_with fail
                first | exact ⟨rfl, rfl, rfl⟩ | rfl
              apply wpS_read (i := 4) rfl rfl ⟨_, hS⟩ rfl -- Op.binOp BinOp.add 3 t48 (const (64:i64)) 3
              · intro w' hT'
                simp only [List.getElem_toArray, List.getElem_cons_zero, List.getElem_cons_succ]
                go_wp2_with (first
                  | (refine hs_loadW hT' 0 rfl rfl 94 _ rfl rfl 8 infoW8 (by simp [HBL.out]) _ arrW8 rfl _ rfl ?_)
                  | (refine slice_two rfl _ _ _ 24 rfl 5 undBytesS sizeU8S g o m1 c1 p (p + 64) 64 rfl rfl rfl (by omega) (by omega) (by omega) (by omega) _ rfl ?_)
                  | fail)
                first | exact ⟨rfl, rfl, rfl⟩ | rfl
              apply wpS_read (i := 5) rfl rfl ⟨_, hS⟩ rfl -- Op.slice 41 t46 (some t47) (some t49) none
              · intro w' hT'
                simp only [List.getElem_toArray, List.getElem_cons_zero, List.getElem_cons_succ]
                go_wp2_with (first
                  | (refine hs_loadW hT' 0 rfl rfl 94 _ rfl rfl 8 infoW8 (by simp [HBL.out]) _ arrW8 rfl _ rfl ?_)
                  | (refine slice_two rfl _ _ _ 24 rfl 5 undBytesS sizeU8S g o m1 c1 p (p + 64) 64 rfl rfl rfl (by omega) (by omega) (by omega) (by omega) _ rfl ?_)
                  | fail)
                first | exact ⟨rfl, rfl, rfl⟩ | rfl
              refine wpS_soft (i := 6) rfl rfl rfl (Nat.le_of_ble_eq_true rfl) ?_ ?_ -- Op.call { value (Operand.func 36), args := #[t45, t50], argTypes := 
              · intro w' hT
                simp only [List.getElem_toArray, List.getElem_cons_zero, List.getElem_cons_succ]
                go_wp2_with (first
                  | (go_at_call 44; refine (round1_calls bs ((ps.drop p).take 64) g (o + p) 64 (c1 - p) _ HBL.out HBW.out (HATf.out hT) hr8.out (Nat.le_refl _)).mono ?_; rintro e wz ⟨rfl, hB⟩; rw [hns.out])
                  | fail)
                exact SoftP.mk' (.agg (ints .u32 ns).toArray) ([]) rfl (⟨rfl, rfl⟩) (hT.below hB) (hB) (fun _ h => by cases h)
              intro u6 E6 hK6
              obtain ⟨rfl, rfl⟩ := hK6
              simp only [Act.put, List.setIfInBounds_toArray, List.set_cons_zero, List.set_cons_succ]
              refine wpS_tot (i := 7) rfl rfl (by kernel_rfl) ?_ -- Op.store 74 t6 t51
              intro w7 hT
              replace hT : HS NoF w w7 [.blk g6 94 (ints .u32 bs), .os 5 (.slice (some ⟨g, o, none⟩) m1 c1) (ints .u8 ps), Z32 g2] := hT
              simp only [List.getElem_toArray, List.getElem_cons_zero, List.getElem_cons_succ]
              go_wp2_with (first
                | (refine hs_storeW hT 0 rfl rfl 94 _ _ rfl rfl (ints .u32 ns) rfl (ints_one' _ _) _ infoW8 (by simp [HNL.out]) (by simp [HBL.out]) _ rfl ?_; clear hT; intro wz hT)
                | fail)
              refine TotP.mk' ([.blk g6 94 (ints .u32 ns), .os 5 (.slice (some ⟨g, o, none⟩) m1 c1) (ints .u8 ps), Z32 g2]) rfl ?_ ?_
              · exact hT
              clear hT
              refine wpS_end ?_
              intro wz hT
              try dsimp only

              have HPP : Hd (p + 64 = 64 * (q + 1)) := hid (by have := HP.out; omega)
              rw [← HX.out] at hT
              go_wp2_with fail
              go_roundg (gk - 1)
              case measure => have := hq.out; omega
              case rel => exact ⟨q + 1, p + 64, by omega, HPP.out, by go_num, hid (by have := hq.out; omega), hT⟩
            · obtain rfl : q = Q := by omega
              have hpe : p = m1 := by have := HP.out; have := HQ.out; omega
              have hpm2 : ¬ (p : Int) < m1 := by omega
              have hpm3 : (m1 : Int) ≤ p := by omega
              clear hpe
              obtain ⟨hz, hhz⟩ : ∃ hz, Hd (blocksS shaH0 ps q = hz) := ⟨_, hid rfl⟩
              have HZL : Hd (hz.length = 8) := hid (hhz.out ▸ blocksS_length shaH0 ps (by rfl) _)
              have HZW : Hd (∀ x ∈ hz, W32 x) := hid (hhz.out ▸ blocksS_W32 shaH0 ps shaH0_W32 _)
              rw [hhz.out] at hS HEQ
              clear hlt hqQ hq
              go_wp2_with (first
                | (refine alloc_blk rfl 30 rfl _ rfl (ints .u8 (List.replicate 32 0)) zeroHashS ?_; intro g8 w8 hga hba hBa hsa; replace hS := hS.pushBlk hBa hba hga; clear hga hba hBa hsa)
                | fail)
              replace hS : HS NoF w w8 [.blk g8 30 (ints .u8 (outSh hz 0)), .blk g6 94 (ints .u32 hz), .os 5 (.slice A1 m1 c1) (ints .u8 ps), Z32 g2] := hS
              clear hpm2 hpm3
              go_loopg [9] 33 (fun kq v9 wr => ∃ k : Nat, k ≤ 32 ∧ v9 = .int .i64 k ∧ Hd (kq + k = 33) ∧ HS NoF w wr [.blk g8 30 (ints .u8 (outSh hz k)), .blk g6 94 (ints .u32 hz), .os 5 (.slice A1 m1 c1) (ints .u8 ps), Z32 g2])
              case atStart => exact ⟨0, by omega, rfl, hid (by omega), hS⟩
              case round =>
                clear hS
                obtain ⟨k, hk, rfl, hq, hS⟩ := hrel
                by_cases hlt : k < 32
                · have hlt2 : (k : Int) < 32 := by omega
                  obtain ⟨j, hj⟩ : ∃ j : Nat, k / 4 = j := ⟨_, rfl⟩
                  obtain ⟨r, hr⟩ : ∃ r : Nat, k % 4 = r := ⟨_, rfl⟩
                  obtain ⟨s, hs'⟩ : ∃ s : Nat, 24 - 8 * r = s := ⟨_, rfl⟩
                  have e1 : (k : Int) / 4 = (j : Int) := by omega
                  have e2 : (k : Int) % 4 = (r : Int) := by omega
                  have e3 : 24 - 8 * (r : Int) = (s : Int) := by omega
                  have hj8 : j < 8 := by omega
                  have hr4 : r < 4 := by omega
                  have hs24 : s ≤ 24 := by omega
                  have HX := hid (outSh_succ hz k)
                  have HB1 : Hd (outB hz k = rd hz j / 2 ^ s % 256) := hid (by unfold outB; rw [hj, hr, hs'])
                  obtain ⟨x, hx⟩ : ∃ x, rd hz j = x := ⟨_, rfl⟩
                  obtain ⟨rx, sx⟩ : W32 x := hx ▸ rd_all HZW.out zero_W32 _
                  rw [hx] at HB1
                  have cx : wr.cell? ⟨g6, j, none⟩ = some (.int .u32 x) := by rw [hS.cellI 1 rfl j (by rw [HZL.out]; omega), hx]
                  clear hj hr hs' hx
                  go_wp2_with (first
                    | (refine hs_store1 hS 0 rfl rfl 5 _ _ rfl k rfl (.int .u8 (x / 2 ^ s % 256)) rfl rfl sizeU8S (by simp; omega) _ rfl ?_
                       clear hS cx; intro w8 hS; rw [ints_set, ← HB1.out, ← HX.out] at hS)
                    | fail)
                  go_roundg (gk - 1)
                  case measure => have := hq.out; omega
                  case rel => exact ⟨k + 1, by omega, by go_num, hid (by have := hq.out; omega), hS⟩
                · obtain rfl : k = 32 := by omega
                  rw [← HEQ.out] at hS
                  have HLL : Hd ((shaOf xs).length = 32) := hid (shaOf_length xs)
                  obtain ⟨ds, hds⟩ : ∃ ds, Hd (shaOf xs = ds) := ⟨_, hid rfl⟩
                  rw [hds.out] at hS HLL HEQ
                  clear hlt hk hq
                  go_wp2_with (first
                    | (refine hs_loadW hS 0 rfl rfl 30 _ rfl rfl 32 infoHashS (by simp [HLL.out]) _ arrHashS rfl _ rfl ?_)
                    | (refine hs_storeW hS 3 rfl rfl 30 _ _ rfl rfl (ints .u8 ds) rfl (ints_one' _ _) _ infoHashS (by simp [HLL.out]) (by simp) _ rfl ?_; clear hS; intro w9 hS)
                    | fail)
                  refine bodyPost_ret (results_blk rfl _ _ g2 _ _ 32 _ rfl (hS.blk 3 rfl) arrHashS (by simp [HLL.out]) infoHashS) rfl ⟨by rw [hds.out], hS.bel⟩
end Go.Proofs.YtckcdngnkpfcfaaDoor
