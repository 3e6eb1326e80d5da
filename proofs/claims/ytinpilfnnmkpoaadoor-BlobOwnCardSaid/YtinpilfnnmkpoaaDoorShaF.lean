/- The digest of a text, as a function of lists; the program's digest told. -/
import Derived.Test.YtinpilfnnmkpoaaDoorShaE
namespace Go.Proofs.YtinpilfnnmkpoaaDoor
open Go.RowKit Go.Cour
def shaH0 : List Int := [1779033703, 3144134277, 1013904242, 2773480762, 1359893119, 2600822924, 528734635, 1541459225]
theorem shaH0_W32 : ∀ x ∈ shaH0, W32 x := by unfold W32; decide
/-- Byte i of a length. -/
def lenB (n : Nat) (i : Nat) : Int := (n : Int) * 8 / 2 ^ (56 - 8 * i) % 256
def lenBs (n k : Nat) : List Int := (List.range k).map (lenB n)
theorem lenBs_succ (n k : Nat) : lenBs n (k + 1) = lenBs n k ++ [lenB n k] := by simp [lenBs, List.range_succ]
/-- How many zeros. -/
def padZ (n : Nat) : Nat := (119 - n % 64) % 64
/-- What is behind a text. -/
def padOf (n : Nat) : List Int := [128] ++ List.replicate (padZ n) 0 ++ lenBs n 8
theorem padOf_length (n : Nat) : (n + (padOf n).length) % 64 = 0 := by simp [padOf, lenBs, padZ]; omega
theorem padOf_B8 (n : Nat) : ∀ x ∈ padOf n, B8 x := fun x hx => by
  unfold padOf at hx
  rcases List.mem_append.1 hx with hx | hx
  · rcases List.mem_append.1 hx with hx | hx
    · simp at hx; subst hx; exact ⟨by decide, by decide⟩
    · rw [List.mem_replicate] at hx; rw [hx.2]; exact zero_B8
  · unfold lenBs at hx
    obtain ⟨i, _, rfl⟩ := List.mem_map.1 hx
    exact ⟨Int.emod_nonneg _ (by decide), Int.emod_lt_of_pos _ (by decide)⟩
/-- Byte i of the digest. -/
def outB (h : List Int) (i : Nat) : Int := rd h (i / 4) / 2 ^ (24 - 8 * (i % 4)) % 256
def outS (h : List Int) (k : Nat) : List Int := (List.range k).foldl (fun x i => x.set i (outB h i)) (List.replicate 32 0)
theorem outS_succ (h : List Int) (k : Nat) : outS h (k + 1) = (outS h k).set k (outB h k) := by simp [outS, List.range_succ]
@[simp] theorem outS_length (h : List Int) (k : Nat) : (outS h k).length = 32 := by
  induction k with
  | zero => simp [outS]
  | succ k ih => rw [outS_succ]; simpa using ih
/-- The digest. -/
def shaOf (xs : List Int) : List Int := outS (blocksS shaH0 (xs ++ padOf xs.length) ((xs ++ padOf xs.length).length / 64)) 32
theorem shaOf_length (xs : List Int) : (shaOf xs).length = 32 := outS_length _ _
theorem outS_B8 (h : List Int) (k : Nat) : ∀ x ∈ outS h k, B8 x := by
  induction k with
  | zero => intro x hx; simp [outS] at hx; rw [hx]; exact zero_B8
  | succ k ih => rw [outS_succ]; exact set_all ih ⟨Int.emod_nonneg _ (by decide), Int.emod_lt_of_pos _ (by decide)⟩
theorem shaOf_B8 (xs : List Int) : ∀ x ∈ shaOf xs, B8 x := outS_B8 _ _
theorem blocksS_prefix (h xs ys : List Int) (q : Nat) (hq : 64 * q ≤ xs.length) : blocksS h (xs ++ ys) q = blocksS h xs q := by
  induction q with
  | zero => simp [blocksS]
  | succ q ih =>
    rw [blocksS_succ, blocksS_succ, ih (by omega), List.drop_append_of_le_length (by omega), List.take_append_of_le_length (by rw [List.length_drop]; omega)]
theorem blocksS_add (h xs : List Int) (q r : Nat) : blocksS (blocksS h xs q) (xs.drop (64 * q)) r = blocksS h xs (q + r) := by
  induction r with
  | zero => simp [blocksS]
  | succ r ih => rw [blocksS_succ, ih, ← Nat.add_assoc, blocksS_succ, List.drop_drop, Nat.mul_add]
/-- What is there behind a text's being written. -/
def hOf (xs : List Int) : List Int := blocksS shaH0 xs (xs.length / 64)
def restOf (xs : List Int) : List Int := xs.drop (64 * (xs.length / 64))
theorem hOf_length (xs : List Int) : (hOf xs).length = 8 := blocksS_length _ _ (by rfl) _
theorem hOf_W32 (xs : List Int) : ∀ x ∈ hOf xs, W32 x := blocksS_W32 _ _ shaH0_W32 _
theorem restOf_length (xs : List Int) : (restOf xs).length = xs.length % 64 := by unfold restOf; rw [List.length_drop]; omega
theorem rest_append (xs ys : List Int) : restOf xs ++ ys = (xs ++ ys).drop (64 * (xs.length / 64)) := by
  unfold restOf; rw [List.drop_append_of_le_length (by omega)]
theorem hOf_append (xs ys : List Int) : blocksS (hOf xs) (restOf xs ++ ys) ((restOf xs ++ ys).length / 64) = hOf (xs ++ ys) := by
  unfold hOf
  rw [rest_append, ← blocksS_prefix shaH0 xs ys _ (by omega), blocksS_add]
  congr 1
  rw [List.length_drop, List.length_append]; omega
theorem restOf_append (xs ys : List Int) : (restOf xs ++ ys).drop (64 * ((restOf xs ++ ys).length / 64)) = restOf (xs ++ ys) := by
  rw [rest_append, List.drop_drop]
  unfold restOf
  congr 1
  rw [List.length_drop, List.length_append]; omega
theorem shaOf_eq (xs : List Int) : shaOf xs = outS (blocksS (hOf xs) (restOf xs ++ padOf xs.length) ((restOf xs ++ padOf xs.length).length / 64)) 32 := by
  rw [hOf_append]; rfl
theorem eight : ∀ {hs : List Int}, hs.length = 8 → ∃ x0 x1 x2 x3 x4 x5 x6 x7, hs = [x0, x1, x2, x3, x4, x5, x6, x7]
  | [x0, x1, x2, x3, x4, x5, x6, x7], _ => ⟨_, _, _, _, _, _, _, _, rfl⟩
theorem zeroU8S' : ((Tryd.prog.info? 5).bind (·.zero)).isSome = true := by kernel_rfl
theorem builtSha8 (x0 x1 x2 x3 x4 x5 x6 x7 : Int) (A1 : Option Addr) (n1 c1 : Nat) : Tryd.prog.built 94 [(0, .agg (ints .u32 [x0, x1, x2, x3, x4, x5, x6, x7]).toArray), (1, .slice A1 n1 c1)] = some (shaC [x0, x1, x2, x3, x4, x5, x6, x7] (.slice A1 n1 c1) 0).toArray := by kernel_rfl
theorem builtSha (hs : List Int) (hl : hs.length = 8) (A1 : Option Addr) (n1 c1 : Nat) : Tryd.prog.built 94 [(0, .agg (ints .u32 hs).toArray), (1, .slice A1 n1 c1)] = some (shaC hs (.slice A1 n1 c1) 0).toArray := by
  obtain ⟨_, _, _, _, _, _, _, _, rfl⟩ := eight hl
  exact builtSha8 _ _ _ _ _ _ _ _ _ _ _
theorem infoHashS : (Tryd.prog.info? 30).map (·.size) = some 32 := by kernel_rfl
theorem arrHashS : Tryd.prog.underlying 30 = some (.array 32 5) := by kernel_rfl
theorem zeroHashS : ((Tryd.prog.info? 30).bind (·.zero)).map (·.cells) = some (ints .u8 (List.replicate 32 0)).toArray := by kernel_rfl
abbrev Z32 (g : Nat) : Ent := .blk g 30 (ints .u8 (List.replicate 32 0))
/-- What the blocks of Hash.Sum hold. -/
abbrev SS (w wr : World) (g2 g3 : Nat) (hs : List Int) (A : Option Addr) (n c : Nat) (ts : List Int) : Prop :=
  HS NoF w wr [.blk g3 94 (shaC hs (.slice A n c) 0), .os 5 (.slice A n c) (ints .u8 ts), Z32 g2]
set_option maxHeartbeats 2000000 in
set_option maxRecDepth 100000 in
theorem sumH_calls (xs : List Int) (gh : Nat) (vr : Value) (w : World) (hb : Blk w gh 94 (shaC (hOf xs) vr xs.length)) (ho : OwnS w 5 vr (ints .u8 (restOf xs))) (hne : vr.ownBlock ≠ some gh) (hx : ∀ x ∈ xs, B8 x) (hsz : xs.length ≤ 1000000000) :
    Calls Tryd.prog 43 #[.pointer (some ⟨gh, 0, none⟩)] w fun e w' => e = .returned (.agg (ints .u8 (shaOf xs)).toArray) ∧ Below w.heap.size w w' := by
  have hS := HS.start NoF w
  have HB := hid hb
  obtain ⟨A, c, rfl, hnc, _, hA, _, _⟩ := ho.parts
  have HO := hid ho
  obtain ⟨n, hn⟩ : ∃ n, Hd ((ints .u8 (restOf xs)).length = n) := ⟨_, hid rfl⟩
  rw [hn.out] at HB HO hnc
  obtain ⟨hs, hhs⟩ : ∃ hs, Hd (hOf xs = hs) := ⟨_, hid rfl⟩
  obtain ⟨rs, hrs⟩ : ∃ rs, Hd (restOf xs = rs) := ⟨_, hid rfl⟩
  have hl8 := hOf_length xs
  have HW : Hd (∀ x ∈ hs, W32 x) := hid (hhs.out ▸ hOf_W32 xs)
  have HRL : Hd (rs.length = xs.length % 64) := hid (hrs.out ▸ restOf_length xs)
  have HRB : Hd (∀ x ∈ rs, B8 x) := hid (hrs.out ▸ fun x hx' => hx x (List.mem_of_mem_drop hx'))
  have HEQ := hid (shaOf_eq xs)
  rw [hhs.out, hrs.out] at HEQ
  rw [hhs.out] at HB hl8
  rw [hrs.out] at HO hn
  obtain ⟨N, hN⟩ : ∃ N, Hd (xs.length = N) := ⟨_, hid rfl⟩
  rw [hN.out] at HB HEQ HRL hsz
  clear hx
  have HL := hid hl8
  clear hl8
  have hn64 : n ≤ 64 := by have h1 := hn.out; have h2 := HRL.out; rw [ints_length] at h1; omega
  have g8 := hid (shaC_get8 (vr := .slice A n c) (n := (N : Int)) HL.out)
  have g9 := hid (shaC_get9 (vr := .slice A n c) (n := (N : Int)) HL.out)
  clear hb ho hne
  go_enter Tryd.func43, Tryd.ntmps43
  go_wp2_with (first
    | (refine alloc_blk rfl 30 rfl _ rfl (ints .u8 (List.replicate 32 0)) zeroHashS ?_; intro g2 w2 hga hba hBa hsa; replace hS := hS.pushBlk hBa hba hga; clear hga hba hBa hsa)
    | fail)
  try go_wp2_with fail
  refine wp_region_S (F := NoF) (w0 := w) (L0 := [Z32 g2]) [] [4, 9, 11]
    (fun iK u E => match iK with
      | _ => False)
    ([]) (by kernel_rfl) (by kernel_rfl) hS ?_
  show wpS _ _ _ _ _ _ _ _ _ _ [0, 1, 2, 3, 4, 5, 6, 7, 8, 9, 10, 11, 12] _
  apply wpS_read (i := 0) rfl rfl ⟨_, hS⟩ rfl -- Op.move t0
  · intro w' hT'
    simp only [List.getElem_toArray, List.getElem_cons_zero, List.getElem_cons_succ]
    go_wp2_with fail
    first | exact ⟨rfl, rfl, rfl⟩ | rfl
  apply wpS_read (i := 1) rfl rfl ⟨_, hS⟩ rfl -- Op.nilCheck t7
  · intro w' hT'
    simp only [List.getElem_toArray, List.getElem_cons_zero, List.getElem_cons_succ]
    go_wp2_with fail
    first | exact ⟨rfl, rfl, rfl⟩ | rfl
  apply wpS_read (i := 2) rfl rfl ⟨_, hS⟩ rfl -- Op.fieldAddr 94 t8 0
  · intro w' hT'
    simp only [List.getElem_toArray, List.getElem_cons_zero, List.getElem_cons_succ]
    go_wp2_with fail
    first | exact ⟨rfl, rfl, rfl⟩ | rfl
  apply wpS_read (i := 3) rfl rfl ⟨_, hS⟩ rfl -- Op.load 74 t9
  · intro w' hT'
    simp only [List.getElem_toArray, List.getElem_cons_zero, List.getElem_cons_succ]
    have b0 := hT'.oldBlk HB.out id
    have c8 : w'.cell? ⟨gh, 8, none⟩ = some (.slice A n c) := (b0.cell 8).trans g8.out
    go_wp2_with (first
      | (refine load_in rfl 74 _ rfl gh 0 rfl (ints .u32 hs) (fun j v hv => by rw [b0.cell, Nat.zero_add]; unfold shaC; rw [List.getElem?_append_left (List.getElem?_eq_some_iff.1 hv).1]; exact hv) 8 73 arrW8 (by simp [HL.out]) infoW8 ?_)
      | (refine build_to rfl 94 _ rfl (shaC hs (.slice A1 n1 c1) 0).toArray (by rw [Array.toList_map]; exact builtSha hs HL.out A1 n1 c1) ?_)
      | fail)
    first | exact ⟨rfl, rfl, rfl⟩ | rfl
  refine wpS_hard (i := 4) rfl rfl ?_ -- Op.buildSlice 41 0 #[]
  intro w4 hT
  simp only [List.getElem_toArray, List.getElem_cons_zero, List.getElem_cons_succ]
  go_wp2_with (first
    | (refine hs_empty hT rfl 41 5 rfl undBytesS zeroU8S' _ rfl ?_; clear hT; intro ge wz hge hBe hT)
    | fail)
  refine HardP.mk' ([.os 5 (.slice (some ⟨ge, 0, none⟩) 0 0) []]) rfl ?_ ?_
  · exact hT
  clear hT
  clear hge hBe
  apply wpS_read (i := 5) rfl rfl ⟨_, hS⟩ rfl -- Op.move t0
  · intro w' hT'
    simp only [List.getElem_toArray, List.getElem_cons_zero, List.getElem_cons_succ]
    go_wp2_with fail
    first | exact ⟨rfl, rfl, rfl⟩ | rfl
  apply wpS_read (i := 6) rfl rfl ⟨_, hS⟩ rfl -- Op.nilCheck t12
  · intro w' hT'
    simp only [List.getElem_toArray, List.getElem_cons_zero, List.getElem_cons_succ]
    go_wp2_with fail
    first | exact ⟨rfl, rfl, rfl⟩ | rfl
  apply wpS_read (i := 7) rfl rfl ⟨_, hS⟩ rfl -- Op.fieldAddr 94 t13 1
  · intro w' hT'
    simp only [List.getElem_toArray, List.getElem_cons_zero, List.getElem_cons_succ]
    go_wp2_with fail
    first | exact ⟨rfl, rfl, rfl⟩ | rfl
  apply wpS_read (i := 8) rfl rfl ⟨_, hS⟩ rfl -- Op.load 41 t14
  · intro w' hT'
    simp only [List.getElem_toArray, List.getElem_cons_zero, List.getElem_cons_succ]
    have b0 := hT'.oldBlk HB.out id
    have c8 : w'.cell? ⟨gh, 8, none⟩ = some (.slice A n c) := (b0.cell 8).trans g8.out
    go_wp2_with (first
      | (refine load_in rfl 74 _ rfl gh 0 rfl (ints .u32 hs) (fun j v hv => by rw [b0.cell, Nat.zero_add]; unfold shaC; rw [List.getElem?_append_left (List.getElem?_eq_some_iff.1 hv).1]; exact hv) 8 73 arrW8 (by simp [HL.out]) infoW8 ?_)
      | (refine build_to rfl 94 _ rfl (shaC hs (.slice A1 n1 c1) 0).toArray (by rw [Array.toList_map]; exact builtSha hs HL.out A1 n1 c1) ?_)
      | fail)
    first | exact ⟨rfl, rfl, rfl⟩ | rfl
  refine wpS_hard (i := 9) rfl rfl ?_ -- Op.call { builtin append, args := #[t11, t15], argTypes := #[41, 41]
  intro w9 hT
  replace hT : HS NoF w w9 [.os 5 (.slice (some ⟨ge, 0, none⟩) 0 0) [], Z32 g2] := hT
  simp only [List.getElem_toArray, List.getElem_cons_zero, List.getElem_cons_succ]
  go_wp2_with (first
    | (refine hs_append hT 0 rfl rfl _ _ 41 rfl 1 undBytesS infoU8S zeroU8S rfl A n c rfl (ints .u8 rs) hn.out (news_of_rd (hT.oldRd (HO.out.rd rfl) (fun _ _ _ h => h))) (ints_one' _ _) (by simp; omega) (by simp; omega) _ rfl ?_; clear hT; intro A1 n1 c1 wz hn1 hc1 hA1 hT; have HN1 := hid hn1; clear hn1)
    | fail)
  refine HardP.mk' ([.os 5 (.slice A1 n1 c1) (ints .u8 rs)]) rfl ?_ ?_
  · exact hT
  clear hT
  apply wpS_read (i := 10) rfl rfl ⟨_, hS⟩ rfl -- Op.build 94 #[(0, t10), (1, t16)]
  · intro w' hT'
    simp only [List.getElem_toArray, List.getElem_cons_zero, List.getElem_cons_succ]
    go_wp2_with (first
      | (refine load_in rfl 74 _ rfl gh 0 rfl (ints .u32 hs) (fun j v hv => by rw [b0.cell, Nat.zero_add]; unfold shaC; rw [List.getElem?_append_left (List.getElem?_eq_some_iff.1 hv).1]; exact hv) 8 73 arrW8 (by simp [HL.out]) infoW8 ?_)
      | (refine build_to rfl 94 _ rfl (shaC hs (.slice A1 n1 c1) 0).toArray (by rw [Array.toList_map]; exact builtSha hs HL.out A1 n1 c1) ?_)
      | fail)
    first | exact ⟨rfl, rfl, rfl⟩ | rfl
  refine wpS_hard (i := 11) rfl rfl ?_ -- Op.box 94 t17
  intro w11 hT
  replace hT : HS NoF w w11 [.os 5 (.slice A1 n1 c1) (ints .u8 rs), Z32 g2] := hT
  simp only [List.getElem_toArray, List.getElem_cons_zero, List.getElem_cons_succ]
  go_wp2_with (first
    | (refine box_blk rfl 94 _ rfl _ rfl (shaC hs (.slice A1 n1 c1) 0) rfl ?_; intro g3 wz hga hba hBa hsa)
    | fail)
  refine HardP.mk' ([.blk g3 94 (shaC hs (.slice A1 n1 c1) 0), .os 5 (.slice A1 n1 c1) (ints .u8 rs)]) rfl ?_ ?_
  · exact hT.pushBlk hBa hba hga
  clear hT
  clear hga hba hBa hsa
  apply wpS_read (i := 12) rfl rfl ⟨_, hS⟩ rfl -- Op.assign t18
  · intro w' hT'
    simp only [List.getElem_toArray, List.getElem_cons_zero, List.getElem_cons_succ]
    go_wp2_with fail
    first | exact ⟨rfl, rfl, rfl⟩ | rfl
  refine wpS_end ?_
  intro wz hT
  try dsimp only

  have HNL : Hd (rs.length = n1) := hid (by have := HN1.out; simpa using this)
  have hS0 : SS w wz g2 g3 hs A1 n1 c1 rs := hT
  clear hT hS HN1
  replace hS := hS0
  clear hS0
  have hb1 : n1 ≤ 64 := by have := HNL.out; have := HRL.out; omega
  go_wp2_with (first
    | (refine hs_load1 hS 0 rfl rfl 41 _ rfl 8 rfl (.slice A1 n1 c1) (shaC_get8 HL.out) _ undBytesS rfl _ rfl ?_)
    | (refine hs_one hS rfl 41 5 _ rfl undBytesS sizeU8S zeroU8S (.int .u8 128) rfl rfl _ rfl ?_; clear hS; intro go wo hgo hBo hS; clear hgo hBo)
    | (refine hs_append hS 2 rfl rfl _ _ 41 rfl 1 undBytesS infoU8S zeroU8S rfl (some ⟨go, 0, none⟩) 1 1 rfl (ints .u8 [128]) rfl (news_of_rd (OwnS.rd (k := .u8) (xs := [128]) (hS.os 0 rfl) rfl)) (ints_one' _ _) (by rw [ints_length, HNL.out]; omega) (by rw [ints_length, HNL.out]; omega) _ rfl ?_
       clear hS; intro A3 n3 c3 w3 hn3 hc3 hA3 hS; have HN3 := hid hn3; clear hn3
       replace hS : HS NoF w w3 [.blk g3 94 (shaC hs (.slice A1 n1 c1) 0), .os 5 (.slice A3 n3 c3) (ints .u8 (rs ++ [128])), Z32 g2] := by rw [ints_append]; exact hS.erase 0)
    | (refine hs_store1 hS 0 rfl rfl 41 _ _ rfl 8 rfl (.slice A3 n3 c3) rfl rfl sizeBytesS (by rw [shaC_length HL.out]; decide) _ rfl ?_; clear hS; intro w4 hS; rw [shaC_set8 HL.out] at hS; replace hS : SS w w4 g2 g3 hs A3 n3 c3 (rs ++ [128]) := hS)
    | fail)
  have HNL3 : Hd (rs.length + 1 = n3) := hid (by have := HN3.out; simpa using this)
  dsimp only [Act.put]
  go_loopg [] (padZ N + 1) (fun kq wr => ∃ (k : Nat) (A1 : Option Addr) (n1 c1 : Nat), k ≤ padZ N ∧ Hd (n1 = rs.length + 1 + k) ∧ Hd (kq + k = padZ N + 1) ∧ SS w wr g2 g3 hs A1 n1 c1 (rs ++ [128] ++ List.replicate k 0))
  case atStart => exact ⟨0, A3, n3, c3, Nat.zero_le _, hid HNL3.out.symm, hid (by omega), by simpa using hS⟩
  case round =>
    clear hS HN3 HNL3
    obtain ⟨k, A1, n1, c1, hk, hn1, hq, hS⟩ := hrel
    have hr := HRL.out
    have hlt64 : N % 64 < 64 := Nat.mod_lt _ (by decide)
    have hpz : Hd (padZ N = (119 - N % 64) % 64) := hid rfl
    by_cases hlt : k < padZ N
    · have h56 : ¬ (n1 : Int) % 64 = 56 := by have := hn1.out; have := hpz.out; omega
      have h56' : ¬ n1 % 64 = 56 := by have := hn1.out; have := hpz.out; omega
      have hb1 : n1 ≤ 200 := by have := hn1.out; have := hpz.out; omega
      have HLT : Hd ((rs ++ [128] ++ List.replicate k 0).length = n1) := hid (by simp; have := hn1.out; omega)
      have HTS : Hd (rs ++ [128] ++ List.replicate k 0 ++ [0] = rs ++ [128] ++ List.replicate (k + 1) 0) := hid (by rw [List.append_assoc (rs ++ [128]), ← List.replicate_succ'])
      obtain ⟨ts, hts⟩ : ∃ ts, Hd (rs ++ [128] ++ List.replicate k 0 = ts) := ⟨_, hid rfl⟩
      rw [hts.out] at hS HLT HTS
      clear hr
      go_wp2_with (first
    | (refine hs_load1 hS 0 rfl rfl 41 _ rfl 8 rfl (.slice A1 n1 c1) (shaC_get8 HL.out) _ undBytesS rfl _ rfl ?_)
    | (refine hs_one hS rfl 41 5 _ rfl undBytesS sizeU8S zeroU8S (.int .u8 0) rfl rfl _ rfl ?_; clear hS; intro go wo hgo hBo hS; clear hgo hBo)
    | (refine hs_append hS 2 rfl rfl _ _ 41 rfl 1 undBytesS infoU8S zeroU8S rfl (some ⟨go, 0, none⟩) 1 1 rfl (ints .u8 [0]) rfl (news_of_rd (OwnS.rd (k := .u8) (xs := [0]) (hS.os 0 rfl) rfl)) (ints_one' _ _) (by rw [ints_length, HLT.out]; omega) (by rw [ints_length, HLT.out]; omega) _ rfl ?_
       clear hS; intro A3 n3 c3 w3 hn3 hc3 hA3 hS; have HN3 := hid hn3; clear hn3
       replace hS : HS NoF w w3 [.blk g3 94 (shaC hs (.slice A1 n1 c1) 0), .os 5 (.slice A3 n3 c3) (ints .u8 (ts ++ [0])), Z32 g2] := by rw [ints_append]; exact hS.erase 0)
    | (refine hs_store1 hS 0 rfl rfl 41 _ _ rfl 8 rfl (.slice A3 n3 c3) rfl rfl sizeBytesS (by rw [shaC_length HL.out]; decide) _ rfl ?_; clear hS; intro w4 hS; rw [shaC_set8 HL.out] at hS; replace hS : SS w w4 g2 g3 hs A3 n3 c3 (ts ++ [0]) := hS)
    | fail)
      go_roundg (gk - 1)
      case measure => have := hq.out; omega
      case rel => exact ⟨k + 1, A3, n3, c3, by omega, hid (by have := HN3.out; have := hn1.out; have := HLT.out; simp at *; omega), hid (by have := hq.out; omega), HTS.out ▸ hS⟩
    · obtain rfl : k = padZ N := by omega
      have h56 : (n1 : Int) % 64 = 56 := by have := hn1.out; have := hpz.out; omega
      have h56' : n1 % 64 = 56 := by have := hn1.out; have := hpz.out; omega
      have c8 : wr.cell? ⟨g3, 8, none⟩ = some (.slice A1 n1 c1) := (hS.cell 0 rfl 8).trans (shaC_get8 HL.out)
      have hnb : Hd (n1 ≤ 130) := hid (by have := hn1.out; have := hpz.out; omega)
      have hn1' : Hd (n1 + 0 = rs.length + 1 + padZ N) := hid hn1.out
      clear hlt hk hq hr hlt64 hn1
      go_wp2_with fail
      clear c8 h56 h56'
      have hN8 : Hd (padOf N = [128] ++ List.replicate (padZ N) 0 ++ lenBs N 8) := hid rfl
      go_loopg [4, 44] 9 (fun kq v4 v44 wr => ∃ (k : Nat) (A1 : Option Addr) (m1 c1 : Nat), k ≤ 8 ∧ v44 = .int .i64 k ∧ Hd (m1 = n1 + k) ∧ Hd (kq + k = 9) ∧ SS w wr g2 g3 hs A1 m1 c1 (rs ++ [128] ++ List.replicate (padZ N) 0 ++ lenBs N k))
      case atStart => exact ⟨0, A1, n1, c1, Nat.zero_le _, rfl, hid rfl, hid (by omega), by simpa [lenBs] using hS⟩
      case round =>
        clear hS
        obtain ⟨k, A1, m1, c1, hk, rfl, hm1, hq, hS⟩ := hrel
        by_cases hlt : k < 8
        · have hlt2 : (k : Int) < 8 := by omega
          obtain ⟨s, hs'⟩ : ∃ s : Nat, 56 - 8 * k = s := ⟨_, rfl⟩
          have e56 : 56 - 8 * (k : Int) = (s : Int) := by omega
          have hs64 : s ≤ 56 := by omega
          have hLB : Hd (lenB N k = (N : Int) * 8 / 2 ^ s % 256) := hid (by unfold lenB; rw [hs'])
          have HTS : Hd (rs ++ [128] ++ List.replicate (padZ N) 0 ++ lenBs N k ++ [(N : Int) * 8 / 2 ^ s % 256] = rs ++ [128] ++ List.replicate (padZ N) 0 ++ lenBs N (k + 1)) := hid (by rw [List.append_assoc, ← hLB.out, ← lenBs_succ])
          have HLT : Hd ((rs ++ [128] ++ List.replicate (padZ N) 0 ++ lenBs N k).length = m1) := hid (by simp [lenBs]; have := hm1.out; have := hn1'.out; omega)
          have hmb : m1 ≤ 200 := by have := hm1.out; have := hnb.out; omega
          obtain ⟨ts, hts⟩ : ∃ ts, Hd (rs ++ [128] ++ List.replicate (padZ N) 0 ++ lenBs N k = ts) := ⟨_, hid rfl⟩
          rw [hts.out] at hS HLT HTS
          obtain ⟨B, hBB⟩ : ∃ B, Hd ((N : Int) * 8 / 2 ^ s % 256 = B) := ⟨_, hid rfl⟩
          clear hs'
          go_wp2_with fail
          replace hS : HS NoF w wr ([.os 5 (.slice A1 m1 c1) (ints .u8 ts), Z32 g2] ++ [.blk g3 94 (shaC hs (.slice A1 m1 c1) 0)]) := hS.perm (List.perm_append_comm (l₁ := [Ent.blk g3 94 (shaC hs (.slice A1 m1 c1) 0)]) (l₂ := [Ent.os 5 (.slice A1 m1 c1) (ints .u8 ts), Z32 g2]))
          try go_wp2_with fail
          refine wp_region_S (F := NoF) (w0 := w) (L0 := [.blk g3 94 (shaC hs (.slice A1 m1 c1) 0)]) [] [15, 16, 19]
            (fun iK u E => match iK with
              | _ => False)
            ([.os 5 (.slice A1 m1 c1) (ints .u8 ts), Z32 g2]) (by kernel_rfl) (by kernel_rfl) hS ?_
          show wpS _ _ _ _ _ _ _ _ _ _ [0, 1, 2, 3, 4, 5, 6, 7, 8, 9, 10, 11, 12, 13, 14, 15, 16, 17, 18, 19] _
          apply wpS_read (i := 0) rfl rfl ⟨_, (HS.drop2 (E := [.os 5 (.slice A1 m1 c1) (ints .u8 ts), Z32 g2]) (L := [.blk g3 94 (shaC hs (.slice A1 m1 c1) 0)]) hS)⟩ rfl -- Op.move t3
          · intro w' hT'
            simp only [List.getElem_toArray, List.getElem_cons_zero, List.getElem_cons_succ]
            go_wp2_with fail
            first | exact ⟨rfl, rfl, rfl⟩ | rfl
          apply wpS_read (i := 1) rfl rfl ⟨_, (HS.drop2 (E := [.os 5 (.slice A1 m1 c1) (ints .u8 ts), Z32 g2]) (L := [.blk g3 94 (shaC hs (.slice A1 m1 c1) 0)]) hS)⟩ rfl -- Op.move t3
          · intro w' hT'
            simp only [List.getElem_toArray, List.getElem_cons_zero, List.getElem_cons_succ]
            go_wp2_with fail
            first | exact ⟨rfl, rfl, rfl⟩ | rfl
          apply wpS_read (i := 2) rfl rfl ⟨_, (HS.drop2 (E := [.os 5 (.slice A1 m1 c1) (ints .u8 ts), Z32 g2]) (L := [.blk g3 94 (shaC hs (.slice A1 m1 c1) 0)]) hS)⟩ rfl -- Op.nilCheck t48
          · intro w' hT'
            simp only [List.getElem_toArray, List.getElem_cons_zero, List.getElem_cons_succ]
            go_wp2_with fail
            first | exact ⟨rfl, rfl, rfl⟩ | rfl
          apply wpS_read (i := 3) rfl rfl ⟨_, (HS.drop2 (E := [.os 5 (.slice A1 m1 c1) (ints .u8 ts), Z32 g2]) (L := [.blk g3 94 (shaC hs (.slice A1 m1 c1) 0)]) hS)⟩ rfl -- Op.fieldAddr 94 t49 1
          · intro w' hT'
            simp only [List.getElem_toArray, List.getElem_cons_zero, List.getElem_cons_succ]
            go_wp2_with fail
            first | exact ⟨rfl, rfl, rfl⟩ | rfl
          apply wpS_read (i := 4) rfl rfl ⟨_, (HS.drop2 (E := [.os 5 (.slice A1 m1 c1) (ints .u8 ts), Z32 g2]) (L := [.blk g3 94 (shaC hs (.slice A1 m1 c1) 0)]) hS)⟩ rfl -- Op.load 41 t50
          · intro w' hT'
            simp only [List.getElem_toArray, List.getElem_cons_zero, List.getElem_cons_succ]
            have b0 := hT'.oldBlk HB.out id
            have c9 : w'.cell? ⟨gh, 9, none⟩ = some (.int .u64 N) := (b0.cell 9).trans g9.out
            have c8 : w'.cell? ⟨g3, 8, none⟩ = some (.slice A1 m1 c1) := (hT'.cell 0 rfl 8).trans (shaC_get8 HL.out)
            go_wp2_with fail
            first | exact ⟨rfl, rfl, rfl⟩ | rfl
          apply wpS_read (i := 5) rfl rfl ⟨_, (HS.drop2 (E := [.os 5 (.slice A1 m1 c1) (ints .u8 ts), Z32 g2]) (L := [.blk g3 94 (shaC hs (.slice A1 m1 c1) 0)]) hS)⟩ rfl -- Op.move t0
          · intro w' hT'
            simp only [List.getElem_toArray, List.getElem_cons_zero, List.getElem_cons_succ]
            go_wp2_with fail
            first | exact ⟨rfl, rfl, rfl⟩ | rfl
          apply wpS_read (i := 6) rfl rfl ⟨_, (HS.drop2 (E := [.os 5 (.slice A1 m1 c1) (ints .u8 ts), Z32 g2]) (L := [.blk g3 94 (shaC hs (.slice A1 m1 c1) 0)]) hS)⟩ rfl -- Op.nilCheck t52
          · intro w' hT'
            simp only [List.getElem_toArray, List.getElem_cons_zero, List.getElem_cons_succ]
            go_wp2_with fail
            first | exact ⟨rfl, rfl, rfl⟩ | rfl
          apply wpS_read (i := 7) rfl rfl ⟨_, (HS.drop2 (E := [.os 5 (.slice A1 m1 c1) (ints .u8 ts), Z32 g2]) (L := [.blk g3 94 (shaC hs (.slice A1 m1 c1) 0)]) hS)⟩ rfl -- Op.fieldAddr 94 t53 2
          · intro w' hT'
            simp only [List.getElem_toArray, List.getElem_cons_zero, List.getElem_cons_succ]
            go_wp2_with fail
            first | exact ⟨rfl, rfl, rfl⟩ | rfl
          apply wpS_read (i := 8) rfl rfl ⟨_, (HS.drop2 (E := [.os 5 (.slice A1 m1 c1) (ints .u8 ts), Z32 g2]) (L := [.blk g3 94 (shaC hs (.slice A1 m1 c1) 0)]) hS)⟩ rfl -- Op.load 72 t54
          · intro w' hT'
            simp only [List.getElem_toArray, List.getElem_cons_zero, List.getElem_cons_succ]
            have b0 := hT'.oldBlk HB.out id
            have c9 : w'.cell? ⟨gh, 9, none⟩ = some (.int .u64 N) := (b0.cell 9).trans g9.out
            have c8 : w'.cell? ⟨g3, 8, none⟩ = some (.slice A1 m1 c1) := (hT'.cell 0 rfl 8).trans (shaC_get8 HL.out)
            go_wp2_with fail
            first | exact ⟨rfl, rfl, rfl⟩ | rfl
          apply wpS_read (i := 9) rfl rfl ⟨_, (HS.drop2 (E := [.os 5 (.slice A1 m1 c1) (ints .u8 ts), Z32 g2]) (L := [.blk g3 94 (shaC hs (.slice A1 m1 c1) 0)]) hS)⟩ rfl -- Op.binOp BinOp.mul 72 t55 (const (8:u64)) 72
          · intro w' hT'
            simp only [List.getElem_toArray, List.getElem_cons_zero, List.getElem_cons_succ]
            go_wp2_with fail
            first | exact ⟨rfl, rfl, rfl⟩ | rfl
          apply wpS_read (i := 10) rfl rfl ⟨_, (HS.drop2 (E := [.os 5 (.slice A1 m1 c1) (ints .u8 ts), Z32 g2]) (L := [.blk g3 94 (shaC hs (.slice A1 m1 c1) 0)]) hS)⟩ rfl -- Op.move t4
          · intro w' hT'
            simp only [List.getElem_toArray, List.getElem_cons_zero, List.getElem_cons_succ]
            go_wp2_with fail
            first | exact ⟨rfl, rfl, rfl⟩ | rfl
          apply wpS_read (i := 11) rfl rfl ⟨_, (HS.drop2 (E := [.os 5 (.slice A1 m1 c1) (ints .u8 ts), Z32 g2]) (L := [.blk g3 94 (shaC hs (.slice A1 m1 c1) 0)]) hS)⟩ rfl -- Op.binOp BinOp.mul 3 (const (8:i64)) t57 3
          · intro w' hT'
            simp only [List.getElem_toArray, List.getElem_cons_zero, List.getElem_cons_succ]
            go_wp2_with fail
            first | exact ⟨rfl, rfl, rfl⟩ | rfl
          apply wpS_read (i := 12) rfl rfl ⟨_, (HS.drop2 (E := [.os 5 (.slice A1 m1 c1) (ints .u8 ts), Z32 g2]) (L := [.blk g3 94 (shaC hs (.slice A1 m1 c1) 0)]) hS)⟩ rfl -- Op.binOp BinOp.sub 3 (const (56:i64)) t58 3
          · intro w' hT'
            simp only [List.getElem_toArray, List.getElem_cons_zero, List.getElem_cons_succ]
            go_wp2_with fail
            first | exact ⟨rfl, rfl, rfl⟩ | rfl
          apply wpS_read (i := 13) rfl rfl ⟨_, (HS.drop2 (E := [.os 5 (.slice A1 m1 c1) (ints .u8 ts), Z32 g2]) (L := [.blk g3 94 (shaC hs (.slice A1 m1 c1) 0)]) hS)⟩ rfl -- Op.binOp BinOp.shr 72 t56 t59 3
          · intro w' hT'
            simp only [List.getElem_toArray, List.getElem_cons_zero, List.getElem_cons_succ]
            go_wp2_with fail
            first | exact ⟨rfl, rfl, rfl⟩ | rfl
          apply wpS_read (i := 14) rfl rfl ⟨_, (HS.drop2 (E := [.os 5 (.slice A1 m1 c1) (ints .u8 ts), Z32 g2]) (L := [.blk g3 94 (shaC hs (.slice A1 m1 c1) 0)]) hS)⟩ rfl -- Op.convert 72 5 t60
          · intro w' hT'
            simp only [List.getElem_toArray, List.getElem_cons_zero, List.getElem_cons_succ]
            go_wp2_with fail
            first | exact ⟨rfl, rfl, rfl⟩ | rfl
          refine wpS_hard (i := 15) rfl rfl ?_ -- Op.buildSlice 41 1 #[(0, t61)]
          intro w15 hT
          simp only [List.getElem_toArray, List.getElem_cons_zero, List.getElem_cons_succ]
          go_wp2_with (first
            | (rw [hBB.out]; refine hs_one hT rfl 41 5 _ rfl undBytesS sizeU8S zeroU8S (.int .u8 B) rfl rfl _ rfl ?_; clear hT; intro go wo hgo hBo hT)
            | fail)
          refine HardP.mk' ([.os 5 (.slice (some ⟨go, 0, none⟩) 1 1) (ints .u8 [B]), .os 5 (.slice A1 m1 c1) (ints .u8 ts), Z32 g2]) rfl ?_ ?_
          · exact hT
          clear hT
          clear hgo hBo
          refine wpS_hard (i := 16) rfl rfl ?_ -- Op.call { builtin append, args := #[t51, t62], argTypes := #[41, 41]
          intro w16 hT
          replace hT : HS NoF w w16 [.os 5 (.slice (some ⟨go, 0, none⟩) 1 1) (ints .u8 [B]), .os 5 (.slice A1 m1 c1) (ints .u8 ts), Z32 g2, .blk g3 94 (shaC hs (.slice A1 m1 c1) 0)] := hT
          simp only [List.getElem_toArray, List.getElem_cons_zero, List.getElem_cons_succ]
          go_wp2_with (first
            | (refine hs_append hT 1 rfl rfl _ _ 41 rfl 1 undBytesS infoU8S zeroU8S rfl (some ⟨go, 0, none⟩) 1 1 rfl (ints .u8 [B]) rfl (news_of_rd (OwnS.rd (k := .u8) (xs := [B]) (hT.os 0 rfl) rfl)) (ints_one' _ _) (by rw [ints_length, HLT.out]; omega) (by rw [ints_length, HLT.out]; omega) _ rfl ?_; clear hT; intro A3 n3 c3 w3 hn3 hc3 hA3 hT; have HN3 := hid hn3; clear hn3; rw [← ints_append] at hT)
            | fail)
          refine HardP.mk' ([.os 5 (.slice (some ⟨go, 0, none⟩) 1 1) (ints .u8 [B]), .os 5 (.slice A3 n3 c3) (ints .u8 (ts ++ [B])), Z32 g2]) rfl ?_ ?_
          · exact hT
          clear hT
          apply wpS_read (i := 17) rfl rfl ⟨_, (HS.drop2 (E := [.os 5 (.slice A1 m1 c1) (ints .u8 ts), Z32 g2]) (L := [.blk g3 94 (shaC hs (.slice A1 m1 c1) 0)]) hS)⟩ rfl -- Op.nilCheck t47
          · intro w' hT'
            simp only [List.getElem_toArray, List.getElem_cons_zero, List.getElem_cons_succ]
            go_wp2_with fail
            first | exact ⟨rfl, rfl, rfl⟩ | rfl
          apply wpS_read (i := 18) rfl rfl ⟨_, (HS.drop2 (E := [.os 5 (.slice A1 m1 c1) (ints .u8 ts), Z32 g2]) (L := [.blk g3 94 (shaC hs (.slice A1 m1 c1) 0)]) hS)⟩ rfl -- Op.fieldAddr 94 t64 1
          · intro w' hT'
            simp only [List.getElem_toArray, List.getElem_cons_zero, List.getElem_cons_succ]
            go_wp2_with fail
            first | exact ⟨rfl, rfl, rfl⟩ | rfl
          refine wpS_tot (i := 19) rfl rfl (by kernel_rfl) ?_ -- Op.store 41 t65 t63
          intro w19 hT
          replace hT : HS NoF w w19 [.os 5 (.slice (some ⟨go, 0, none⟩) 1 1) (ints .u8 [B]), .os 5 (.slice A3 n3 c3) (ints .u8 (ts ++ [B])), Z32 g2, .blk g3 94 (shaC hs (.slice A1 m1 c1) 0)] := hT
          simp only [List.getElem_toArray, List.getElem_cons_zero, List.getElem_cons_succ]
          go_wp2_with (first
            | (refine hs_store1 hT 3 rfl rfl 41 _ _ rfl 8 rfl (.slice A3 n3 c3) rfl rfl sizeBytesS (by rw [shaC_length HL.out]; decide) _ rfl ?_; clear hT; intro w4 hT; rw [shaC_set8 HL.out] at hT)
            | fail)
          refine TotP.mk' ([.os 5 (.slice (some ⟨go, 0, none⟩) 1 1) (ints .u8 [B]), .os 5 (.slice A3 n3 c3) (ints .u8 (ts ++ [B])), Z32 g2, .blk g3 94 (shaC hs (.slice A3 n3 c3) 0)]) rfl ?_ ?_
          · exact hT
          clear hT
          refine wpS_end ?_
          intro wz hT
          try dsimp only

          rw [hBB.out] at HTS
          have hS : SS w wz g2 g3 hs A3 n3 c3 (rs ++ [128] ++ List.replicate (padZ N) 0 ++ lenBs N (k + 1)) := by
            rw [← HTS.out]
            exact (hT.erase 0).perm (List.perm_append_comm (l₁ := [Ent.os 5 (.slice A3 n3 c3) (ints .u8 (ts ++ [B])), Z32 g2]) (l₂ := [Ent.blk g3 94 (shaC hs (.slice A3 n3 c3) 0)]))
          go_wp2_with fail
          go_roundg (gk - 1)
          case measure => have := hq.out; omega
          case rel => exact ⟨k + 1, A3, n3, c3, by omega, by go_num, hid (by have h1 := HN3.out; have h2 := hm1.out; have h3 := HLT.out; simp at h1; omega), hid (by have := hq.out; omega), hS⟩
        · obtain rfl : k = 8 := by omega
          have HPAD : Hd (rs ++ [128] ++ List.replicate (padZ N) 0 ++ lenBs N 8 = rs ++ padOf N) := hid (by rw [hN8.out]; simp)
          rw [HPAD.out] at hS
          have HPB : Hd (∀ x ∈ rs ++ padOf N, B8 x) := hid fun x hx => by
            rcases List.mem_append.1 hx with hx | hx
            · exact HRB.out x hx
            · exact padOf_B8 N x hx
          have HPL : Hd ((rs ++ padOf N).length ≤ 200) := hid (by have h1 := HRL.out; have h2 := Nat.mod_lt N (show 64 > 0 by decide); simp [padOf, lenBs, padZ]; omega)
          obtain ⟨ps, hps⟩ : ∃ ps, Hd (rs ++ padOf N = ps) := ⟨_, hid rfl⟩
          rw [hps.out] at hS HPB HPL HEQ
          obtain ⟨hz, hhz⟩ : ∃ hz, Hd (blocksS hs ps (ps.length / 64) = hz) := ⟨_, hid rfl⟩
          have HZL : Hd (hz.length = 8) := hid (hhz.out ▸ blocksS_length hs ps HL.out _)
          have HZW : Hd (∀ x ∈ hz, W32 x) := hid (hhz.out ▸ blocksS_W32 hs ps HW.out _)
          rw [hhz.out] at HEQ
          have hne3 : (Value.slice A1 m1 c1).ownBlock ≠ some g3 := fun he => hS.mem.apart (i := 0) (j := 1) rfl rfl (by decide) g3 rfl he
          have hpl := HPL.out
          clear hlt hk hm1 hn1' hnb hN8
          go_wp2_with (first
            | (go_at_call 42
               refine (write_calls hs ps [] 0 g3 0 0 none (.slice A1 m1 c1) _ (hS.blk 0 rfl) (hS.os 1 rfl) hne3 HL.out HW.out HPB.out (fun x hx => by cases hx) rfl (Nat.le_refl _) (.inl rfl) (fun a ha => by cases ha) (by simp; omega) (by omega)).mono ?_
               rintro e w6 ⟨rfl, vr', hw⟩
               rw [List.append_nil, hhz.out] at hw
               replace hS : HS NoF w w6 [.blk g3 94 (shaC hz vr' 0), .os 5 vr' (ints .u8 (ps.drop (64 * (ps.length / 64)))), Z32 g2] := by
                 have h9 := HS.call (A := [Ent.blk g3 94 (shaC hs (.slice A1 m1 c1) 0), Ent.os 5 (.slice A1 m1 c1) (ints .u8 ps)]) (L := [Z32 g2]) hS hw (fun k hk => by
                   rcases hk with hk | hk
                   · exact ⟨_, List.mem_cons_self .., hk⟩
                   · exact ⟨_, List.mem_cons_of_mem _ (List.mem_cons_self ..), hk⟩)
                 exact h9
               clear hw)
            | (refine alloc_blk rfl 30 rfl _ rfl (ints .u8 (List.replicate 32 0)) zeroHashS ?_; intro g5 w7 hga hba hBa hsa; replace hS := hS.pushBlk hBa hba hga; clear hga hba hBa hsa)
            | fail)
          obtain ⟨ql, hql⟩ : ∃ ql, Hd (ps.drop (64 * (ps.length / 64)) = ql) := ⟨_, hid rfl⟩
          rw [hql.out] at hS
          replace hS : HS NoF w w7 [.blk g5 30 (ints .u8 (outS hz 0)), .blk g3 94 (shaC hz vr' 0), .os 5 vr' (ints .u8 ql), Z32 g2] := hS
          clear hq
          go_loopg [6, 69] 33 (fun kq v6 v69 wr => ∃ k : Nat, k ≤ 32 ∧ v69 = .int .i64 k ∧ Hd (kq + k = 33) ∧ HS NoF w wr [.blk g5 30 (ints .u8 (outS hz k)), .blk g3 94 (shaC hz vr' 0), .os 5 vr' (ints .u8 ql), Z32 g2])
          case atStart => exact ⟨0, by omega, rfl, hid (by omega), hS⟩
          case round =>
            clear hS
            obtain ⟨k, hk, rfl, hq, hS⟩ := hrel
            by_cases hlt : k < 32
            · have hlt2 : (k : Int) < 32 := by omega
              obtain ⟨j, hj⟩ : ∃ j : Nat, k / 4 = j := ⟨_, rfl⟩
              obtain ⟨r, hr⟩ : ∃ r : Nat, k % 4 = r := ⟨_, rfl⟩
              obtain ⟨s, hs'⟩ : ∃ s : Nat, 24 - 8 * r = s := ⟨_, rfl⟩
              have e1 : (k : Int) / 4 = (j : Int) := by omega
              have e2 : (k : Int) % 4 = (r : Int) := by omega
              have e3 : 24 - 8 * (r : Int) = (s : Int) := by omega
              have hj8 : j < 8 := by omega
              have hr4 : r < 4 := by omega
              have hs24 : s ≤ 24 := by omega
              have HX := hid (outS_succ hz k)
              have HB1 : Hd (outB hz k = rd hz j / 2 ^ s % 256) := hid (by unfold outB; rw [hj, hr, hs'])
              obtain ⟨x, hx⟩ : ∃ x, rd hz j = x := ⟨_, rfl⟩
              obtain ⟨rx, sx⟩ : W32 x := hx ▸ rd_all HZW.out zero_W32 _
              rw [hx] at HB1
              have cx : wr.cell? ⟨g3, j, none⟩ = some (.int .u32 x) := by rw [hS.cell 1 rfl j]; unfold shaC; rw [List.getElem?_append_left (by simp [HZL.out]; omega), ints_get _ _ _ (by rw [HZL.out]; omega), hx]
              clear hj hr hs' hx
              go_wp2_with (first
                | (refine hs_store1 hS 0 rfl rfl 5 _ _ rfl k rfl (.int .u8 (x / 2 ^ s % 256)) rfl rfl sizeU8S (by simp; omega) _ rfl ?_
                   clear hS cx; intro w8 hS; rw [ints_set, ← HB1.out, ← HX.out] at hS)
                | fail)
              go_roundg (gk - 1)
              case measure => have := hq.out; omega
              case rel => exact ⟨k + 1, by omega, by go_num, hid (by have := hq.out; omega), hS⟩
            · obtain rfl : k = 32 := by omega
              rw [← HEQ.out] at hS
              have HLL : Hd ((shaOf xs).length = 32) := hid (shaOf_length xs)
              obtain ⟨ds, hds⟩ : ∃ ds, Hd (shaOf xs = ds) := ⟨_, hid rfl⟩
              rw [hds.out] at hS HLL HEQ
              clear hlt hk hq
              go_wp2_with (first
                | (refine hs_loadW hS 0 rfl rfl 30 _ rfl rfl 32 infoHashS (by simp [HLL.out]) _ arrHashS rfl _ rfl ?_)
                | (refine hs_storeW hS 3 rfl rfl 30 _ _ rfl rfl (ints .u8 ds) rfl (ints_one' _ _) _ infoHashS (by simp [HLL.out]) (by simp) _ rfl ?_; clear hS; intro w9 hS)
                | fail)
              refine bodyPost_ret (results_blk rfl _ _ g2 _ _ 32 _ rfl (hS.blk 3 rfl) arrHashS (by simp [HLL.out]) infoHashS) rfl ⟨by rw [hds.out], hS.bel⟩
end Go.Proofs.YtinpilfnnmkpoaaDoor
