/- The law BlobErrors. -/
import Derived.Test.YtinpilfnnmkpoaaDoorBlobO
namespace Go.Proofs.YtinpilfnnmkpoaaDoor
open Go.RowKit Go.Cour
theorem zeroHashB : ((Tryd.prog.info? 30).bind (·.zero)).map (·.cells) = some (ints .u8 (List.replicate 32 0)).toArray := by kernel_rfl
section
variable {id id2 : List Int} {n : Int}
theorem pos1 : posOf id [newItem id n] = 0 := by simp [posOf, newItem, isId, List.findIdx_cons]
theorem pos2 (h : id ≠ id2) : posOf id2 [newItem id n] = 1 := by simp [posOf, newItem, isId, List.findIdx_cons, h]
theorem get1 : [newItem id n][posOf id [newItem id n]]? = some (newItem id n) := by rw [pos1]; rfl
theorem touch1 : touch id [newItem id n] = [newItem id n] := by unfold touch; rw [get1]; rw [pos1]; rfl
theorem touch2 (h : id ≠ id2) : touch id2 [newItem id n] = [newItem id n] := touch_none (by rw [pos2 h]; simp)
theorem putOf1 {off : Int} {bs : List Int} (hr : off < 0 ∨ 0 < off ∨ n - off < bs.length) : putOf id off bs [newItem id n] = (0, some 1) :=
  putOf_out get1 (by simp [newItem]) (by simpa [newItem] using hr)
theorem putL1 {off : Int} {bs : List Int} (hr : off < 0 ∨ 0 < off ∨ n - off < bs.length) : putL id off bs [newItem id n] = [newItem id n] := by
  rw [putL_err (by rw [putOf1 hr]; simp), touch1]
theorem putOf0 (hn : 0 ≤ n) : putOf id 0 [] [newItem id n] = (0, none) := by
  rw [putOf_ok get1 (by simp [newItem]) (by simp [newItem]; omega)]; simp [newItem, putB]
theorem putL0 (hn : 0 ≤ n) : putL id 0 [] [newItem id n] = [newItem id n] := by
  rw [putL_ok get1 (by simp [newItem]) (by simp [newItem]; omega), pos1]; rfl
theorem putOf2 {off : Int} {bs : List Int} (h : id ≠ id2) : putOf id2 off bs [newItem id n] = (0, some 13) := putOf_none (by rw [pos2 h]; simp)
theorem putL2 {off : Int} {bs : List Int} (h : id ≠ id2) : putL id2 off bs [newItem id n] = [newItem id n] := by
  rw [putL_err (by rw [putOf2 h]; simp), touch2 h]
theorem statOf1 : statOf id [newItem id n] = (0, false, none) := by unfold statOf; rw [get1]; rfl
theorem statOf2 (h : id ≠ id2) : statOf id2 [newItem id n] = (0, false, some 13) := by unfold statOf; rw [pos2 h]; rfl
end
set_option maxHeartbeats 1000000 in
set_option maxRecDepth 100000 in
theorem errors0_calls (n0 off0 which : Int) {w : World} {P : Nat → Addr} (hE : Errs w P) (hK : which % 4 = 0) :
    Calls Tryd.prog 5 #[.int .i64 n0, .int .i64 off0, .int .i64 which] w fun e w' => e = .returned (.bool true) ∧ Below w.heap.size w w' := by
  have hEA := ErrsAt.of hE
  have hneq := nil_neqK
  have heql := nil_eqlK
  obtain ⟨N0, hN0, hN0b⟩ : ∃ N0, Hd (n0 % 100 = N0) ∧ 0 ≤ N0 ∧ N0 < 100 := ⟨_, hid rfl, by omega, by omega⟩
  obtain ⟨O0, hO0, hO0b⟩ : ∃ O0, Hd (off0 % 1000 = O0) ∧ 0 ≤ O0 ∧ O0 < 1000 := ⟨_, hid rfl, by omega, by omega⟩
  obtain ⟨N, hN⟩ : ∃ N, Hd (N0 + 1 = N) := ⟨_, ⟨rfl⟩⟩
  obtain ⟨O, hO1⟩ : ∃ O, Hd (O0 + 1 = O) := ⟨_, ⟨rfl⟩⟩
  have hNb : 1 ≤ N ∧ N ≤ 100 := by have := hN.out; omega
  have hOb : 1 ≤ O ∧ O ≤ 1000 := by have := hO1.out; omega
  obtain ⟨H1, hH1⟩ : ∃ H1, Hd (hash1 1 = H1) := ⟨_, ⟨rfl⟩⟩
  obtain ⟨H2, hH2⟩ : ∃ H2, Hd (hash1 2 = H2) := ⟨_, ⟨rfl⟩⟩
  have z1 : H1.length = 32 := by rw [← hH1.out]; exact hash1_length 1
  have z2 : H2.length = 32 := by rw [← hH2.out]; exact hash1_length 2
  have hne : H1 ≠ H2 := by rw [← hH1.out, ← hH2.out]; simp [hash1]
  have hg0 := Good.nil 1073741824 3 (by omega)
  have hg1 : Good ⟨1073741824, 3, [newItem H1 N]⟩ := ⟨by simp, fun x hx => by simp at hx; subst hx; simp [newItem]; omega, fun x hx => by simp at hx; subst hx; simp [newItem]; omega, by simp⟩
  have hm : max (3 : Int) 1 = 3 := by omega
  have hr1 : -O + 1 < 1 ∨ 30000 < -O + 1 := by omega
  have hr2 : 30000 + O < 1 ∨ 30000 < 30000 + O := by omega
  have hr3 : ¬ (N < 1 ∨ 30000 < N) := by omega
  have o1 : openE ⟨1073741824, 3, []⟩ H1 (-O + 1) = some 1 := if_pos hr1
  have s1 : openS ⟨1073741824, 3, []⟩ H1 (-O + 1) = ⟨1073741824, 3, []⟩ := if_pos hr1
  have o2 : openE ⟨1073741824, 3, []⟩ H1 (30000 + O) = some 1 := if_pos hr2
  have s2 : openS ⟨1073741824, 3, []⟩ H1 (30000 + O) = ⟨1073741824, 3, []⟩ := if_pos hr2
  have hq3 : ¬ ((1073741824 : Int) - used [] < N) := by simp [used]; omega
  have o3 : openE ⟨1073741824, 3, []⟩ H1 N = none := by unfold openE; rw [if_neg hr3, if_neg (by simp), if_neg (by simp), if_neg hq3]
  have s3 : openS ⟨1073741824, 3, []⟩ H1 N = ⟨1073741824, 3, [newItem H1 N]⟩ := by unfold openS; rw [if_neg hr3, if_neg (by simp), if_neg (by simp), if_neg hq3]; rfl
  have hu1 : used [newItem H1 N] = N := by simp [used, newItem]
  have ha1 : IntKind.i64.wrap (-O) = -O := IntWalk.i64_in _ (by omega)
  have ha2 : IntKind.i64.wrap (-O + 1) = -O + 1 := IntWalk.i64_in _ (by omega)
  have ha3 : IntKind.i64.wrap (30000 + O) = 30000 + O := IntWalk.i64_in _ (by omega)
  have ha4 : IntKind.i64.wrap (N0 + 1) = N0 + 1 := IntWalk.i64_in _ (by omega)
  have ha5 : IntKind.i64.wrap (O0 + 1) = O0 + 1 := IntWalk.i64_in _ (by omega)
  clear hr1 hr2 hr3 hq3
  have hK := hid hK
  go_enter Tryd.func5, Tryd.ntmps5
  go_wp2_with (first
    | (go_at_call 8; refine (first20_calls hE).mono ?_; rintro e w1 ⟨rfl, hB1⟩)
    | (go_at_call 9; refine (number_calls _ _ _ (by omega) (by omega)).mono ?_; rintro e wz ⟨rfl, rfl⟩; first | rw [hN0.out] | rw [hO0.out])
    | fail)
  rw [hN.out, hO1.out]
  refine (newO 1073741824 3 w wz w.heap.size hB1 hB1.size (fun _ => False) (fun k hk => hk.elim)).mono ?_
  rintro e w3 ⟨gs, rfl, hO, hB3⟩
  rw [hm] at hO
  clear hB1 hB3
  go_wp2_with (first
    | (refine build_to rfl 30 _ rfl (ints .u8 (hash1 1)).toArray (by rw [Array.toList_map]; exact builtHash1 1) ?_; rw [hH1.out])
    | (refine alloc_blk rfl 30 rfl _ rfl (ints .u8 (List.replicate 32 0)) zeroHashB ?_; intro g9 w4 hg9 hb9 hB4 hs4)
    | (refine store_blk rfl 30 _ _ rfl g9 (ints .u8 H1) rfl rfl 30 _ hb9 32 infoHash (by simp [ints, z1]) (by simp [ints]) (ints_one _ _) ?_
       have hb := hb9.setRow (ints .u8 H1)
       have hbw5 := below_setRow (g := g9) hB4 (by omega) (ints .u8 H1).toArray
       generalize hW5 : w4.setRow g9 (ints .u8 H1).toArray = w5 at *
       obtain ⟨G, hO, hG⟩ : ∃ G : Nat → Prop, OneS w w5 w.heap.size gs G ⟨1073741824, 3, []⟩ ∧ G g9 := ⟨_, hO.new hbw5 (by omega) hb.lt, .inr rfl⟩
       clear hW5 hb9 hB4 hs4 hbw5 hg9)
    | (refine load_in rfl 30 _ rfl g9 0 rfl (ints .u8 H1) (fun j v hv => by rw [hb.cell, Nat.zero_add]; exact hv) 32 5 arrHash (by simp [ints, z1]) infoHash ?_)
    | fail)
  refine (openO H1 (-O + 1) ⟨1073741824, 3, []⟩ (some 1) hEA hO hg0 z1 o1 s1).mono ?_
  rintro e w6 ⟨rfl, hO, hk⟩
  replace hb : Blk w6 g9 30 (ints .u8 H1) := (hk g9 hG).trans hb
  clear hk
  go_wp2_with (first
    | (refine load_in rfl 30 _ rfl g9 0 rfl (ints .u8 H1) (fun j v hv => by rw [hb.cell, Nat.zero_add]; exact hv) 32 5 arrHash (by simp [ints, z1]) infoHash ?_)
    | (refine build_to rfl 30 _ rfl (ints .u8 (hash1 2)).toArray (by rw [Array.toList_map]; exact builtHash1 2) ?_; rw [hH2.out])
    | fail)
  refine (is_erV_calls 102 (hEA.below hO.bel) (some 1) (fun k hk => by injection hk with hk; omega)).mono ?_
  rintro e w7 ⟨rfl, hB⟩
  replace hO := hO.below hB
  replace hb := hb.belowAll hB
  clear hB
  go_wp2_with (first
    | (refine load_in rfl 30 _ rfl g9 0 rfl (ints .u8 H1) (fun j v hv => by rw [hb.cell, Nat.zero_add]; exact hv) 32 5 arrHash (by simp [ints, z1]) infoHash ?_)
    | (refine build_to rfl 30 _ rfl (ints .u8 (hash1 2)).toArray (by rw [Array.toList_map]; exact builtHash1 2) ?_; rw [hH2.out])
    | fail)
  refine (openO H1 (30000 + O) ⟨1073741824, 3, []⟩ (some 1) hEA hO hg0 z1 o2 s2).mono ?_
  rintro e w8 ⟨rfl, hO, hk⟩
  replace hb : Blk w8 g9 30 (ints .u8 H1) := (hk g9 hG).trans hb
  clear hk
  go_wp2_with (first
    | (refine load_in rfl 30 _ rfl g9 0 rfl (ints .u8 H1) (fun j v hv => by rw [hb.cell, Nat.zero_add]; exact hv) 32 5 arrHash (by simp [ints, z1]) infoHash ?_)
    | (refine build_to rfl 30 _ rfl (ints .u8 (hash1 2)).toArray (by rw [Array.toList_map]; exact builtHash1 2) ?_; rw [hH2.out])
    | fail)
  refine (is_erV_calls 102 (hEA.below hO.bel) (some 1) (fun k hk => by injection hk with hk; omega)).mono ?_
  rintro e w9 ⟨rfl, hB⟩
  replace hO := hO.below hB
  replace hb := hb.belowAll hB
  clear hB
  go_wp2_with (first
    | (refine load_in rfl 30 _ rfl g9 0 rfl (ints .u8 H1) (fun j v hv => by rw [hb.cell, Nat.zero_add]; exact hv) 32 5 arrHash (by simp [ints, z1]) infoHash ?_)
    | (refine build_to rfl 30 _ rfl (ints .u8 (hash1 2)).toArray (by rw [Array.toList_map]; exact builtHash1 2) ?_; rw [hH2.out])
    | fail)
  refine (openO H1 N ⟨1073741824, 3, [newItem H1 N]⟩ none hEA hO hg0 z1 o3 s3).mono ?_
  rintro e w10 ⟨rfl, hO, hk⟩
  replace hb : Blk w10 g9 30 (ints .u8 H1) := (hk g9 hG).trans hb
  clear hk
  simp only [erV]
  go_wp2_with (first
    | (refine load_in rfl 30 _ rfl g9 0 rfl (ints .u8 H1) (fun j v hv => by rw [hb.cell, Nat.zero_add]; exact hv) 32 5 arrHash (by simp [ints, z1]) infoHash ?_)
    | (refine build_to rfl 30 _ rfl (ints .u8 (hash1 2)).toArray (by rw [Array.toList_map]; exact builtHash1 2) ?_; rw [hH2.out])
    | (go_at_call 9; refine (number_calls _ _ _ (by omega) (by omega)).mono ?_; rintro e wz ⟨rfl, hwz⟩; rw [hwz, hK.out]; clear hwz)
    | fail)
  refine (putO H1 (-O) [] none 0 0 (0, some 1) [newItem H1 N] hEA hO hg1 z1 (by omega) rfl (by omega) (by omega) (fun _ => rfl) (.inl rfl) (fun a ha => by cases ha) (putOf1 (by omega)) (putL1 (by omega))).mono ?_
  rintro e w11 ⟨rfl, hO, hk⟩
  replace hb : Blk w11 g9 30 (ints .u8 H1) := (hk g9 hG).trans hb
  clear hk
  go_wp2_with (first
    | (refine load_in rfl 30 _ rfl g9 0 rfl (ints .u8 H1) (fun j v hv => by rw [hb.cell, Nat.zero_add]; exact hv) 32 5 arrHash (by simp [ints, z1]) infoHash ?_)
    | (refine build_to rfl 30 _ rfl (ints .u8 (hash1 2)).toArray (by rw [Array.toList_map]; exact builtHash1 2) ?_; rw [hH2.out])
    | fail)
  refine (statO H1 (0, false, none) [newItem H1 N] hEA hO z1 (by simp) statOf1 touch1).mono ?_
  rintro e w12 ⟨rfl, hO, hk⟩
  replace hb : Blk w12 g9 30 (ints .u8 H1) := (hk g9 hG).trans hb
  clear hk
  simp only [erV]
  go_wp2_with (first
    | (refine load_in rfl 30 _ rfl g9 0 rfl (ints .u8 H1) (fun j v hv => by rw [hb.cell, Nat.zero_add]; exact hv) 32 5 arrHash (by simp [ints, z1]) infoHash ?_)
    | (refine build_to rfl 30 _ rfl (ints .u8 (hash1 2)).toArray (by rw [Array.toList_map]; exact builtHash1 2) ?_; rw [hH2.out])
    | fail)
  refine (putO H2 0 [] none 0 0 (0, some 13) [newItem H1 N] hEA hO hg1 z2 (by omega) rfl (by omega) (by omega) (fun _ => rfl) (.inl rfl) (fun a ha => by cases ha) (putOf2 hne) (putL2 hne)).mono ?_
  rintro e w13 ⟨rfl, hO, hk⟩
  replace hb : Blk w13 g9 30 (ints .u8 H1) := (hk g9 hG).trans hb
  clear hk
  go_wp2_with (first
    | (refine load_in rfl 30 _ rfl g9 0 rfl (ints .u8 H1) (fun j v hv => by rw [hb.cell, Nat.zero_add]; exact hv) 32 5 arrHash (by simp [ints, z1]) infoHash ?_)
    | (refine build_to rfl 30 _ rfl (ints .u8 (hash1 2)).toArray (by rw [Array.toList_map]; exact builtHash1 2) ?_; rw [hH2.out])
    | fail)
  refine (statO H2 (0, false, some 13) [newItem H1 N] hEA hO z2 (by simp) (statOf2 hne) (touch2 hne)).mono ?_
  rintro e w14 ⟨rfl, hO, hk⟩
  replace hb : Blk w14 g9 30 (ints .u8 H1) := (hk g9 hG).trans hb
  clear hk
  go_wp2_with (first
    | (refine load_in rfl 30 _ rfl g9 0 rfl (ints .u8 H1) (fun j v hv => by rw [hb.cell, Nat.zero_add]; exact hv) 32 5 arrHash (by simp [ints, z1]) infoHash ?_)
    | (refine build_to rfl 30 _ rfl (ints .u8 (hash1 2)).toArray (by rw [Array.toList_map]; exact builtHash1 2) ?_; rw [hH2.out])
    | fail)
  refine (is_erV_calls 102 (hEA.below hO.bel) (some 1) (fun k hk => by injection hk with hk; omega)).mono ?_
  rintro e w15 ⟨rfl, hB⟩
  replace hO := hO.below hB
  replace hb := hb.belowAll hB
  clear hB
  go_wp2_with (first
    | (refine load_in rfl 30 _ rfl g9 0 rfl (ints .u8 H1) (fun j v hv => by rw [hb.cell, Nat.zero_add]; exact hv) 32 5 arrHash (by simp [ints, z1]) infoHash ?_)
    | (refine build_to rfl 30 _ rfl (ints .u8 (hash1 2)).toArray (by rw [Array.toList_map]; exact builtHash1 2) ?_; rw [hH2.out])
    | fail)
  refine (is_erV_calls 114 (hEA.below hO.bel) (some 13) (fun k hk => by injection hk with hk; omega)).mono ?_
  rintro e w16 ⟨rfl, hB⟩
  replace hO := hO.below hB
  replace hb := hb.belowAll hB
  clear hB
  go_wp2_with (first
    | (refine load_in rfl 30 _ rfl g9 0 rfl (ints .u8 H1) (fun j v hv => by rw [hb.cell, Nat.zero_add]; exact hv) 32 5 arrHash (by simp [ints, z1]) infoHash ?_)
    | (refine build_to rfl 30 _ rfl (ints .u8 (hash1 2)).toArray (by rw [Array.toList_map]; exact builtHash1 2) ?_; rw [hH2.out])
    | fail)
  refine (is_erV_calls 114 (hEA.below hO.bel) (some 13) (fun k hk => by injection hk with hk; omega)).mono ?_
  rintro e w17 ⟨rfl, hB⟩
  replace hO := hO.below hB
  replace hb := hb.belowAll hB
  clear hB
  go_wp2_with (first
    | (refine load_in rfl 30 _ rfl g9 0 rfl (ints .u8 H1) (fun j v hv => by rw [hb.cell, Nat.zero_add]; exact hv) 32 5 arrHash (by simp [ints, z1]) infoHash ?_)
    | (refine build_to rfl 30 _ rfl (ints .u8 (hash1 2)).toArray (by rw [Array.toList_map]; exact builtHash1 2) ?_; rw [hH2.out])
    | fail)
  refine (commitO H2 hEA hO z2 (by simp) (by show ¬ posOf H2 [newItem H1 N] < [newItem H1 N].length; rw [pos2 hne]; simp)).mono ?_
  rintro e w18 ⟨rfl, hO, hk⟩
  replace hb : Blk w18 g9 30 (ints .u8 H1) := (hk g9 hG).trans hb
  clear hk
  go_wp2_with (first
    | (refine load_in rfl 30 _ rfl g9 0 rfl (ints .u8 H1) (fun j v hv => by rw [hb.cell, Nat.zero_add]; exact hv) 32 5 arrHash (by simp [ints, z1]) infoHash ?_)
    | (refine build_to rfl 30 _ rfl (ints .u8 (hash1 2)).toArray (by rw [Array.toList_map]; exact builtHash1 2) ?_; rw [hH2.out])
    | fail)
  refine (is_erV_calls 114 (hEA.below hO.bel) (some 13) (fun k hk => by injection hk with hk; omega)).mono ?_
  rintro e w19 ⟨rfl, hB⟩
  replace hO := hO.below hB
  replace hb := hb.belowAll hB
  clear hB
  go_wp2_with (first
    | (refine load_in rfl 30 _ rfl g9 0 rfl (ints .u8 H1) (fun j v hv => by rw [hb.cell, Nat.zero_add]; exact hv) 32 5 arrHash (by simp [ints, z1]) infoHash ?_)
    | (refine build_to rfl 30 _ rfl (ints .u8 (hash1 2)).toArray (by rw [Array.toList_map]; exact builtHash1 2) ?_; rw [hH2.out])
    | fail)
  refine (usedO N hO hg1 hu1).mono ?_
  rintro e w20 ⟨rfl, hO, hB⟩
  go_wp2_with (first
    | fail
    | fail)
  go_ret
  exact ⟨rfl, hO.bel⟩
set_option maxHeartbeats 1000000 in
set_option maxRecDepth 100000 in
theorem errors1_calls (n0 off0 which : Int) {w : World} {P : Nat → Addr} (hE : Errs w P) (hK : which % 4 = 1) :
    Calls Tryd.prog 5 #[.int .i64 n0, .int .i64 off0, .int .i64 which] w fun e w' => e = .returned (.bool true) ∧ Below w.heap.size w w' := by
  have hEA := ErrsAt.of hE
  have hneq := nil_neqK
  have heql := nil_eqlK
  obtain ⟨N0, hN0, hN0b⟩ : ∃ N0, Hd (n0 % 100 = N0) ∧ 0 ≤ N0 ∧ N0 < 100 := ⟨_, hid rfl, by omega, by omega⟩
  obtain ⟨O0, hO0, hO0b⟩ : ∃ O0, Hd (off0 % 1000 = O0) ∧ 0 ≤ O0 ∧ O0 < 1000 := ⟨_, hid rfl, by omega, by omega⟩
  obtain ⟨N, hN⟩ : ∃ N, Hd (N0 + 1 = N) := ⟨_, ⟨rfl⟩⟩
  obtain ⟨O, hO1⟩ : ∃ O, Hd (O0 + 1 = O) := ⟨_, ⟨rfl⟩⟩
  have hNb : 1 ≤ N ∧ N ≤ 100 := by have := hN.out; omega
  have hOb : 1 ≤ O ∧ O ≤ 1000 := by have := hO1.out; omega
  obtain ⟨H1, hH1⟩ : ∃ H1, Hd (hash1 1 = H1) := ⟨_, ⟨rfl⟩⟩
  obtain ⟨H2, hH2⟩ : ∃ H2, Hd (hash1 2 = H2) := ⟨_, ⟨rfl⟩⟩
  have z1 : H1.length = 32 := by rw [← hH1.out]; exact hash1_length 1
  have z2 : H2.length = 32 := by rw [← hH2.out]; exact hash1_length 2
  have hne : H1 ≠ H2 := by rw [← hH1.out, ← hH2.out]; simp [hash1]
  have hg0 := Good.nil 1073741824 3 (by omega)
  have hg1 : Good ⟨1073741824, 3, [newItem H1 N]⟩ := ⟨by simp, fun x hx => by simp at hx; subst hx; simp [newItem]; omega, fun x hx => by simp at hx; subst hx; simp [newItem]; omega, by simp⟩
  have hm : max (3 : Int) 1 = 3 := by omega
  have hr1 : -O + 1 < 1 ∨ 30000 < -O + 1 := by omega
  have hr2 : 30000 + O < 1 ∨ 30000 < 30000 + O := by omega
  have hr3 : ¬ (N < 1 ∨ 30000 < N) := by omega
  have o1 : openE ⟨1073741824, 3, []⟩ H1 (-O + 1) = some 1 := if_pos hr1
  have s1 : openS ⟨1073741824, 3, []⟩ H1 (-O + 1) = ⟨1073741824, 3, []⟩ := if_pos hr1
  have o2 : openE ⟨1073741824, 3, []⟩ H1 (30000 + O) = some 1 := if_pos hr2
  have s2 : openS ⟨1073741824, 3, []⟩ H1 (30000 + O) = ⟨1073741824, 3, []⟩ := if_pos hr2
  have hq3 : ¬ ((1073741824 : Int) - used [] < N) := by simp [used]; omega
  have o3 : openE ⟨1073741824, 3, []⟩ H1 N = none := by unfold openE; rw [if_neg hr3, if_neg (by simp), if_neg (by simp), if_neg hq3]
  have s3 : openS ⟨1073741824, 3, []⟩ H1 N = ⟨1073741824, 3, [newItem H1 N]⟩ := by unfold openS; rw [if_neg hr3, if_neg (by simp), if_neg (by simp), if_neg hq3]; rfl
  have hu1 : used [newItem H1 N] = N := by simp [used, newItem]
  have ha1 : IntKind.i64.wrap (-O) = -O := IntWalk.i64_in _ (by omega)
  have ha2 : IntKind.i64.wrap (-O + 1) = -O + 1 := IntWalk.i64_in _ (by omega)
  have ha3 : IntKind.i64.wrap (30000 + O) = 30000 + O := IntWalk.i64_in _ (by omega)
  have ha4 : IntKind.i64.wrap (N0 + 1) = N0 + 1 := IntWalk.i64_in _ (by omega)
  have ha5 : IntKind.i64.wrap (O0 + 1) = O0 + 1 := IntWalk.i64_in _ (by omega)
  clear hr1 hr2 hr3 hq3
  have hK := hid hK
  go_enter Tryd.func5, Tryd.ntmps5
  go_wp2_with (first
    | (go_at_call 8; refine (first20_calls hE).mono ?_; rintro e w1 ⟨rfl, hB1⟩)
    | (go_at_call 9; refine (number_calls _ _ _ (by omega) (by omega)).mono ?_; rintro e wz ⟨rfl, rfl⟩; first | rw [hN0.out] | rw [hO0.out])
    | fail)
  rw [hN.out, hO1.out]
  refine (newO 1073741824 3 w wz w.heap.size hB1 hB1.size (fun _ => False) (fun k hk => hk.elim)).mono ?_
  rintro e w3 ⟨gs, rfl, hO, hB3⟩
  rw [hm] at hO
  clear hB1 hB3
  go_wp2_with (first
    | (refine build_to rfl 30 _ rfl (ints .u8 (hash1 1)).toArray (by rw [Array.toList_map]; exact builtHash1 1) ?_; rw [hH1.out])
    | (refine alloc_blk rfl 30 rfl _ rfl (ints .u8 (List.replicate 32 0)) zeroHashB ?_; intro g9 w4 hg9 hb9 hB4 hs4)
    | (refine store_blk rfl 30 _ _ rfl g9 (ints .u8 H1) rfl rfl 30 _ hb9 32 infoHash (by simp [ints, z1]) (by simp [ints]) (ints_one _ _) ?_
       have hb := hb9.setRow (ints .u8 H1)
       have hbw5 := below_setRow (g := g9) hB4 (by omega) (ints .u8 H1).toArray
       generalize hW5 : w4.setRow g9 (ints .u8 H1).toArray = w5 at *
       obtain ⟨G, hO, hG⟩ : ∃ G : Nat → Prop, OneS w w5 w.heap.size gs G ⟨1073741824, 3, []⟩ ∧ G g9 := ⟨_, hO.new hbw5 (by omega) hb.lt, .inr rfl⟩
       clear hW5 hb9 hB4 hs4 hbw5 hg9)
    | (refine load_in rfl 30 _ rfl g9 0 rfl (ints .u8 H1) (fun j v hv => by rw [hb.cell, Nat.zero_add]; exact hv) 32 5 arrHash (by simp [ints, z1]) infoHash ?_)
    | fail)
  refine (openO H1 (-O + 1) ⟨1073741824, 3, []⟩ (some 1) hEA hO hg0 z1 o1 s1).mono ?_
  rintro e w6 ⟨rfl, hO, hk⟩
  replace hb : Blk w6 g9 30 (ints .u8 H1) := (hk g9 hG).trans hb
  clear hk
  go_wp2_with (first
    | (refine load_in rfl 30 _ rfl g9 0 rfl (ints .u8 H1) (fun j v hv => by rw [hb.cell, Nat.zero_add]; exact hv) 32 5 arrHash (by simp [ints, z1]) infoHash ?_)
    | (refine build_to rfl 30 _ rfl (ints .u8 (hash1 2)).toArray (by rw [Array.toList_map]; exact builtHash1 2) ?_; rw [hH2.out])
    | fail)
  refine (is_erV_calls 102 (hEA.below hO.bel) (some 1) (fun k hk => by injection hk with hk; omega)).mono ?_
  rintro e w7 ⟨rfl, hB⟩
  replace hO := hO.below hB
  replace hb := hb.belowAll hB
  clear hB
  go_wp2_with (first
    | (refine load_in rfl 30 _ rfl g9 0 rfl (ints .u8 H1) (fun j v hv => by rw [hb.cell, Nat.zero_add]; exact hv) 32 5 arrHash (by simp [ints, z1]) infoHash ?_)
    | (refine build_to rfl 30 _ rfl (ints .u8 (hash1 2)).toArray (by rw [Array.toList_map]; exact builtHash1 2) ?_; rw [hH2.out])
    | fail)
  refine (openO H1 (30000 + O) ⟨1073741824, 3, []⟩ (some 1) hEA hO hg0 z1 o2 s2).mono ?_
  rintro e w8 ⟨rfl, hO, hk⟩
  replace hb : Blk w8 g9 30 (ints .u8 H1) := (hk g9 hG).trans hb
  clear hk
  go_wp2_with (first
    | (refine load_in rfl 30 _ rfl g9 0 rfl (ints .u8 H1) (fun j v hv => by rw [hb.cell, Nat.zero_add]; exact hv) 32 5 arrHash (by simp [ints, z1]) infoHash ?_)
    | (refine build_to rfl 30 _ rfl (ints .u8 (hash1 2)).toArray (by rw [Array.toList_map]; exact builtHash1 2) ?_; rw [hH2.out])
    | fail)
  refine (is_erV_calls 102 (hEA.below hO.bel) (some 1) (fun k hk => by injection hk with hk; omega)).mono ?_
  rintro e w9 ⟨rfl, hB⟩
  replace hO := hO.below hB
  replace hb := hb.belowAll hB
  clear hB
  go_wp2_with (first
    | (refine load_in rfl 30 _ rfl g9 0 rfl (ints .u8 H1) (fun j v hv => by rw [hb.cell, Nat.zero_add]; exact hv) 32 5 arrHash (by simp [ints, z1]) infoHash ?_)
    | (refine build_to rfl 30 _ rfl (ints .u8 (hash1 2)).toArray (by rw [Array.toList_map]; exact builtHash1 2) ?_; rw [hH2.out])
    | fail)
  refine (openO H1 N ⟨1073741824, 3, [newItem H1 N]⟩ none hEA hO hg0 z1 o3 s3).mono ?_
  rintro e w10 ⟨rfl, hO, hk⟩
  replace hb : Blk w10 g9 30 (ints .u8 H1) := (hk g9 hG).trans hb
  clear hk
  simp only [erV]
  go_wp2_with (first
    | (refine load_in rfl 30 _ rfl g9 0 rfl (ints .u8 H1) (fun j v hv => by rw [hb.cell, Nat.zero_add]; exact hv) 32 5 arrHash (by simp [ints, z1]) infoHash ?_)
    | (refine build_to rfl 30 _ rfl (ints .u8 (hash1 2)).toArray (by rw [Array.toList_map]; exact builtHash1 2) ?_; rw [hH2.out])
    | (go_at_call 9; refine (number_calls _ _ _ (by omega) (by omega)).mono ?_; rintro e wz ⟨rfl, hwz⟩; rw [hwz, hK.out]; clear hwz)
    | fail)
  refine (putO H1 O [] none 0 0 (0, some 1) [newItem H1 N] hEA hO hg1 z1 (by omega) rfl (by omega) (by omega) (fun _ => rfl) (.inl rfl) (fun a ha => by cases ha) (putOf1 (by omega)) (putL1 (by omega))).mono ?_
  rintro e w11 ⟨rfl, hO, hk⟩
  replace hb : Blk w11 g9 30 (ints .u8 H1) := (hk g9 hG).trans hb
  clear hk
  go_wp2_with (first
    | (refine load_in rfl 30 _ rfl g9 0 rfl (ints .u8 H1) (fun j v hv => by rw [hb.cell, Nat.zero_add]; exact hv) 32 5 arrHash (by simp [ints, z1]) infoHash ?_)
    | (refine build_to rfl 30 _ rfl (ints .u8 (hash1 2)).toArray (by rw [Array.toList_map]; exact builtHash1 2) ?_; rw [hH2.out])
    | fail)
  refine (statO H1 (0, false, none) [newItem H1 N] hEA hO z1 (by simp) statOf1 touch1).mono ?_
  rintro e w12 ⟨rfl, hO, hk⟩
  replace hb : Blk w12 g9 30 (ints .u8 H1) := (hk g9 hG).trans hb
  clear hk
  simp only [erV]
  go_wp2_with (first
    | (refine load_in rfl 30 _ rfl g9 0 rfl (ints .u8 H1) (fun j v hv => by rw [hb.cell, Nat.zero_add]; exact hv) 32 5 arrHash (by simp [ints, z1]) infoHash ?_)
    | (refine build_to rfl 30 _ rfl (ints .u8 (hash1 2)).toArray (by rw [Array.toList_map]; exact builtHash1 2) ?_; rw [hH2.out])
    | fail)
  refine (putO H2 0 [] none 0 0 (0, some 13) [newItem H1 N] hEA hO hg1 z2 (by omega) rfl (by omega) (by omega) (fun _ => rfl) (.inl rfl) (fun a ha => by cases ha) (putOf2 hne) (putL2 hne)).mono ?_
  rintro e w13 ⟨rfl, hO, hk⟩
  replace hb : Blk w13 g9 30 (ints .u8 H1) := (hk g9 hG).trans hb
  clear hk
  go_wp2_with (first
    | (refine load_in rfl 30 _ rfl g9 0 rfl (ints .u8 H1) (fun j v hv => by rw [hb.cell, Nat.zero_add]; exact hv) 32 5 arrHash (by simp [ints, z1]) infoHash ?_)
    | (refine build_to rfl 30 _ rfl (ints .u8 (hash1 2)).toArray (by rw [Array.toList_map]; exact builtHash1 2) ?_; rw [hH2.out])
    | fail)
  refine (statO H2 (0, false, some 13) [newItem H1 N] hEA hO z2 (by simp) (statOf2 hne) (touch2 hne)).mono ?_
  rintro e w14 ⟨rfl, hO, hk⟩
  replace hb : Blk w14 g9 30 (ints .u8 H1) := (hk g9 hG).trans hb
  clear hk
  go_wp2_with (first
    | (refine load_in rfl 30 _ rfl g9 0 rfl (ints .u8 H1) (fun j v hv => by rw [hb.cell, Nat.zero_add]; exact hv) 32 5 arrHash (by simp [ints, z1]) infoHash ?_)
    | (refine build_to rfl 30 _ rfl (ints .u8 (hash1 2)).toArray (by rw [Array.toList_map]; exact builtHash1 2) ?_; rw [hH2.out])
    | fail)
  refine (is_erV_calls 102 (hEA.below hO.bel) (some 1) (fun k hk => by injection hk with hk; omega)).mono ?_
  rintro e w15 ⟨rfl, hB⟩
  replace hO := hO.below hB
  replace hb := hb.belowAll hB
  clear hB
  go_wp2_with (first
    | (refine load_in rfl 30 _ rfl g9 0 rfl (ints .u8 H1) (fun j v hv => by rw [hb.cell, Nat.zero_add]; exact hv) 32 5 arrHash (by simp [ints, z1]) infoHash ?_)
    | (refine build_to rfl 30 _ rfl (ints .u8 (hash1 2)).toArray (by rw [Array.toList_map]; exact builtHash1 2) ?_; rw [hH2.out])
    | fail)
  refine (is_erV_calls 114 (hEA.below hO.bel) (some 13) (fun k hk => by injection hk with hk; omega)).mono ?_
  rintro e w16 ⟨rfl, hB⟩
  replace hO := hO.below hB
  replace hb := hb.belowAll hB
  clear hB
  go_wp2_with (first
    | (refine load_in rfl 30 _ rfl g9 0 rfl (ints .u8 H1) (fun j v hv => by rw [hb.cell, Nat.zero_add]; exact hv) 32 5 arrHash (by simp [ints, z1]) infoHash ?_)
    | (refine build_to rfl 30 _ rfl (ints .u8 (hash1 2)).toArray (by rw [Array.toList_map]; exact builtHash1 2) ?_; rw [hH2.out])
    | fail)
  refine (is_erV_calls 114 (hEA.below hO.bel) (some 13) (fun k hk => by injection hk with hk; omega)).mono ?_
  rintro e w17 ⟨rfl, hB⟩
  replace hO := hO.below hB
  replace hb := hb.belowAll hB
  clear hB
  go_wp2_with (first
    | (refine load_in rfl 30 _ rfl g9 0 rfl (ints .u8 H1) (fun j v hv => by rw [hb.cell, Nat.zero_add]; exact hv) 32 5 arrHash (by simp [ints, z1]) infoHash ?_)
    | (refine build_to rfl 30 _ rfl (ints .u8 (hash1 2)).toArray (by rw [Array.toList_map]; exact builtHash1 2) ?_; rw [hH2.out])
    | fail)
  refine (commitO H2 hEA hO z2 (by simp) (by show ¬ posOf H2 [newItem H1 N] < [newItem H1 N].length; rw [pos2 hne]; simp)).mono ?_
  rintro e w18 ⟨rfl, hO, hk⟩
  replace hb : Blk w18 g9 30 (ints .u8 H1) := (hk g9 hG).trans hb
  clear hk
  go_wp2_with (first
    | (refine load_in rfl 30 _ rfl g9 0 rfl (ints .u8 H1) (fun j v hv => by rw [hb.cell, Nat.zero_add]; exact hv) 32 5 arrHash (by simp [ints, z1]) infoHash ?_)
    | (refine build_to rfl 30 _ rfl (ints .u8 (hash1 2)).toArray (by rw [Array.toList_map]; exact builtHash1 2) ?_; rw [hH2.out])
    | fail)
  refine (is_erV_calls 114 (hEA.below hO.bel) (some 13) (fun k hk => by injection hk with hk; omega)).mono ?_
  rintro e w19 ⟨rfl, hB⟩
  replace hO := hO.below hB
  replace hb := hb.belowAll hB
  clear hB
  go_wp2_with (first
    | (refine load_in rfl 30 _ rfl g9 0 rfl (ints .u8 H1) (fun j v hv => by rw [hb.cell, Nat.zero_add]; exact hv) 32 5 arrHash (by simp [ints, z1]) infoHash ?_)
    | (refine build_to rfl 30 _ rfl (ints .u8 (hash1 2)).toArray (by rw [Array.toList_map]; exact builtHash1 2) ?_; rw [hH2.out])
    | fail)
  refine (usedO N hO hg1 hu1).mono ?_
  rintro e w20 ⟨rfl, hO, hB⟩
  go_wp2_with (first
    | fail
    | fail)
  go_ret
  exact ⟨rfl, hO.bel⟩
set_option maxHeartbeats 1000000 in
set_option maxRecDepth 100000 in
theorem errors2_calls (n0 off0 which : Int) {w : World} {P : Nat → Addr} (hE : Errs w P) (hK : which % 4 = 2) :
    Calls Tryd.prog 5 #[.int .i64 n0, .int .i64 off0, .int .i64 which] w fun e w' => e = .returned (.bool true) ∧ Below w.heap.size w w' := by
  have hEA := ErrsAt.of hE
  have hneq := nil_neqK
  have heql := nil_eqlK
  obtain ⟨N0, hN0, hN0b⟩ : ∃ N0, Hd (n0 % 100 = N0) ∧ 0 ≤ N0 ∧ N0 < 100 := ⟨_, hid rfl, by omega, by omega⟩
  obtain ⟨O0, hO0, hO0b⟩ : ∃ O0, Hd (off0 % 1000 = O0) ∧ 0 ≤ O0 ∧ O0 < 1000 := ⟨_, hid rfl, by omega, by omega⟩
  obtain ⟨N, hN⟩ : ∃ N, Hd (N0 + 1 = N) := ⟨_, ⟨rfl⟩⟩
  obtain ⟨O, hO1⟩ : ∃ O, Hd (O0 + 1 = O) := ⟨_, ⟨rfl⟩⟩
  have hNb : 1 ≤ N ∧ N ≤ 100 := by have := hN.out; omega
  have hOb : 1 ≤ O ∧ O ≤ 1000 := by have := hO1.out; omega
  obtain ⟨H1, hH1⟩ : ∃ H1, Hd (hash1 1 = H1) := ⟨_, ⟨rfl⟩⟩
  obtain ⟨H2, hH2⟩ : ∃ H2, Hd (hash1 2 = H2) := ⟨_, ⟨rfl⟩⟩
  have z1 : H1.length = 32 := by rw [← hH1.out]; exact hash1_length 1
  have z2 : H2.length = 32 := by rw [← hH2.out]; exact hash1_length 2
  have hne : H1 ≠ H2 := by rw [← hH1.out, ← hH2.out]; simp [hash1]
  have hg0 := Good.nil 1073741824 3 (by omega)
  have hg1 : Good ⟨1073741824, 3, [newItem H1 N]⟩ := ⟨by simp, fun x hx => by simp at hx; subst hx; simp [newItem]; omega, fun x hx => by simp at hx; subst hx; simp [newItem]; omega, by simp⟩
  have hm : max (3 : Int) 1 = 3 := by omega
  have hr1 : -O + 1 < 1 ∨ 30000 < -O + 1 := by omega
  have hr2 : 30000 + O < 1 ∨ 30000 < 30000 + O := by omega
  have hr3 : ¬ (N < 1 ∨ 30000 < N) := by omega
  have o1 : openE ⟨1073741824, 3, []⟩ H1 (-O + 1) = some 1 := if_pos hr1
  have s1 : openS ⟨1073741824, 3, []⟩ H1 (-O + 1) = ⟨1073741824, 3, []⟩ := if_pos hr1
  have o2 : openE ⟨1073741824, 3, []⟩ H1 (30000 + O) = some 1 := if_pos hr2
  have s2 : openS ⟨1073741824, 3, []⟩ H1 (30000 + O) = ⟨1073741824, 3, []⟩ := if_pos hr2
  have hq3 : ¬ ((1073741824 : Int) - used [] < N) := by simp [used]; omega
  have o3 : openE ⟨1073741824, 3, []⟩ H1 N = none := by unfold openE; rw [if_neg hr3, if_neg (by simp), if_neg (by simp), if_neg hq3]
  have s3 : openS ⟨1073741824, 3, []⟩ H1 N = ⟨1073741824, 3, [newItem H1 N]⟩ := by unfold openS; rw [if_neg hr3, if_neg (by simp), if_neg (by simp), if_neg hq3]; rfl
  have hu1 : used [newItem H1 N] = N := by simp [used, newItem]
  have ha1 : IntKind.i64.wrap (-O) = -O := IntWalk.i64_in _ (by omega)
  have ha2 : IntKind.i64.wrap (-O + 1) = -O + 1 := IntWalk.i64_in _ (by omega)
  have ha3 : IntKind.i64.wrap (30000 + O) = 30000 + O := IntWalk.i64_in _ (by omega)
  have ha4 : IntKind.i64.wrap (N0 + 1) = N0 + 1 := IntWalk.i64_in _ (by omega)
  have ha5 : IntKind.i64.wrap (O0 + 1) = O0 + 1 := IntWalk.i64_in _ (by omega)
  clear hr1 hr2 hr3 hq3
  have hK := hid hK
  go_enter Tryd.func5, Tryd.ntmps5
  go_wp2_with (first
    | (go_at_call 8; refine (first20_calls hE).mono ?_; rintro e w1 ⟨rfl, hB1⟩)
    | (go_at_call 9; refine (number_calls _ _ _ (by omega) (by omega)).mono ?_; rintro e wz ⟨rfl, rfl⟩; first | rw [hN0.out] | rw [hO0.out])
    | fail)
  rw [hN.out, hO1.out]
  refine (newO 1073741824 3 w wz w.heap.size hB1 hB1.size (fun _ => False) (fun k hk => hk.elim)).mono ?_
  rintro e w3 ⟨gs, rfl, hO, hB3⟩
  rw [hm] at hO
  clear hB1 hB3
  go_wp2_with (first
    | (refine build_to rfl 30 _ rfl (ints .u8 (hash1 1)).toArray (by rw [Array.toList_map]; exact builtHash1 1) ?_; rw [hH1.out])
    | (refine alloc_blk rfl 30 rfl _ rfl (ints .u8 (List.replicate 32 0)) zeroHashB ?_; intro g9 w4 hg9 hb9 hB4 hs4)
    | (refine store_blk rfl 30 _ _ rfl g9 (ints .u8 H1) rfl rfl 30 _ hb9 32 infoHash (by simp [ints, z1]) (by simp [ints]) (ints_one _ _) ?_
       have hb := hb9.setRow (ints .u8 H1)
       have hbw5 := below_setRow (g := g9) hB4 (by omega) (ints .u8 H1).toArray
       generalize hW5 : w4.setRow g9 (ints .u8 H1).toArray = w5 at *
       obtain ⟨G, hO, hG⟩ : ∃ G : Nat → Prop, OneS w w5 w.heap.size gs G ⟨1073741824, 3, []⟩ ∧ G g9 := ⟨_, hO.new hbw5 (by omega) hb.lt, .inr rfl⟩
       clear hW5 hb9 hB4 hs4 hbw5 hg9)
    | (refine load_in rfl 30 _ rfl g9 0 rfl (ints .u8 H1) (fun j v hv => by rw [hb.cell, Nat.zero_add]; exact hv) 32 5 arrHash (by simp [ints, z1]) infoHash ?_)
    | fail)
  refine (openO H1 (-O + 1) ⟨1073741824, 3, []⟩ (some 1) hEA hO hg0 z1 o1 s1).mono ?_
  rintro e w6 ⟨rfl, hO, hk⟩
  replace hb : Blk w6 g9 30 (ints .u8 H1) := (hk g9 hG).trans hb
  clear hk
  go_wp2_with (first
    | (refine load_in rfl 30 _ rfl g9 0 rfl (ints .u8 H1) (fun j v hv => by rw [hb.cell, Nat.zero_add]; exact hv) 32 5 arrHash (by simp [ints, z1]) infoHash ?_)
    | (refine build_to rfl 30 _ rfl (ints .u8 (hash1 2)).toArray (by rw [Array.toList_map]; exact builtHash1 2) ?_; rw [hH2.out])
    | fail)
  refine (is_erV_calls 102 (hEA.below hO.bel) (some 1) (fun k hk => by injection hk with hk; omega)).mono ?_
  rintro e w7 ⟨rfl, hB⟩
  replace hO := hO.below hB
  replace hb := hb.belowAll hB
  clear hB
  go_wp2_with (first
    | (refine load_in rfl 30 _ rfl g9 0 rfl (ints .u8 H1) (fun j v hv => by rw [hb.cell, Nat.zero_add]; exact hv) 32 5 arrHash (by simp [ints, z1]) infoHash ?_)
    | (refine build_to rfl 30 _ rfl (ints .u8 (hash1 2)).toArray (by rw [Array.toList_map]; exact builtHash1 2) ?_; rw [hH2.out])
    | fail)
  refine (openO H1 (30000 + O) ⟨1073741824, 3, []⟩ (some 1) hEA hO hg0 z1 o2 s2).mono ?_
  rintro e w8 ⟨rfl, hO, hk⟩
  replace hb : Blk w8 g9 30 (ints .u8 H1) := (hk g9 hG).trans hb
  clear hk
  go_wp2_with (first
    | (refine load_in rfl 30 _ rfl g9 0 rfl (ints .u8 H1) (fun j v hv => by rw [hb.cell, Nat.zero_add]; exact hv) 32 5 arrHash (by simp [ints, z1]) infoHash ?_)
    | (refine build_to rfl 30 _ rfl (ints .u8 (hash1 2)).toArray (by rw [Array.toList_map]; exact builtHash1 2) ?_; rw [hH2.out])
    | fail)
  refine (is_erV_calls 102 (hEA.below hO.bel) (some 1) (fun k hk => by injection hk with hk; omega)).mono ?_
  rintro e w9 ⟨rfl, hB⟩
  replace hO := hO.below hB
  replace hb := hb.belowAll hB
  clear hB
  go_wp2_with (first
    | (refine load_in rfl 30 _ rfl g9 0 rfl (ints .u8 H1) (fun j v hv => by rw [hb.cell, Nat.zero_add]; exact hv) 32 5 arrHash (by simp [ints, z1]) infoHash ?_)
    | (refine build_to rfl 30 _ rfl (ints .u8 (hash1 2)).toArray (by rw [Array.toList_map]; exact builtHash1 2) ?_; rw [hH2.out])
    | fail)
  refine (openO H1 N ⟨1073741824, 3, [newItem H1 N]⟩ none hEA hO hg0 z1 o3 s3).mono ?_
  rintro e w10 ⟨rfl, hO, hk⟩
  replace hb : Blk w10 g9 30 (ints .u8 H1) := (hk g9 hG).trans hb
  clear hk
  simp only [erV]
  go_wp2_with (first
    | (refine load_in rfl 30 _ rfl g9 0 rfl (ints .u8 H1) (fun j v hv => by rw [hb.cell, Nat.zero_add]; exact hv) 32 5 arrHash (by simp [ints, z1]) infoHash ?_)
    | (refine build_to rfl 30 _ rfl (ints .u8 (hash1 2)).toArray (by rw [Array.toList_map]; exact builtHash1 2) ?_; rw [hH2.out])
    | (go_at_call 9; refine (number_calls _ _ _ (by omega) (by omega)).mono ?_; rintro e wz ⟨rfl, hwz⟩; rw [hwz, hK.out]; clear hwz)
    | fail)
  obtain ⟨Z, hZ⟩ : ∃ Z : Nat, N + O = Z := ⟨(N + O).toNat, by omega⟩
  have ha6 : IntKind.i64.wrap (N + O) = N + O := IntWalk.i64_in _ (by omega)
  have hT := (show Blk w10.drew g9 30 (ints .u8 H1) from hb.drew)
  refine wp_region_T (T := fun w' => Blk w' g9 30 (ints .u8 H1)) (by kernel_rfl) (by kernel_rfl) hT ?_
  show wpT _ _ _ _ [0, 1, 2, 3, 4, 5, 6, 7, 8, 9, 10] _ _
  apply wpT_read (i := 0) rfl hT rfl -- Op.move t8
  · intro w' hT'
    simp only [List.getElem_toArray, List.getElem_cons_zero, List.getElem_cons_succ]
    go_wp2_with fail
    first | exact ⟨rfl, rfl, rfl⟩ | rfl
  apply wpT_read (i := 1) rfl hT rfl -- Op.load 30 t9
  · intro w' hT'
    simp only [List.getElem_toArray, List.getElem_cons_zero, List.getElem_cons_succ]
    go_wp2_with (first
      | (refine load_blk rfl 30 _ rfl g9 rfl 30 _ hT' 32 5 arrHash (by simp [ints, z1]) infoHash ?_)
      | fail)
    first | exact ⟨rfl, rfl, rfl⟩ | rfl
  apply wpT_read (i := 2) rfl hT rfl -- Op.move t0
  · intro w' hT'
    simp only [List.getElem_toArray, List.getElem_cons_zero, List.getElem_cons_succ]
    go_wp2_with fail
    first | exact ⟨rfl, rfl, rfl⟩ | rfl
  apply wpT_read (i := 3) rfl hT rfl -- Op.move t1
  · intro w' hT'
    simp only [List.getElem_toArray, List.getElem_cons_zero, List.getElem_cons_succ]
    go_wp2_with fail
    first | exact ⟨rfl, rfl, rfl⟩ | rfl
  apply wpT_read (i := 4) rfl hT rfl -- Op.binOp BinOp.add 3 t93 t94 3
  · intro w' hT'
    simp only [List.getElem_toArray, List.getElem_cons_zero, List.getElem_cons_succ]
    go_wp2_with (first
      | (refine load_blk rfl 30 _ rfl g9 rfl 30 _ hT' 32 5 arrHash (by simp [ints, z1]) infoHash ?_)
      | fail)
    first | exact ⟨rfl, rfl, rfl⟩ | rfl
  refine wpT_act (i := 5) rfl rfl ?_ -- Op.makeSlice 41 t95 t95
  simp only [List.getElem_toArray, List.getElem_cons_zero, List.getElem_cons_succ]
  go_wp2_with (first
    | (refine make_zeros rfl _ _ 41 rfl 5 .u8 1 undBytes infoU8 _ _ _ _ Z rfl rfl rfl rfl (by omega) (by unfold maxLen; omega) ?_; intro g20 w20 hg20 ho20 hB20)
    | fail)
  have hT := hT.belowAll hB20
  have hBd : Below w10.heap.size w10 w10.drew := below_drewN (Below.refl w10.heap.size w10) 1
  have hlt20 := ho20.lt_size g20 rfl
  replace hO := (hO.below hBd).new hB20 (Nat.le_of_eq hg20) hlt20
  obtain ⟨_, _, hz20, _, _, hrd20⟩ := ho20.parts
  injection hz20 with hz20 hz21 hz22
  subst hz20
  clear hz21 hz22
  first | refine ⟨rfl, rfl, hT, ?_⟩ | (show _ ∧ _; refine ⟨hT, ?_⟩) | skip
  refine wpT_act (i := 6) rfl rfl ?_ -- Op.call { value (Operand.func 19), args := #[t91, t92, const (0:i64)
  simp only [List.getElem_toArray, List.getElem_cons_zero, List.getElem_cons_succ]
  go_wp2_with (first
    | (go_at_call 19; refine (putO H1 0 (List.replicate Z 0) (some ⟨g20, 0, none⟩) Z Z (0, some 1) [newItem H1 N] hEA hO hg1 z1 (by omega) (by simp) (by omega) (Nat.le_refl _) (by simp) hrd20 (fun a ha _ => by injection ha with ha; subst ha; exact .inr rfl) (putOf1 (by rw [List.length_replicate]; omega)) (putL1 (by rw [List.length_replicate]; omega))).mono ?_; rintro e w11 ⟨rfl, hO, hk⟩)
    | fail)
  have hT : Blk w11 g9 30 (ints .u8 H1) := (hk g9 (.inl hG)).trans hT
  obtain ⟨G, hO, hG⟩ : ∃ G : Nat → Prop, OneS w w11 w.heap.size gs G ⟨1073741824, 3, [newItem H1 N]⟩ ∧ G g9 := ⟨_, hO, .inl hG⟩
  first | refine ⟨rfl, rfl, hT, ?_⟩ | (show _ ∧ _; refine ⟨hT, ?_⟩) | skip
  apply wpT_read (i := 7) rfl hT rfl -- Op.move t97
  · intro w' hT'
    simp only [List.getElem_toArray, List.getElem_cons_zero, List.getElem_cons_succ]
    go_wp2_with fail
    first | exact ⟨rfl, rfl, rfl⟩ | rfl
  apply wpT_read (i := 8) rfl hT rfl -- Op.extract t90 0
  · intro w' hT'
    simp only [List.getElem_toArray, List.getElem_cons_zero, List.getElem_cons_succ]
    go_wp2_with fail
    first | exact ⟨rfl, rfl, rfl⟩ | rfl
  apply wpT_read (i := 9) rfl hT rfl -- Op.extract t90 1
  · intro w' hT'
    simp only [List.getElem_toArray, List.getElem_cons_zero, List.getElem_cons_succ]
    go_wp2_with fail
    first | exact ⟨rfl, rfl, rfl⟩ | rfl
  apply wpT_read (i := 10) rfl hT rfl -- Op.assign t99
  · intro w' hT'
    simp only [List.getElem_toArray, List.getElem_cons_zero, List.getElem_cons_succ]
    go_wp2_with fail
    first | exact ⟨rfl, rfl, rfl⟩ | rfl
  refine wpT_end ?_
  try dsimp only
  replace hb := hT
  clear hT
  go_wp2_with (first
    | (refine load_in rfl 30 _ rfl g9 0 rfl (ints .u8 H1) (fun j v hv => by rw [hb.cell, Nat.zero_add]; exact hv) 32 5 arrHash (by simp [ints, z1]) infoHash ?_)
    | (refine build_to rfl 30 _ rfl (ints .u8 (hash1 2)).toArray (by rw [Array.toList_map]; exact builtHash1 2) ?_; rw [hH2.out])
    | fail)
  refine (statO H1 (0, false, none) [newItem H1 N] hEA hO z1 (by simp) statOf1 touch1).mono ?_
  rintro e w12 ⟨rfl, hO, hk⟩
  replace hb : Blk w12 g9 30 (ints .u8 H1) := (hk g9 hG).trans hb
  clear hk
  simp only [erV]
  go_wp2_with (first
    | (refine load_in rfl 30 _ rfl g9 0 rfl (ints .u8 H1) (fun j v hv => by rw [hb.cell, Nat.zero_add]; exact hv) 32 5 arrHash (by simp [ints, z1]) infoHash ?_)
    | (refine build_to rfl 30 _ rfl (ints .u8 (hash1 2)).toArray (by rw [Array.toList_map]; exact builtHash1 2) ?_; rw [hH2.out])
    | fail)
  refine (putO H2 0 [] none 0 0 (0, some 13) [newItem H1 N] hEA hO hg1 z2 (by omega) rfl (by omega) (by omega) (fun _ => rfl) (.inl rfl) (fun a ha => by cases ha) (putOf2 hne) (putL2 hne)).mono ?_
  rintro e w13 ⟨rfl, hO, hk⟩
  replace hb : Blk w13 g9 30 (ints .u8 H1) := (hk g9 hG).trans hb
  clear hk
  go_wp2_with (first
    | (refine load_in rfl 30 _ rfl g9 0 rfl (ints .u8 H1) (fun j v hv => by rw [hb.cell, Nat.zero_add]; exact hv) 32 5 arrHash (by simp [ints, z1]) infoHash ?_)
    | (refine build_to rfl 30 _ rfl (ints .u8 (hash1 2)).toArray (by rw [Array.toList_map]; exact builtHash1 2) ?_; rw [hH2.out])
    | fail)
  refine (statO H2 (0, false, some 13) [newItem H1 N] hEA hO z2 (by simp) (statOf2 hne) (touch2 hne)).mono ?_
  rintro e w14 ⟨rfl, hO, hk⟩
  replace hb : Blk w14 g9 30 (ints .u8 H1) := (hk g9 hG).trans hb
  clear hk
  go_wp2_with (first
    | (refine load_in rfl 30 _ rfl g9 0 rfl (ints .u8 H1) (fun j v hv => by rw [hb.cell, Nat.zero_add]; exact hv) 32 5 arrHash (by simp [ints, z1]) infoHash ?_)
    | (refine build_to rfl 30 _ rfl (ints .u8 (hash1 2)).toArray (by rw [Array.toList_map]; exact builtHash1 2) ?_; rw [hH2.out])
    | fail)
  refine (is_erV_calls 102 (hEA.below hO.bel) (some 1) (fun k hk => by injection hk with hk; omega)).mono ?_
  rintro e w15 ⟨rfl, hB⟩
  replace hO := hO.below hB
  replace hb := hb.belowAll hB
  clear hB
  go_wp2_with (first
    | (refine load_in rfl 30 _ rfl g9 0 rfl (ints .u8 H1) (fun j v hv => by rw [hb.cell, Nat.zero_add]; exact hv) 32 5 arrHash (by simp [ints, z1]) infoHash ?_)
    | (refine build_to rfl 30 _ rfl (ints .u8 (hash1 2)).toArray (by rw [Array.toList_map]; exact builtHash1 2) ?_; rw [hH2.out])
    | fail)
  refine (is_erV_calls 114 (hEA.below hO.bel) (some 13) (fun k hk => by injection hk with hk; omega)).mono ?_
  rintro e w16 ⟨rfl, hB⟩
  replace hO := hO.below hB
  replace hb := hb.belowAll hB
  clear hB
  go_wp2_with (first
    | (refine load_in rfl 30 _ rfl g9 0 rfl (ints .u8 H1) (fun j v hv => by rw [hb.cell, Nat.zero_add]; exact hv) 32 5 arrHash (by simp [ints, z1]) infoHash ?_)
    | (refine build_to rfl 30 _ rfl (ints .u8 (hash1 2)).toArray (by rw [Array.toList_map]; exact builtHash1 2) ?_; rw [hH2.out])
    | fail)
  refine (is_erV_calls 114 (hEA.below hO.bel) (some 13) (fun k hk => by injection hk with hk; omega)).mono ?_
  rintro e w17 ⟨rfl, hB⟩
  replace hO := hO.below hB
  replace hb := hb.belowAll hB
  clear hB
  go_wp2_with (first
    | (refine load_in rfl 30 _ rfl g9 0 rfl (ints .u8 H1) (fun j v hv => by rw [hb.cell, Nat.zero_add]; exact hv) 32 5 arrHash (by simp [ints, z1]) infoHash ?_)
    | (refine build_to rfl 30 _ rfl (ints .u8 (hash1 2)).toArray (by rw [Array.toList_map]; exact builtHash1 2) ?_; rw [hH2.out])
    | fail)
  refine (commitO H2 hEA hO z2 (by simp) (by show ¬ posOf H2 [newItem H1 N] < [newItem H1 N].length; rw [pos2 hne]; simp)).mono ?_
  rintro e w18 ⟨rfl, hO, hk⟩
  replace hb : Blk w18 g9 30 (ints .u8 H1) := (hk g9 hG).trans hb
  clear hk
  go_wp2_with (first
    | (refine load_in rfl 30 _ rfl g9 0 rfl (ints .u8 H1) (fun j v hv => by rw [hb.cell, Nat.zero_add]; exact hv) 32 5 arrHash (by simp [ints, z1]) infoHash ?_)
    | (refine build_to rfl 30 _ rfl (ints .u8 (hash1 2)).toArray (by rw [Array.toList_map]; exact builtHash1 2) ?_; rw [hH2.out])
    | fail)
  refine (is_erV_calls 114 (hEA.below hO.bel) (some 13) (fun k hk => by injection hk with hk; omega)).mono ?_
  rintro e w19 ⟨rfl, hB⟩
  replace hO := hO.below hB
  replace hb := hb.belowAll hB
  clear hB
  go_wp2_with (first
    | (refine load_in rfl 30 _ rfl g9 0 rfl (ints .u8 H1) (fun j v hv => by rw [hb.cell, Nat.zero_add]; exact hv) 32 5 arrHash (by simp [ints, z1]) infoHash ?_)
    | (refine build_to rfl 30 _ rfl (ints .u8 (hash1 2)).toArray (by rw [Array.toList_map]; exact builtHash1 2) ?_; rw [hH2.out])
    | fail)
  refine (usedO N hO hg1 hu1).mono ?_
  rintro e w20 ⟨rfl, hO, hB⟩
  go_wp2_with (first
    | fail
    | fail)
  go_ret
  exact ⟨rfl, hO.bel⟩
set_option maxHeartbeats 1000000 in
set_option maxRecDepth 100000 in
theorem errors3_calls (n0 off0 which : Int) {w : World} {P : Nat → Addr} (hE : Errs w P) (hK : which % 4 = 3) :
    Calls Tryd.prog 5 #[.int .i64 n0, .int .i64 off0, .int .i64 which] w fun e w' => e = .returned (.bool true) ∧ Below w.heap.size w w' := by
  have hEA := ErrsAt.of hE
  have hneq := nil_neqK
  have heql := nil_eqlK
  obtain ⟨N0, hN0, hN0b⟩ : ∃ N0, Hd (n0 % 100 = N0) ∧ 0 ≤ N0 ∧ N0 < 100 := ⟨_, hid rfl, by omega, by omega⟩
  obtain ⟨O0, hO0, hO0b⟩ : ∃ O0, Hd (off0 % 1000 = O0) ∧ 0 ≤ O0 ∧ O0 < 1000 := ⟨_, hid rfl, by omega, by omega⟩
  obtain ⟨N, hN⟩ : ∃ N, Hd (N0 + 1 = N) := ⟨_, ⟨rfl⟩⟩
  obtain ⟨O, hO1⟩ : ∃ O, Hd (O0 + 1 = O) := ⟨_, ⟨rfl⟩⟩
  have hNb : 1 ≤ N ∧ N ≤ 100 := by have := hN.out; omega
  have hOb : 1 ≤ O ∧ O ≤ 1000 := by have := hO1.out; omega
  obtain ⟨H1, hH1⟩ : ∃ H1, Hd (hash1 1 = H1) := ⟨_, ⟨rfl⟩⟩
  obtain ⟨H2, hH2⟩ : ∃ H2, Hd (hash1 2 = H2) := ⟨_, ⟨rfl⟩⟩
  have z1 : H1.length = 32 := by rw [← hH1.out]; exact hash1_length 1
  have z2 : H2.length = 32 := by rw [← hH2.out]; exact hash1_length 2
  have hne : H1 ≠ H2 := by rw [← hH1.out, ← hH2.out]; simp [hash1]
  have hg0 := Good.nil 1073741824 3 (by omega)
  have hg1 : Good ⟨1073741824, 3, [newItem H1 N]⟩ := ⟨by simp, fun x hx => by simp at hx; subst hx; simp [newItem]; omega, fun x hx => by simp at hx; subst hx; simp [newItem]; omega, by simp⟩
  have hm : max (3 : Int) 1 = 3 := by omega
  have hr1 : -O + 1 < 1 ∨ 30000 < -O + 1 := by omega
  have hr2 : 30000 + O < 1 ∨ 30000 < 30000 + O := by omega
  have hr3 : ¬ (N < 1 ∨ 30000 < N) := by omega
  have o1 : openE ⟨1073741824, 3, []⟩ H1 (-O + 1) = some 1 := if_pos hr1
  have s1 : openS ⟨1073741824, 3, []⟩ H1 (-O + 1) = ⟨1073741824, 3, []⟩ := if_pos hr1
  have o2 : openE ⟨1073741824, 3, []⟩ H1 (30000 + O) = some 1 := if_pos hr2
  have s2 : openS ⟨1073741824, 3, []⟩ H1 (30000 + O) = ⟨1073741824, 3, []⟩ := if_pos hr2
  have hq3 : ¬ ((1073741824 : Int) - used [] < N) := by simp [used]; omega
  have o3 : openE ⟨1073741824, 3, []⟩ H1 N = none := by unfold openE; rw [if_neg hr3, if_neg (by simp), if_neg (by simp), if_neg hq3]
  have s3 : openS ⟨1073741824, 3, []⟩ H1 N = ⟨1073741824, 3, [newItem H1 N]⟩ := by unfold openS; rw [if_neg hr3, if_neg (by simp), if_neg (by simp), if_neg hq3]; rfl
  have hu1 : used [newItem H1 N] = N := by simp [used, newItem]
  have ha1 : IntKind.i64.wrap (-O) = -O := IntWalk.i64_in _ (by omega)
  have ha2 : IntKind.i64.wrap (-O + 1) = -O + 1 := IntWalk.i64_in _ (by omega)
  have ha3 : IntKind.i64.wrap (30000 + O) = 30000 + O := IntWalk.i64_in _ (by omega)
  have ha4 : IntKind.i64.wrap (N0 + 1) = N0 + 1 := IntWalk.i64_in _ (by omega)
  have ha5 : IntKind.i64.wrap (O0 + 1) = O0 + 1 := IntWalk.i64_in _ (by omega)
  clear hr1 hr2 hr3 hq3
  have hK := hid hK
  go_enter Tryd.func5, Tryd.ntmps5
  go_wp2_with (first
    | (go_at_call 8; refine (first20_calls hE).mono ?_; rintro e w1 ⟨rfl, hB1⟩)
    | (go_at_call 9; refine (number_calls _ _ _ (by omega) (by omega)).mono ?_; rintro e wz ⟨rfl, rfl⟩; first | rw [hN0.out] | rw [hO0.out])
    | fail)
  rw [hN.out, hO1.out]
  refine (newO 1073741824 3 w wz w.heap.size hB1 hB1.size (fun _ => False) (fun k hk => hk.elim)).mono ?_
  rintro e w3 ⟨gs, rfl, hO, hB3⟩
  rw [hm] at hO
  clear hB1 hB3
  go_wp2_with (first
    | (refine build_to rfl 30 _ rfl (ints .u8 (hash1 1)).toArray (by rw [Array.toList_map]; exact builtHash1 1) ?_; rw [hH1.out])
    | (refine alloc_blk rfl 30 rfl _ rfl (ints .u8 (List.replicate 32 0)) zeroHashB ?_; intro g9 w4 hg9 hb9 hB4 hs4)
    | (refine store_blk rfl 30 _ _ rfl g9 (ints .u8 H1) rfl rfl 30 _ hb9 32 infoHash (by simp [ints, z1]) (by simp [ints]) (ints_one _ _) ?_
       have hb := hb9.setRow (ints .u8 H1)
       have hbw5 := below_setRow (g := g9) hB4 (by omega) (ints .u8 H1).toArray
       generalize hW5 : w4.setRow g9 (ints .u8 H1).toArray = w5 at *
       obtain ⟨G, hO, hG⟩ : ∃ G : Nat → Prop, OneS w w5 w.heap.size gs G ⟨1073741824, 3, []⟩ ∧ G g9 := ⟨_, hO.new hbw5 (by omega) hb.lt, .inr rfl⟩
       clear hW5 hb9 hB4 hs4 hbw5 hg9)
    | (refine load_in rfl 30 _ rfl g9 0 rfl (ints .u8 H1) (fun j v hv => by rw [hb.cell, Nat.zero_add]; exact hv) 32 5 arrHash (by simp [ints, z1]) infoHash ?_)
    | fail)
  refine (openO H1 (-O + 1) ⟨1073741824, 3, []⟩ (some 1) hEA hO hg0 z1 o1 s1).mono ?_
  rintro e w6 ⟨rfl, hO, hk⟩
  replace hb : Blk w6 g9 30 (ints .u8 H1) := (hk g9 hG).trans hb
  clear hk
  go_wp2_with (first
    | (refine load_in rfl 30 _ rfl g9 0 rfl (ints .u8 H1) (fun j v hv => by rw [hb.cell, Nat.zero_add]; exact hv) 32 5 arrHash (by simp [ints, z1]) infoHash ?_)
    | (refine build_to rfl 30 _ rfl (ints .u8 (hash1 2)).toArray (by rw [Array.toList_map]; exact builtHash1 2) ?_; rw [hH2.out])
    | fail)
  refine (is_erV_calls 102 (hEA.below hO.bel) (some 1) (fun k hk => by injection hk with hk; omega)).mono ?_
  rintro e w7 ⟨rfl, hB⟩
  replace hO := hO.below hB
  replace hb := hb.belowAll hB
  clear hB
  go_wp2_with (first
    | (refine load_in rfl 30 _ rfl g9 0 rfl (ints .u8 H1) (fun j v hv => by rw [hb.cell, Nat.zero_add]; exact hv) 32 5 arrHash (by simp [ints, z1]) infoHash ?_)
    | (refine build_to rfl 30 _ rfl (ints .u8 (hash1 2)).toArray (by rw [Array.toList_map]; exact builtHash1 2) ?_; rw [hH2.out])
    | fail)
  refine (openO H1 (30000 + O) ⟨1073741824, 3, []⟩ (some 1) hEA hO hg0 z1 o2 s2).mono ?_
  rintro e w8 ⟨rfl, hO, hk⟩
  replace hb : Blk w8 g9 30 (ints .u8 H1) := (hk g9 hG).trans hb
  clear hk
  go_wp2_with (first
    | (refine load_in rfl 30 _ rfl g9 0 rfl (ints .u8 H1) (fun j v hv => by rw [hb.cell, Nat.zero_add]; exact hv) 32 5 arrHash (by simp [ints, z1]) infoHash ?_)
    | (refine build_to rfl 30 _ rfl (ints .u8 (hash1 2)).toArray (by rw [Array.toList_map]; exact builtHash1 2) ?_; rw [hH2.out])
    | fail)
  refine (is_erV_calls 102 (hEA.below hO.bel) (some 1) (fun k hk => by injection hk with hk; omega)).mono ?_
  rintro e w9 ⟨rfl, hB⟩
  replace hO := hO.below hB
  replace hb := hb.belowAll hB
  clear hB
  go_wp2_with (first
    | (refine load_in rfl 30 _ rfl g9 0 rfl (ints .u8 H1) (fun j v hv => by rw [hb.cell, Nat.zero_add]; exact hv) 32 5 arrHash (by simp [ints, z1]) infoHash ?_)
    | (refine build_to rfl 30 _ rfl (ints .u8 (hash1 2)).toArray (by rw [Array.toList_map]; exact builtHash1 2) ?_; rw [hH2.out])
    | fail)
  refine (openO H1 N ⟨1073741824, 3, [newItem H1 N]⟩ none hEA hO hg0 z1 o3 s3).mono ?_
  rintro e w10 ⟨rfl, hO, hk⟩
  replace hb : Blk w10 g9 30 (ints .u8 H1) := (hk g9 hG).trans hb
  clear hk
  simp only [erV]
  go_wp2_with (first
    | (refine load_in rfl 30 _ rfl g9 0 rfl (ints .u8 H1) (fun j v hv => by rw [hb.cell, Nat.zero_add]; exact hv) 32 5 arrHash (by simp [ints, z1]) infoHash ?_)
    | (refine build_to rfl 30 _ rfl (ints .u8 (hash1 2)).toArray (by rw [Array.toList_map]; exact builtHash1 2) ?_; rw [hH2.out])
    | (go_at_call 9; refine (number_calls _ _ _ (by omega) (by omega)).mono ?_; rintro e wz ⟨rfl, hwz⟩; rw [hwz, hK.out]; clear hwz)
    | fail)
  refine (putO H1 0 [] none 0 0 (0, none) [newItem H1 N] hEA hO hg1 z1 (by omega) rfl (by omega) (by omega) (fun _ => rfl) (.inl rfl) (fun a ha => by cases ha) (putOf0 (by omega)) (putL0 (by omega))).mono ?_
  rintro e w11 ⟨rfl, hO, hk⟩
  replace hb : Blk w11 g9 30 (ints .u8 H1) := (hk g9 hG).trans hb
  clear hk
  have e1 := (hEA.below hO.bel).errs.cell 1 (by omega)
  simp only [globs, List.getD_cons_zero, List.getD_cons_succ] at e1
  simp only [erV]
  go_wp2_with (first
    | (refine load_in rfl 30 _ rfl g9 0 rfl (ints .u8 H1) (fun j v hv => by rw [hb.cell, Nat.zero_add]; exact hv) 32 5 arrHash (by simp [ints, z1]) infoHash ?_)
    | (refine build_to rfl 30 _ rfl (ints .u8 (hash1 2)).toArray (by rw [Array.toList_map]; exact builtHash1 2) ?_; rw [hH2.out])
    | fail)
  refine (statO H1 (0, false, none) [newItem H1 N] hEA hO z1 (by simp) statOf1 touch1).mono ?_
  rintro e w12 ⟨rfl, hO, hk⟩
  replace hb : Blk w12 g9 30 (ints .u8 H1) := (hk g9 hG).trans hb
  clear hk
  simp only [erV]
  go_wp2_with (first
    | (refine load_in rfl 30 _ rfl g9 0 rfl (ints .u8 H1) (fun j v hv => by rw [hb.cell, Nat.zero_add]; exact hv) 32 5 arrHash (by simp [ints, z1]) infoHash ?_)
    | (refine build_to rfl 30 _ rfl (ints .u8 (hash1 2)).toArray (by rw [Array.toList_map]; exact builtHash1 2) ?_; rw [hH2.out])
    | fail)
  refine (putO H2 0 [] none 0 0 (0, some 13) [newItem H1 N] hEA hO hg1 z2 (by omega) rfl (by omega) (by omega) (fun _ => rfl) (.inl rfl) (fun a ha => by cases ha) (putOf2 hne) (putL2 hne)).mono ?_
  rintro e w13 ⟨rfl, hO, hk⟩
  replace hb : Blk w13 g9 30 (ints .u8 H1) := (hk g9 hG).trans hb
  clear hk
  go_wp2_with (first
    | (refine load_in rfl 30 _ rfl g9 0 rfl (ints .u8 H1) (fun j v hv => by rw [hb.cell, Nat.zero_add]; exact hv) 32 5 arrHash (by simp [ints, z1]) infoHash ?_)
    | (refine build_to rfl 30 _ rfl (ints .u8 (hash1 2)).toArray (by rw [Array.toList_map]; exact builtHash1 2) ?_; rw [hH2.out])
    | fail)
  refine (statO H2 (0, false, some 13) [newItem H1 N] hEA hO z2 (by simp) (statOf2 hne) (touch2 hne)).mono ?_
  rintro e w14 ⟨rfl, hO, hk⟩
  replace hb : Blk w14 g9 30 (ints .u8 H1) := (hk g9 hG).trans hb
  clear hk
  go_wp2_with (first
    | (refine load_in rfl 30 _ rfl g9 0 rfl (ints .u8 H1) (fun j v hv => by rw [hb.cell, Nat.zero_add]; exact hv) 32 5 arrHash (by simp [ints, z1]) infoHash ?_)
    | (refine build_to rfl 30 _ rfl (ints .u8 (hash1 2)).toArray (by rw [Array.toList_map]; exact builtHash1 2) ?_; rw [hH2.out])
    | fail)
  refine (is_erV_calls 102 (hEA.below hO.bel) (some 1) (fun k hk => by injection hk with hk; omega)).mono ?_
  rintro e w15 ⟨rfl, hB⟩
  replace hO := hO.below hB
  replace hb := hb.belowAll hB
  clear hB
  go_wp2_with (first
    | (refine load_in rfl 30 _ rfl g9 0 rfl (ints .u8 H1) (fun j v hv => by rw [hb.cell, Nat.zero_add]; exact hv) 32 5 arrHash (by simp [ints, z1]) infoHash ?_)
    | (refine build_to rfl 30 _ rfl (ints .u8 (hash1 2)).toArray (by rw [Array.toList_map]; exact builtHash1 2) ?_; rw [hH2.out])
    | fail)
  refine (is_erV_calls 114 (hEA.below hO.bel) (some 13) (fun k hk => by injection hk with hk; omega)).mono ?_
  rintro e w16 ⟨rfl, hB⟩
  replace hO := hO.below hB
  replace hb := hb.belowAll hB
  clear hB
  go_wp2_with (first
    | (refine load_in rfl 30 _ rfl g9 0 rfl (ints .u8 H1) (fun j v hv => by rw [hb.cell, Nat.zero_add]; exact hv) 32 5 arrHash (by simp [ints, z1]) infoHash ?_)
    | (refine build_to rfl 30 _ rfl (ints .u8 (hash1 2)).toArray (by rw [Array.toList_map]; exact builtHash1 2) ?_; rw [hH2.out])
    | fail)
  refine (is_erV_calls 114 (hEA.below hO.bel) (some 13) (fun k hk => by injection hk with hk; omega)).mono ?_
  rintro e w17 ⟨rfl, hB⟩
  replace hO := hO.below hB
  replace hb := hb.belowAll hB
  clear hB
  go_wp2_with (first
    | (refine load_in rfl 30 _ rfl g9 0 rfl (ints .u8 H1) (fun j v hv => by rw [hb.cell, Nat.zero_add]; exact hv) 32 5 arrHash (by simp [ints, z1]) infoHash ?_)
    | (refine build_to rfl 30 _ rfl (ints .u8 (hash1 2)).toArray (by rw [Array.toList_map]; exact builtHash1 2) ?_; rw [hH2.out])
    | fail)
  refine (commitO H2 hEA hO z2 (by simp) (by show ¬ posOf H2 [newItem H1 N] < [newItem H1 N].length; rw [pos2 hne]; simp)).mono ?_
  rintro e w18 ⟨rfl, hO, hk⟩
  replace hb : Blk w18 g9 30 (ints .u8 H1) := (hk g9 hG).trans hb
  clear hk
  go_wp2_with (first
    | (refine load_in rfl 30 _ rfl g9 0 rfl (ints .u8 H1) (fun j v hv => by rw [hb.cell, Nat.zero_add]; exact hv) 32 5 arrHash (by simp [ints, z1]) infoHash ?_)
    | (refine build_to rfl 30 _ rfl (ints .u8 (hash1 2)).toArray (by rw [Array.toList_map]; exact builtHash1 2) ?_; rw [hH2.out])
    | fail)
  refine (is_erV_calls 114 (hEA.below hO.bel) (some 13) (fun k hk => by injection hk with hk; omega)).mono ?_
  rintro e w19 ⟨rfl, hB⟩
  replace hO := hO.below hB
  replace hb := hb.belowAll hB
  clear hB
  go_wp2_with (first
    | (refine load_in rfl 30 _ rfl g9 0 rfl (ints .u8 H1) (fun j v hv => by rw [hb.cell, Nat.zero_add]; exact hv) 32 5 arrHash (by simp [ints, z1]) infoHash ?_)
    | (refine build_to rfl 30 _ rfl (ints .u8 (hash1 2)).toArray (by rw [Array.toList_map]; exact builtHash1 2) ?_; rw [hH2.out])
    | fail)
  refine (usedO N hO hg1 hu1).mono ?_
  rintro e w20 ⟨rfl, hO, hB⟩
  go_wp2_with (first
    | fail
    | fail)
  go_ret
  exact ⟨rfl, hO.bel⟩
theorem blobErrors_calls (n0 off0 which : Int) {w : World} {P : Nat → Addr} (hE : Errs w P) :
    Calls Tryd.prog 5 #[.int .i64 n0, .int .i64 off0, .int .i64 which] w fun e w' => e = .returned (.bool true) ∧ Below w.heap.size w w' := by
  have h : which % 4 = 0 ∨ which % 4 = 1 ∨ which % 4 = 2 ∨ which % 4 = 3 := by omega
  rcases h with h | h | h | h
  · exact errors0_calls n0 off0 which hE h
  · exact errors1_calls n0 off0 which hE h
  · exact errors2_calls n0 off0 which hE h
  · exact errors3_calls n0 off0 which hE h
end Go.Proofs.YtinpilfnnmkpoaaDoor
