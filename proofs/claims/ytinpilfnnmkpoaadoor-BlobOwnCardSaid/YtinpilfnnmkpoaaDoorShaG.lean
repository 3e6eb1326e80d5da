/- The program's New, and the digest of lists, one behind the other. -/
import Derived.Test.YtinpilfnnmkpoaaDoorShaF
namespace Go.Proofs.YtinpilfnnmkpoaaDoor
open Go.RowKit Go.Cour
theorem builtW8 : Tryd.prog.built 94 [(0, .agg (ints .u32 shaH0).toArray)] = some (shaC shaH0 (.slice none 0 0) 0).toArray := by kernel_rfl
set_option maxRecDepth 100000 in
theorem new_calls (w : World) : Calls Tryd.prog 41 #[] w fun e w' => ∃ g, e = .returned (.pointer (some ⟨g, 0, none⟩)) ∧ HS NoF w w' [.blk g 94 (shaC shaH0 (.slice none 0 0) 0)] := by
  have hS := HS.start NoF w
  go_enter Tryd.func41, Tryd.ntmps41
  go_wp2_with (first
    | (refine wpList_buildFlatArr rfl 74 73 8 _ rfl .u32 shaH0 arrW8 sizeU32 (by kernel_rfl) (by rfl) ?_)
    | (refine build_to rfl 94 _ rfl (shaC shaH0 (.slice none 0 0) 0).toArray (by rw [Array.toList_map]; exact builtW8) ?_)
    | (refine box_blk rfl 94 _ rfl _ rfl (shaC shaH0 (.slice none 0 0) 0) rfl ?_; intro g wz hga hba hBa hsa; replace hS := hS.pushBlk hBa hba hga)
    | fail)
  go_ret
  exact ⟨g, rfl, hS⟩
/-- Lists that stand in memory, one behind the other. -/
def RdL (w : World) (A : Option Addr) (bss : List (List Int)) : Prop :=
  bss = [] ∨ ∃ g o, A = some ⟨g, o, none⟩ ∧ ∀ i bs, bss[i]? = some bs → ∃ (Ai : Option Addr) (ni ci : Nat), w.cell? ⟨g, o + i, none⟩ = some (.slice Ai ni ci) ∧ bs.length = ni ∧ ni ≤ ci ∧ Rd w Ai .u8 bs
theorem os_nil (w : World) : OwnS w 5 (.slice none 0 0) (ints .u8 []) := .inl ⟨rfl, rfl⟩
set_option maxHeartbeats 1000000 in
set_option maxRecDepth 100000 in
theorem sum_calls (bss : List (List Int)) (m c : Nat) (A : Option Addr) (w : World) (hm : bss.length = m) (hr : RdL w A bss) (hb : ∀ bs ∈ bss, ∀ x ∈ bs, B8 x) (hsz : bss.flatten.length ≤ 100000000) (hmm : m ≤ 100000000) :
    Calls Tryd.prog 34 #[.slice A m c] w fun e w' => e = .returned (.agg (ints .u8 (shaOf bss.flatten)).toArray) ∧ Below w.heap.size w w' := by
  have hS := HS.start NoF w
  have HM := hid hm
  have HR := hid hr
  have HB := hid hb
  have HSZ := hid hsz
  clear hm hr hb hsz
  go_enter Tryd.func34, Tryd.ntmps34
  go_wp2_with (first
    | (refine alloc_blk rfl 30 rfl _ rfl (ints .u8 (List.replicate 32 0)) zeroHashS ?_; intro g2 w2 hga hba hBa hsa; replace hS := hS.pushBlk hBa hba hga; clear hga hba hBa hsa)
    | (go_at_call 41; refine (new_calls _).mono ?_; rintro e w3 ⟨gh, rfl, hn⟩
       replace hS : HS NoF w w3 [.blk gh 94 (shaC shaH0 (.slice none 0 0) 0), Z32 g2] := HS.call (A := []) hS hn (fun k hk => hk.elim)
       clear hn)
    | fail)
  have hS0 : HS NoF w w3 [.blk gh 94 (shaC (hOf (bss.take 0).flatten) (.slice none 0 0) ((bss.take 0).flatten.length : Nat)), .os 5 (.slice none 0 0) (ints .u8 (restOf (bss.take 0).flatten)), Z32 g2] := by
    have h1 := hS.take (.os 5 (.slice none 0 0) (ints .u8 [])) (os_nil _) (fun k hk => by cases hk) (fun f hf k hk => by cases hk)
    have e0 : (bss.take 0).flatten = [] := rfl
    have e1 : hOf [] = shaH0 := rfl
    have e2 : restOf [] = [] := rfl
    rw [e0, e1, e2]
    exact h1.perm (List.Perm.swap _ _ _)
  clear hS
  go_loopg [5, 9] (m + 1) (fun kq v5 v9 wr => ∃ (i : Nat) (vr : Value), i ≤ m ∧ v9 = .int .i64 i ∧ Hd (kq + i = m + 1) ∧ HS NoF w wr [.blk gh 94 (shaC (hOf (bss.take i).flatten) vr ((bss.take i).flatten.length : Nat)), .os 5 vr (ints .u8 (restOf (bss.take i).flatten)), Z32 g2])
  case atStart => exact ⟨0, _, by omega, rfl, hid (by omega), hS0⟩
  case round =>
    clear hS0
    obtain ⟨i, vr, hi, rfl, hq, hS⟩ := hrel
    have hown : vr.ownBlock ≠ some gh := fun he => hS.mem.apart (i := 0) (j := 1) rfl rfl (by decide) gh rfl he
    have hle : Hd ((bss.take i).flatten.length ≤ bss.flatten.length) := hid (by
      conv => rhs; rw [← List.take_append_drop i bss, List.flatten_append, List.length_append]
      omega)
    by_cases hlt : i < m
    · have hlt2 : (i : Int) < m := by omega
      obtain ⟨bs, hbs⟩ : ∃ bs, bss[i]? = some bs := ⟨bss[i]'(by rw [HM.out]; exact hlt), List.getElem?_eq_getElem _⟩
      have HT : Hd ((bss.take (i + 1)).flatten = (bss.take i).flatten ++ bs) := hid (by rw [List.take_add_one, hbs, List.flatten_append]; simp)
      have hle2 : Hd ((bss.take (i + 1)).flatten.length ≤ bss.flatten.length) := hid (by
        conv => rhs; rw [← List.take_append_drop (i + 1) bss, List.flatten_append, List.length_append]
        omega)
      have HBS : Hd (∀ x ∈ bs, B8 x) := hid (HB.out bs (List.mem_of_getElem? hbs))
      have HM8 : Hd (∀ x ∈ restOf (bss.take i).flatten, B8 x) := hid fun x hx => by
        obtain ⟨l, hl, hxl⟩ := List.mem_flatten.1 (List.mem_of_mem_drop hx)
        exact HB.out l (List.mem_of_mem_take hl) x hxl
      obtain ⟨g, o, rfl, hall⟩ : ∃ g o, A = some ⟨g, o, none⟩ ∧ ∀ i bs, bss[i]? = some bs → ∃ (Ai : Option Addr) (ni ci : Nat), w.cell? ⟨g, o + i, none⟩ = some (.slice Ai ni ci) ∧ bs.length = ni ∧ ni ≤ ci ∧ Rd w Ai .u8 bs := by
        rcases HR.out with h | h
        · rw [h] at hbs; simp at hbs
        · exact h
      obtain ⟨Ai, ni, ci, hcell, hni, hnc, hrd⟩ := hall i bs hbs
      have cc := hS.oldCell hcell id
      have HRD := hid (hS.oldRd hrd (fun _ _ _ h => h))
      have HSEP : Hd (∀ a, Ai = some a → bs ≠ [] → ¬ SF gh vr a.block) := hid fun a ha hne hf => by
        have hlt' : a.block < w.heap.size := by
          rcases hrd with h | ⟨g', o', he, h⟩
          · exact absurd h hne
          · rw [ha] at he; injection he with he; subst he
            exact lt_of_cell (h 0 (by cases bs with | nil => exact absurd rfl hne | cons => simp))
        rcases hf with hf | hf
        · rcases hS.own _ (List.mem_cons_self ..) a.block hf with h | h
          · exact h
          · omega
        · rcases hS.own _ (List.mem_cons_of_mem _ (List.mem_cons_self ..)) a.block hf with h | h
          · exact h
          · omega
      have HNI := hid hni
      obtain ⟨M, hMM⟩ : ∃ M, Hd ((bss.take i).flatten = M) := ⟨_, hid rfl⟩
      rw [hMM.out] at hS HT hle HM8
      have HLEN : Hd ((M ++ bs).length ≤ 100000000) := hid (by rw [← HT.out]; exact Nat.le_trans hle2.out HSZ.out)
      clear hall hcell hrd hni hle2 hbs
      go_wp2_with (first
        | (go_at_call 42
           refine (write_calls (hOf M) (restOf M) bs (M.length : Nat) gh ni ci Ai vr _ (hS.blk 0 rfl) (hS.os 1 rfl) hown (hOf_length M) (hOf_W32 M) HM8.out HBS.out HNI.out hnc HRD.out HSEP.out
             (by rw [restOf_length]; have h1 := HLEN.out; have h2 := HNI.out; rw [List.length_append] at h1; omega) (by have h1 := HLEN.out; rw [List.length_append] at h1; omega)).mono ?_
           rintro e w6 ⟨rfl, vr', hw⟩
           rw [hOf_append, restOf_append, ← HT.out] at hw
           have HLN : Hd ((M.length : Int) + ni = ((bss.take (i + 1)).flatten.length : Nat)) := hid (by rw [HT.out, List.length_append, HNI.out]; omega)
           rw [HLN.out] at hw
           replace hS : HS NoF w w6 [.blk gh 94 (shaC (hOf (bss.take (i + 1)).flatten) vr' ((bss.take (i + 1)).flatten.length : Nat)), .os 5 vr' (ints .u8 (restOf (bss.take (i + 1)).flatten)), Z32 g2] :=
             HS.call (A := [Ent.blk gh 94 (shaC (hOf M) vr (M.length : Nat)), Ent.os 5 vr (ints .u8 (restOf M))]) (L := [Z32 g2]) hS hw (fun k hk => by
                   rcases hk with hk | hk
                   · exact ⟨_, List.mem_cons_self .., hk⟩
                   · exact ⟨_, List.mem_cons_of_mem _ (List.mem_cons_self ..), hk⟩)
           clear hw)
        | fail)
      go_roundg (gk - 1)
      case measure => have := hq.out; omega
      case rel => exact ⟨i + 1, vr', by omega, by go_num, hid (by have := hq.out; omega), hS⟩
    · obtain rfl : i = m := by omega
      have HALL : Hd (bss.take i = bss) := hid (List.take_of_length_le (by rw [HM.out]; exact Nat.le_refl _))
      rw [HALL.out] at hS hle
      have HB8 : Hd (∀ x ∈ bss.flatten, B8 x) := hid fun x hx => by
        obtain ⟨l, hl, hxl⟩ := List.mem_flatten.1 hx
        exact HB.out l hl x hxl
      obtain ⟨M, hMM⟩ : ∃ M, Hd (bss.flatten = M) := ⟨_, hid rfl⟩
      rw [hMM.out] at hS HB8 HSZ
      have HSL : Hd ((shaOf M).length = 32) := hid (shaOf_length M)
      clear hlt hi hq
      go_wp2_with (first
        | (go_at_call 43
           refine (sumH_calls M gh vr _ (hS.blk 0 rfl) (hS.os 1 rfl) hown HB8.out (by have := HSZ.out; omega)).mono ?_
           rintro e w6 ⟨rfl, hB⟩
           replace hS := hS.below hB
           clear hB)
        | (refine hs_storeW hS 2 rfl rfl 30 _ _ rfl rfl (ints .u8 (shaOf M)) rfl (ints_one' _ _) _ infoHashS (by simp [HSL.out]) (by simp) _ rfl ?_; clear hS; intro w9 hS)
        | fail)
      refine bodyPost_ret (results_blk rfl _ _ g2 _ _ 32 _ rfl (hS.blk 2 rfl) arrHashS (by simp [HSL.out]) infoHashS) rfl ⟨by rw [hMM.out], hS.bel⟩
end Go.Proofs.YtinpilfnnmkpoaaDoor
