/- The program's digest on its way: New, Write. -/
import Derived.Test.YtinpilfnnmkpoaaDoorShaD
namespace Go.Proofs.YtinpilfnnmkpoaaDoor
open Go.RowKit Go.Cour
def B8 (x : Int) : Prop := 0 ≤ x ∧ x < 256
theorem zero_B8 : B8 0 := ⟨by decide, by decide⟩
/-- So many blocks of a text, taken in. -/
def blocksS (h xs : List Int) (q : Nat) : List Int := (List.range q).foldl (fun h i => shaBlock h ((xs.drop (64 * i)).take 64)) h
theorem blocksS_succ (h xs : List Int) (q : Nat) : blocksS h xs (q + 1) = shaBlock (blocksS h xs q) ((xs.drop (64 * q)).take 64) := by simp [blocksS, List.range_succ]
theorem blocksS_length (h xs : List Int) (hl : h.length = 8) (q : Nat) : (blocksS h xs q).length = 8 := by
  induction q with
  | zero => simpa [blocksS] using hl
  | succ q ih => rw [blocksS_succ, shaBlock_length, ih]
theorem blocksS_W32 (h xs : List Int) (hh : ∀ x ∈ h, W32 x) (q : Nat) : ∀ x ∈ blocksS h xs q, W32 x := by
  induction q with
  | zero => simpa [blocksS] using hh
  | succ q ih => rw [blocksS_succ]; exact shaBlock_W32 _ _ ih
/-- The cells of a digest on its way. -/
def shaC (h : List Int) (vr : Value) (n : Int) : List Value := ints .u32 h ++ [vr, .int .u64 n]
section
variable {h : List Int} {vr v : Value} {n m : Int}
theorem shaC_get8 (hl : h.length = 8) : (shaC h vr n)[8]? = some vr := by unfold shaC; rw [List.getElem?_append_right (by simp [hl])]; simp [hl]
theorem shaC_get9 (hl : h.length = 8) : (shaC h vr n)[9]? = some (.int .u64 n) := by unfold shaC; rw [List.getElem?_append_right (by simp [hl])]; simp [hl]
theorem shaC_set8 (hl : h.length = 8) : (shaC h vr n).set 8 v = shaC h v n := by unfold shaC; rw [List.set_append_right _ _ (by simp [hl])]; simp [hl]
theorem shaC_set9 (hl : h.length = 8) : (shaC h vr n).set 9 (.int .u64 m) = shaC h vr m := by unfold shaC; rw [List.set_append_right _ _ (by simp [hl])]; simp [hl]
theorem shaC_length (hl : h.length = 8) : (shaC h vr n).length = 10 := by unfold shaC; simp [hl]
end
theorem undBytesS : Tryd.prog.underlying 41 = some (.slice 5) := by kernel_rfl
theorem infoU8S : (Tryd.prog.info? 5).map (fun i => (i.size, i.bytes)) = some (1, 1) := by kernel_rfl
theorem zeroU8S : (((Tryd.prog.info? 5).bind (·.zero)).map (·.cells.size)) = some 1 := by kernel_rfl
theorem sizeU8S : (Tryd.prog.info? 5).map (·.size) = some 1 := by kernel_rfl
theorem sizeBytesS : (Tryd.prog.info? 41).map (·.size) = some 1 := by kernel_rfl
theorem sizeU64S : (Tryd.prog.info? 72).map (·.size) = some 1 := by kernel_rfl
theorem undU64S : Tryd.prog.underlying 72 = some (.int .u64) := by kernel_rfl
/-- What is there of a digest on its way. -/
abbrev SE (gh : Nat) (vr : Value) (h rest : List Int) (n : Int) : List Ent := [.blk gh 94 (shaC h vr n), .os 5 vr (ints .u8 rest)]
/-- The blocks of one. -/
def SF (gh : Nat) (vr : Value) : Nat → Prop := fun k => k = gh ∨ vr.ownBlock = some k
theorem at_of_os {w : World} {e : TypeId} {g o n c : Nat} {xs : List Int} (h : OwnS w e (.slice (some ⟨g, o, none⟩) n c) (ints .u8 xs)) (hn : 64 ≤ xs.length) : At w g o (xs.take 64) 64 := fun i hi => by
  rw [rd_take _ _ _ hi]
  exact (h.rd rfl).cellAt i (by omega)
theorem ints_drop (k : IntKind) (xs : List Int) (n : Nat) : ints k (xs.drop n) = (ints k xs).drop n := by simp [ints, List.map_drop]
set_option maxHeartbeats 2000000 in
set_option maxRecDepth 100000 in
theorem write_calls (h rest bs : List Int) (nn : Int) (gh m c : Nat) (A : Option Addr) (vr : Value) (w : World) (hb : Blk w gh 94 (shaC h vr nn)) (ho : OwnS w 5 vr (ints .u8 rest)) (hne : vr.ownBlock ≠ some gh)
    (hl : h.length = 8) (hh : ∀ x ∈ h, W32 x) (hrest : ∀ x ∈ rest, B8 x) (hbs : ∀ x ∈ bs, B8 x) (hm : bs.length = m) (hmc : m ≤ c) (hrd : Rd w A .u8 bs) (hsep : ∀ a, A = some a → bs ≠ [] → ¬ SF gh vr a.block)
    (hsz : rest.length + m ≤ 1000000000) (hnn : 0 ≤ nn ∧ nn ≤ 1000000000) :
    Calls Tryd.prog 42 #[.pointer (some ⟨gh, 0, none⟩), .slice A m c] w fun e w' => e = .returned (.tuple #[]) ∧
      ∃ vr', HS (SF gh vr) w w' (SE gh vr' (blocksS h (rest ++ bs) ((rest ++ bs).length / 64)) ((rest ++ bs).drop (64 * ((rest ++ bs).length / 64))) (nn + m)) := by
  have HM := hid hm
  have HRD := hid hrd
  have HSEP := hid hsep
  have HL := hid hl
  have hS : HS (SF gh vr) w w (SE gh vr h rest nn) :=
    ((HS.start (SF gh vr) w).take (.os 5 vr (ints .u8 rest)) ho (fun k hk => .inl (.inr hk)) (fun f hf => by simp at hf)).take (.blk gh 94 (shaC h vr nn)) hb (fun k hk => .inl (.inl hk)) (fun f hf k hk hfk => by
      simp at hf; subst hf
      have h1 : k = gh := hk
      subst h1
      exact hne hfk)
  clear hm hrd hsep hl hb ho hne
  have g8 := shaC_get8 (vr := vr) (n := nn) HL.out
  have g9 := shaC_get9 (vr := vr) (n := nn) HL.out
  have c8 : w.cell? ⟨gh, 8, none⟩ = some vr := (hS.cell 0 rfl 8).trans g8
  have c9 : w.cell? ⟨gh, 9, none⟩ = some (.int .u64 nn) := (hS.cell 0 rfl 9).trans g9
  have h10 : Hd ((shaC h vr nn).length = 10) := hid (shaC_length HL.out)
  have h10' : Hd ((shaC h vr (nn + m)).length = 10) := hid (shaC_length HL.out)
  clear g8 g9
  obtain ⟨xs, hxs⟩ : ∃ xs, Hd (rest ++ bs = xs) := ⟨_, hid rfl⟩
  obtain ⟨q, hq⟩ : ∃ q, Hd (xs.length / 64 = q) := ⟨_, hid rfl⟩
  rw [hxs.out, hq.out]
  go_enter Tryd.func42, Tryd.ntmps42
  go_wp2_with (first
    | (refine hs_store1 hS 0 rfl rfl 41 _ _ rfl 8 rfl (.slice A2 n2 c2) rfl rfl sizeBytesS (by rw [h10'.out]; decide) _ rfl ?_; clear hS; intro w3 hS; rw [shaC_set8 HL.out] at hS; have mk1 : True := trivial)
    | (have _ := mk0; refine hs_append hS 1 rfl rfl _ _ 41 rfl 1 undBytesS infoU8S zeroU8S rfl A m c rfl (ints .u8 bs) (by rw [ints_length]; exact HM.out) (news_of_rd (hS.oldRd HRD.out HSEP.out)) (ints_one' _ _) (by rw [ints_length]; omega) (by rw [ints_length]; omega) _ rfl ?_
       clear hS; intro A2 n2 c2 w2 hn2 hc2 hA2 hS; rw [← ints_append] at hS hn2; rw [ints_length] at hn2; have HN2 := hid hn2; clear hn2)
    | (refine hs_store1 hS 0 rfl rfl 72 _ _ rfl 9 rfl (.int .u64 (nn + m)) rfl rfl sizeU64S (by rw [h10.out]; decide) _ rfl ?_
       clear hS c8 c9; intro w1 hS; rw [shaC_set9 HL.out] at hS
       have c8 : w1.cell? ⟨gh, 8, none⟩ = some vr := (hS.cell 0 rfl 8).trans (shaC_get8 HL.out)
       have mk0 : True := trivial)
    | fail)
  replace hS : HS (SF gh vr) w w3 (SE gh (.slice A2 n2 c2) h (rest ++ bs) (nn + m)) := hS
  have HB8 : Hd (∀ x ∈ rest ++ bs, B8 x) := hid fun x hx => (List.mem_append.1 hx).elim (hrest x) (hbs x)
  have HNN : Hd (n2 = rest.length + m) := hid (by rw [← HN2.out, List.length_append, HM.out])
  rw [hxs.out] at hS HB8 HN2
  clear hrest hbs h10 h10'
  dsimp only [Act.put]
  go_loopg [] (q + 1) (fun kq wr => ∃ (j : Nat) (A3 : Option Addr) (n3 c3 : Nat), Hd (n3 + 64 * j = n2) ∧ Hd (kq + j = q + 1) ∧ HS (SF gh vr) w wr (SE gh (.slice A3 n3 c3) (blocksS h xs j) (xs.drop (64 * j)) (nn + m)))
  case atStart => exact ⟨0, A2, n2, c2, hid (by omega), hid (by omega), by simpa [blocksS] using hS⟩
  case round =>
    clear hS
    obtain ⟨j, A3, n3, c3, hn3, hk, hS⟩ := hrel
    have hlen := hid (hS.os 1 rfl).len
    have hnc := hlen.out.2.1
    have HLb := hid (blocksS_length h xs HL.out j)
    have c8 : wr.cell? ⟨gh, 8, none⟩ = some (.slice A3 n3 c3) := (hS.cell 0 rfl 8).trans (shaC_get8 HLb.out)
    have h10 : Hd ((shaC (blocksS h xs (j + 1)) (.slice A3 n3 c3) (nn + m)).length = 10) := hid (shaC_length (blocksS_length h xs HL.out _))
    have HLd : Hd ((xs.drop (64 * j)).length = n3) := hid (by have := hn3.out; have := HN2.out; simp; omega)
    by_cases hge : 64 ≤ n3
    · have hge2 : (64 : Int) ≤ n3 := by omega
      obtain ⟨g, o, rfl⟩ := ((hS.os 1 rfl).rd rfl).at (by rw [HLd.out]; omega)
      have hne : g ≠ gh := fun he => hS.mem.apart (i := 0) (j := 1) rfl rfl (by decide) gh rfl (by subst he; rfl)
      have hat : Hd (At wr g o ((xs.drop (64 * j)).take 64) 64) := hid (at_of_os (hS.os 1 rfl) (by rw [HLd.out]; omega))
      have hr : Hd (∀ i, 0 ≤ rd ((xs.drop (64 * j)).take 64) i ∧ rd ((xs.drop (64 * j)).take 64) i < 256) := hid (rd_all (P := B8) (fun x hx => HB8.out x (List.mem_of_mem_drop (List.mem_of_mem_take hx))) zero_B8)
      have hsu := hid (blocksS_succ h xs j)
      have hw := blocksS_W32 h xs hh j
      go_wp2_with (first
        | (refine slice_cut rfl _ _ 41 rfl 5 undBytesS sizeU8S .i64 (some ⟨g, o, none⟩) n3 c3 64 rfl rfl hge ?_)
        | (refine hs_store1 hS 0 rfl rfl 41 _ _ rfl 8 rfl (.slice (cutA (some ⟨g, o, none⟩) c3 64) (n3 - 64) (c3 - 64)) rfl rfl sizeBytesS (by rw [h10.out]; decide) _ rfl ?_
           clear hS c8; intro w6 hS; rw [shaC_set8 (blocksS_length h xs HL.out _)] at hS)
        | (go_at_call 49; refine (mix_calls (blocksS h xs j) ((xs.drop (64 * j)).take 64) gh g o 64 c3 (.slice (some ⟨g, o, none⟩) n3 c3) (.int .u64 (nn + m)) _ (hS.blk 0 rfl) HLb.out hw hat.out hne hr.out (Nat.le_refl _)).mono ?_
           rintro e w5 ⟨rfl, hu, hb5⟩
           rw [← hsu.out] at hb5
           replace hS : HS (SF gh vr) w w5 (SE gh (.slice (some ⟨g, o, none⟩) n3 c3) (blocksS h xs (j + 1)) (xs.drop (64 * j)) (nn + m)) := hS.upd1 0 rfl hu (.blk gh 94 (shaC (blocksS h xs (j + 1)) (.slice (some ⟨g, o, none⟩) n3 c3) (nn + m))) hb5 (fun k hk => .inl hk)
           clear c8 hu hb5
           have c8 : w5.cell? ⟨gh, 8, none⟩ = some (.slice (some ⟨g, o, none⟩) n3 c3) := (hS.cell 0 rfl 8).trans (shaC_get8 (blocksS_length h xs HL.out _)))
        | fail)
      have hcut := (hS.os 1 rfl).cut 64 hge
      rw [← ints_drop, List.drop_drop] at hcut
      have hS2 := hS.upd1 1 rfl (Upd.refl _ _) (.os 5 (.slice (cutA (some ⟨g, o, none⟩) c3 64) (n3 - 64) (c3 - 64)) (ints .u8 (xs.drop (64 * j + 64)))) hcut (fun k hk => .inl (cutA_own k hk))
      go_roundg (gk - 1)
      case measure => have := hk.out; have := hn3.out; have := hq.out; have := HN2.out; omega
      case rel => exact ⟨j + 1, _, n3 - 64, c3 - 64, hid (by have := hn3.out; omega), hid (by have := hk.out; have := hn3.out; have := hq.out; have := HN2.out; omega), hS2⟩
    · have hlt2 : (n3 : Int) < 64 := by omega
      have hlt3 : n3 < 64 := by omega
      obtain rfl : j = q := by have := hk.out; have := hn3.out; have := hq.out; have := HN2.out; omega
      go_wp2_with fail
      exact bodyPost_void rfl rfl ⟨rfl, _, hS⟩
end Go.Proofs.YtinpilfnnmkpoaaDoor
