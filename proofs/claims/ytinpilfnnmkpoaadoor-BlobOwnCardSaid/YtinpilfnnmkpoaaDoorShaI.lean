/- The reference's digest. -/
import Derived.Test.YtinpilfnnmkpoaaDoorShaH
import Derived.Test.YtinpilfnnmkpoaaDoorBytesF
import Derived.Test.YtinpilfnnmkpoaaDoorHM
namespace Go.Proofs.YtinpilfnnmkpoaaDoor
open Go.RowKit Go.Cour
set_option maxHeartbeats 4000000 in
set_option maxRecDepth 100000 in
theorem sum1_calls (xs : List Int) (A : Option Addr) (m c : Nat) (w : World) (hm : xs.length = m) (hr : Rd w A .u8 xs) (hx : ∀ x ∈ xs, B8 x) (hsz : m ≤ 1000000) :
    Calls Tryd.prog 25 #[.slice A m c] w fun e w' => e = .returned (.agg (ints .u8 (shaOf xs)).toArray) ∧ Below w.heap.size w w' := by
  have HM := hid hm
  have HR := hid hr
  have HX8 := hid hx
  have hS := HS.start NoF w
  clear hm hr hx
  go_enter Tryd.func25, Tryd.ntmps25
  go_wp2_with (first
    | (refine alloc_blk rfl 30 rfl _ rfl (ints .u8 (List.replicate 32 0)) zeroHashS ?_; intro g2 w2 hga hba hBa hsa; replace hS := hS.pushBlk hBa hba hga; clear hga hba hBa hsa)
    | (go_at_call 23; refine (bytes_calls xs A c m _ HM.out.symm (hS.oldRd HR.out (fun _ _ _ h => h)) (by omega)).mono ?_; rintro e w3 ⟨v3, rfl, ho, hB⟩
       obtain ⟨A1, c1, rfl, hc1, hA1⟩ := ho.partsL HM.out
       replace hS := hS.pushOwn hB ho
       clear ho hB)
    | (refine hs_one hS rfl 41 5 _ rfl undBytesS sizeU8S zeroU8S (.int .u8 128) rfl rfl _ rfl ?_; clear hS; intro go wo hgo hBo hS; clear hgo hBo)
    | (refine hs_append hS 1 rfl rfl _ _ 41 rfl 1 undBytesS infoU8S zeroU8S rfl (some ⟨go, 0, none⟩) 1 1 rfl (ints .u8 [128]) rfl (news_of_rd (OwnS.rd (k := .u8) (xs := [128]) (hS.os 0 rfl) rfl)) (ints_one' _ _) (by rw [ints_length, HM.out]; omega) (by rw [ints_length, HM.out]; omega) _ rfl ?_
       clear hS; intro A3 n3 c3 w5 hn3 hc3 hA3 hS; have HN3 := hid hn3; clear hn3
       replace hS : HS NoF w w5 [.os 5 (.slice A3 n3 c3) (ints .u8 (xs ++ [128])), Z32 g2] := by rw [ints_append]; exact hS.erase 0)
    | fail)
  have HN3' : Hd (n3 = m + 1) := hid (by rw [← HN3.out, List.length_append, ints_length, ints_length, HM.out]; rfl)
  clear HN3 hc1 hA1
  go_loopg [3] (padZ m + 1) (fun kq v3 wr => ∃ (k : Nat) (A1 : Option Addr) (n1 c1 : Nat), k ≤ padZ m ∧ v3 = .slice A1 n1 c1 ∧ n1 ≤ c1 ∧ Hd (n1 = m + 1 + k) ∧ Hd (kq + k = padZ m + 1) ∧ HS NoF w wr [.os 5 (.slice A1 n1 c1) (ints .u8 (xs ++ [128] ++ List.replicate k 0)), Z32 g2])
  case atStart => exact ⟨0, A3, n3, c3, Nat.zero_le _, rfl, hc3, hid HN3'.out, hid (by omega), by simpa using hS⟩
  case round =>
    clear hS HN3' hA3 hc3
    obtain ⟨k, A1, n1, c1, hk, rfl, hnc1, hn1, hq, hS⟩ := hrel
    have hlt64 : m % 64 < 64 := Nat.mod_lt _ (by decide)
    have hpz : Hd (padZ m = (119 - m % 64) % 64) := hid rfl
    by_cases hlt : k < padZ m
    · have h56 : ¬ (n1 : Int) % 64 = 56 := by have := hn1.out; have := hpz.out; omega
      have h56' : ¬ n1 % 64 = 56 := by have := hn1.out; have := hpz.out; omega
      have hb1 : n1 ≤ 1000100 := by have := hn1.out; have := hpz.out; omega
      have HLT : Hd ((xs ++ [128] ++ List.replicate k 0).length = n1) := hid (by simp [HM.out]; have := hn1.out; omega)
      have HTS : Hd (xs ++ [128] ++ List.replicate k 0 ++ [0] = xs ++ [128] ++ List.replicate (k + 1) 0) := hid (by rw [List.append_assoc (xs ++ [128]), ← List.replicate_succ'])
      obtain ⟨ts, hts⟩ : ∃ ts, Hd (xs ++ [128] ++ List.replicate k 0 = ts) := ⟨_, hid rfl⟩
      rw [hts.out] at hS HLT HTS
      clear hlt64
      go_wp2_with (first
    | (refine hs_one hS rfl 41 5 _ rfl undBytesS sizeU8S zeroU8S (.int .u8 (0)) rfl rfl _ rfl ?_; clear hS; intro go wo hgo hBo hS; clear hgo hBo)
    | (refine hs_append hS 1 rfl rfl _ _ 41 rfl 1 undBytesS infoU8S zeroU8S rfl (some ⟨go, 0, none⟩) 1 1 rfl (ints .u8 [0]) rfl (news_of_rd (OwnS.rd (k := .u8) (xs := [0]) (hS.os 0 rfl) rfl)) (ints_one' _ _) (by rw [ints_length, HLT.out]; omega) (by rw [ints_length, HLT.out]; omega) _ rfl ?_
       clear hS; intro A3 n3 c3 w5 hn3 hc3 hA3 hS; have HN3 := hid hn3; clear hn3
       replace hS : HS NoF w w5 [.os 5 (.slice A3 n3 c3) (ints .u8 (ts ++ [0])), Z32 g2] := by rw [ints_append]; exact hS.erase 0)
    | fail)
      go_roundg (gk - 1)
      case measure => have := hq.out; omega
      case rel => exact ⟨k + 1, A3, n3, c3, by omega, rfl, hc3, hid (by have := HN3.out; have := hn1.out; have := HLT.out; simp at *; omega), hid (by have := hq.out; omega), HTS.out ▸ hS⟩
    · obtain rfl : k = padZ m := by omega
      have h56 : (n1 : Int) % 64 = 56 := by have := hn1.out; have := hpz.out; omega
      have h56' : n1 % 64 = 56 := by have := hn1.out; have := hpz.out; omega
      have hnb : Hd (n1 ≤ 1000100) := hid (by have := hn1.out; have := hpz.out; omega)
      clear hlt hk hq hlt64
      have hb1 : n1 ≤ 1000100 := hnb.out
      go_wp2_with fail
      clear h56 h56'
      have hN8 : Hd (padOf m = [128] ++ List.replicate (padZ m) 0 ++ lenBs m 8) := hid rfl
      go_loopg [3, 5] 9 (fun kq v3 v5 wr => ∃ (k : Nat) (A1 : Option Addr) (m1 c1 : Nat), k ≤ 8 ∧ v3 = .slice A1 m1 c1 ∧ m1 ≤ c1 ∧ v5 = .int .i64 (7 - (k : Int)) ∧ Hd (m1 = n1 + k) ∧ Hd (kq + k = 9) ∧ HS NoF w wr [.os 5 (.slice A1 m1 c1) (ints .u8 (xs ++ [128] ++ List.replicate (padZ m) 0 ++ lenBs m k)), Z32 g2])
      case atStart => exact ⟨0, A1, n1, c1, Nat.zero_le _, rfl, hnc1, rfl, hid rfl, hid (by omega), by simpa [lenBs] using hS⟩
      case round =>
        clear hS hnc1
        obtain ⟨k, A1, m1, c1, hk, rfl, hnc1, rfl, hm1, hq, hS⟩ := hrel
        by_cases hlt : k < 8
        · obtain ⟨t, ht⟩ : ∃ t : Nat, 7 - k = t := ⟨_, rfl⟩
          have e7 : 7 - (k : Int) = (t : Int) := by omega
          have e7' : Hd ((t : Int) - 1 = 7 - ((k + 1 : Nat) : Int)) := hid (by omega)
          obtain ⟨s, hs'⟩ : ∃ s : Nat, 8 * t = s := ⟨_, rfl⟩
          have e8 : 8 * (t : Int) = (s : Int) := by omega
          have ht0 : (0 : Int) ≤ t := by omega
          have hs64 : s ≤ 56 := by omega
          have hLB : Hd (lenB m k = (m : Int) * 8 / 2 ^ s % 256) := hid (by unfold lenB; rw [show 56 - 8 * k = s by omega])
          have HTS : Hd (xs ++ [128] ++ List.replicate (padZ m) 0 ++ lenBs m k ++ [(m : Int) * 8 / 2 ^ s % 256] = xs ++ [128] ++ List.replicate (padZ m) 0 ++ lenBs m (k + 1)) := hid (by rw [List.append_assoc, ← hLB.out, ← lenBs_succ])
          have HLT : Hd ((xs ++ [128] ++ List.replicate (padZ m) 0 ++ lenBs m k).length = m1) := hid (by simp [lenBs, HM.out]; have := hm1.out; have := hn1.out; omega)
          have hmb : m1 ≤ 1000200 := by have := hm1.out; have := hnb.out; omega
          obtain ⟨ts, hts⟩ : ∃ ts, Hd (xs ++ [128] ++ List.replicate (padZ m) 0 ++ lenBs m k = ts) := ⟨_, hid rfl⟩
          rw [hts.out] at hS HLT HTS
          clear hs' ht hb1
          go_wp2_with (first
    | (refine hs_one hS rfl 41 5 _ rfl undBytesS sizeU8S zeroU8S (.int .u8 ((m : Int) * 8 / 2 ^ s % 256)) rfl rfl _ rfl ?_; clear hS; intro go wo hgo hBo hS; clear hgo hBo)
    | (refine hs_append hS 1 rfl rfl _ _ 41 rfl 1 undBytesS infoU8S zeroU8S rfl (some ⟨go, 0, none⟩) 1 1 rfl (ints .u8 [(m : Int) * 8 / 2 ^ s % 256]) rfl (news_of_rd (OwnS.rd (k := .u8) (xs := [(m : Int) * 8 / 2 ^ s % 256]) (hS.os 0 rfl) rfl)) (ints_one' _ _) (by rw [ints_length, HLT.out]; omega) (by rw [ints_length, HLT.out]; omega) _ rfl ?_
       clear hS; intro A3 n3 c3 w5 hn3 hc3 hA3 hS; have HN3 := hid hn3; clear hn3
       replace hS : HS NoF w w5 [.os 5 (.slice A3 n3 c3) (ints .u8 (ts ++ [(m : Int) * 8 / 2 ^ s % 256])), Z32 g2] := by rw [ints_append]; exact hS.erase 0)
    | fail)
          go_roundg (gk - 1)
          case measure => have := hq.out; omega
          case rel => exact ⟨k + 1, A3, n3, c3, by omega, rfl, hc3, by rw [e7'.out], hid (by have h1 := HN3.out; have h2 := hm1.out; have h3 := HLT.out; simp at h1; omega), hid (by have := hq.out; omega), HTS.out ▸ hS⟩
        · obtain rfl : k = 8 := by omega
          have HPAD : Hd (xs ++ [128] ++ List.replicate (padZ m) 0 ++ lenBs m 8 = xs ++ padOf m) := hid (by rw [hN8.out]; simp)
          rw [HPAD.out] at hS
          have HPB : Hd (∀ x ∈ xs ++ padOf m, B8 x) := hid fun x hx => by
            rcases List.mem_append.1 hx with hx | hx
            · exact HX8.out x hx
            · exact padOf_B8 m x hx
          have HP64 : Hd ((xs ++ padOf m).length % 64 = 0) := hid (by rw [List.length_append, HM.out]; exact padOf_length m)
          have HPL : Hd ((xs ++ padOf m).length = m1) := hid (by rw [← HPAD.out]; simp [lenBs, HM.out]; have := hm1.out; have := hn1.out; omega)
          have HEQ : Hd (shaOf xs = outS (blocksS shaH0 (xs ++ padOf m) ((xs ++ padOf m).length / 64)) 32) := hid (by unfold shaOf; rw [HM.out])
          obtain ⟨ps, hps⟩ : ∃ ps, Hd (xs ++ padOf m = ps) := ⟨_, hid rfl⟩
          rw [hps.out] at hS HPB HP64 HPL HEQ
          obtain ⟨Q, hQ⟩ : ∃ Q, Hd (ps.length / 64 = Q) := ⟨_, hid rfl⟩
          rw [hQ.out] at HEQ
          have HQ : Hd (m1 = 64 * Q) := hid (by have := HPL.out; have := HP64.out; have := hQ.out; omega)
          have hmb : m1 ≤ 1000200 := by have := hm1.out; have := hnb.out; omega
          have hneg : (7 : Int) - (8 : Nat) = -1 := by decide
          clear hlt hk hm1 hn1 hnb hN8 hq hb1
          go_wp2_with (first
            | (refine wpList_buildFlatArr rfl 74 73 8 _ rfl .u32 shaH0 arrW8 sizeU32 (by kernel_rfl) (by rfl) ?_)
            | (refine alloc_blk rfl 74 rfl _ rfl (ints .u32 (List.replicate 8 0)) zeroW8 ?_; intro g6 w7 hga hba hBa hsa; replace hS := hS.pushBlk hBa hba hga; clear hga hba hBa hsa)
            | (refine hs_storeW hS 0 rfl rfl 74 _ _ rfl rfl (ints .u32 shaH0) rfl (ints_one' _ _) _ infoW8 (by rfl) (by simp) _ rfl ?_; clear hS; intro wb hS)
            | fail)
          replace hS : HS NoF w wb [.blk g6 74 (ints .u32 (blocksS shaH0 ps 0)), .os 5 (.slice A1 m1 c1) (ints .u8 ps), Z32 g2] := hS
          clear hneg HPAD
          go_loopg [7] (Q + 1) (fun kq v7 wr => ∃ (q p : Nat), q ≤ Q ∧ p = 64 * q ∧ v7 = .int .i64 p ∧ Hd (kq + q = Q + 1) ∧ HS NoF w wr [.blk g6 74 (ints .u32 (blocksS shaH0 ps q)), .os 5 (.slice A1 m1 c1) (ints .u8 ps), Z32 g2])
          case atStart => exact ⟨0, 0, Nat.zero_le _, rfl, rfl, hid (by omega), hS⟩
          case round =>
            clear hS
            obtain ⟨q, p, hqQ, hp, rfl, hq, hS⟩ := hrel
            have HP := hid hp
            clear hp
            by_cases hlt : q < Q
            · have hpm : p < m1 := by have := HP.out; have := HQ.out; omega
              have hpm2 : (p : Int) < m1 := by omega
              have hp64 : p + 64 ≤ m1 := by have := HP.out; have := HQ.out; omega
              obtain ⟨g, o, rfl⟩ := ((hS.os 1 rfl).rd rfl).at (by rw [HPL.out]; omega)
              have HX := hid (blocksS_succ shaH0 ps q)
              rw [← HP.out] at HX
              have HATf : Hd (∀ {w'}, HS NoF w w' [.blk g6 74 (ints .u32 (blocksS shaH0 ps q)), .os 5 (.slice (some ⟨g, o, none⟩) m1 c1) (ints .u8 ps), Z32 g2] → At w' g (o + p) ((ps.drop p).take 64) 64) := hid fun h i hi => by
                rw [rd_take _ _ _ hi, rd_drop, Nat.add_assoc]
                exact ((h.os 1 rfl).rd rfl).cellAt (p + i) (by rw [HPL.out]; omega)
              have hr8 : Hd (∀ i, 0 ≤ rd ((ps.drop p).take 64) i ∧ rd ((ps.drop p).take 64) i < 256) := hid (rd_all (P := B8) (fun x hx => HPB.out x (List.mem_of_mem_drop (List.mem_of_mem_take hx))) zero_B8)
              have HBL := hid (blocksS_length shaH0 ps (by rfl) q)
              have HBW := hid (blocksS_W32 shaH0 ps shaH0_W32 q)
              obtain ⟨bs, hbs⟩ : ∃ bs, Hd (blocksS shaH0 ps q = bs) := ⟨_, hid rfl⟩
              obtain ⟨ns, hns⟩ : ∃ ns, Hd (shaBlock bs ((ps.drop p).take 64) = ns) := ⟨_, hid rfl⟩
              rw [hbs.out] at hS HX HATf HBL HBW
              have HNL : Hd (ns.length = 8) := hid (by rw [← hns.out, shaBlock_length, HBL.out])
              rw [hns.out] at HX
              try go_wp2_with fail
              refine wp_region_S (F := NoF) (w0 := w) (L0 := [.blk g6 74 (ints .u32 bs), .os 5 (.slice (some ⟨g, o, none⟩) m1 c1) (ints .u8 ps), Z32 g2]) [6] [7]
                (fun iK u E => match iK with
                  | 6 => u = .agg (ints .u32 ns).toArray ∧ E = []
                  | _ => False)
                ([]) (by kernel_rfl) (by kernel_rfl) hS ?_
              show wpS _ _ _ _ _ _ _ _ _ _ [0, 1, 2, 3, 4, 5, 6, 7] _
              apply wpS_read (i := 0) rfl rfl ⟨_, hS⟩ rfl -- Op.load 74 t6
              · intro w' hT'
                simp only [List.getElem_toArray, List.getElem_cons_zero, List.getElem_cons_succ]
                go_wp2_with (first
                  | (refine hs_loadW hT' 0 rfl rfl 74 _ rfl rfl 8 infoW8 (by simp [HBL.out]) _ arrW8 rfl _ rfl ?_)
                  | (refine slice_two rfl _ _ _ 41 rfl 5 undBytesS sizeU8S g o m1 c1 p (p + 64) 64 rfl rfl rfl (by omega) (by omega) (by omega) (by omega) _ rfl ?_)
                  | fail)
                first | exact ⟨rfl, rfl, rfl⟩ | rfl
              apply wpS_read (i := 1) rfl rfl ⟨_, hS⟩ rfl -- Op.move t3
              · intro w' hT'
                simp only [List.getElem_toArray, List.getElem_cons_zero, List.getElem_cons_succ]
                go_wp2_with fail
                first | exact ⟨rfl, rfl, rfl⟩ | rfl
              apply wpS_read (i := 2) rfl rfl ⟨_, hS⟩ rfl -- Op.move t7
              · intro w' hT'
                simp only [List.getElem_toArray, List.getElem_cons_zero, List.getElem_cons_succ]
                go_wp2_with fail
                first | exact ⟨rfl, rfl, rfl⟩ | rfl
              apply wpS_read (i := 3) rfl rfl ⟨_, hS⟩ rfl -- Op.move t7
              · intro w' hT'
                simp only [List.getElem_toArray, List.getElem_cons_zero, List.getElem_cons_succ]
                go_wp2_with fail
                first | exact ⟨rfl, rfl, rfl⟩ | rfl
              apply wpS_read (i := 4) rfl rfl ⟨_, hS⟩ rfl -- Op.binOp BinOp.add 3 t48 (const (64:i64)) 3
              · intro w' hT'
                simp only [List.getElem_toArray, List.getElem_cons_zero, List.getElem_cons_succ]
                go_wp2_with (first
                  | (refine hs_loadW hT' 0 rfl rfl 74 _ rfl rfl 8 infoW8 (by simp [HBL.out]) _ arrW8 rfl _ rfl ?_)
                  | (refine slice_two rfl _ _ _ 41 rfl 5 undBytesS sizeU8S g o m1 c1 p (p + 64) 64 rfl rfl rfl (by omega) (by omega) (by omega) (by omega) _ rfl ?_)
                  | fail)
                first | exact ⟨rfl, rfl, rfl⟩ | rfl
              apply wpS_read (i := 5) rfl rfl ⟨_, hS⟩ rfl -- Op.slice 41 t46 (some t47) (some t49) none
              · intro w' hT'
                simp only [List.getElem_toArray, List.getElem_cons_zero, List.getElem_cons_succ]
                go_wp2_with (first
                  | (refine hs_loadW hT' 0 rfl rfl 74 _ rfl rfl 8 infoW8 (by simp [HBL.out]) _ arrW8 rfl _ rfl ?_)
                  | (refine slice_two rfl _ _ _ 41 rfl 5 undBytesS sizeU8S g o m1 c1 p (p + 64) 64 rfl rfl rfl (by omega) (by omega) (by omega) (by omega) _ rfl ?_)
                  | fail)
                first | exact ⟨rfl, rfl, rfl⟩ | rfl
              refine wpS_soft (i := 6) rfl rfl rfl (Nat.le_of_ble_eq_true rfl) ?_ ?_ -- Op.call { value (Operand.func 36), args := #[t45, t50], argTypes := 
              · intro w' hT
                simp only [List.getElem_toArray, List.getElem_cons_zero, List.getElem_cons_succ]
                go_wp2_with (first
                  | (go_at_call 36; refine (round1_calls bs ((ps.drop p).take 64) g (o + p) 64 (c1 - p) _ HBL.out HBW.out (HATf.out hT) hr8.out (Nat.le_refl _)).mono ?_; rintro e wz ⟨rfl, hB⟩; rw [hns.out])
                  | fail)
                exact SoftP.mk' (.agg (ints .u32 ns).toArray) ([]) rfl (⟨rfl, rfl⟩) (hT.below hB) (hB) (fun _ h => by cases h)
              intro u6 E6 hK6
              obtain ⟨rfl, rfl⟩ := hK6
              simp only [Act.put, List.setIfInBounds_toArray, List.set_cons_zero, List.set_cons_succ]
              refine wpS_tot (i := 7) rfl rfl (by kernel_rfl) ?_ -- Op.store 74 t6 t51
              intro w7 hT
              replace hT : HS NoF w w7 [.blk g6 74 (ints .u32 bs), .os 5 (.slice (some ⟨g, o, none⟩) m1 c1) (ints .u8 ps), Z32 g2] := hT
              simp only [List.getElem_toArray, List.getElem_cons_zero, List.getElem_cons_succ]
              go_wp2_with (first
                | (refine hs_storeW hT 0 rfl rfl 74 _ _ rfl rfl (ints .u32 ns) rfl (ints_one' _ _) _ infoW8 (by simp [HNL.out]) (by simp [HBL.out]) _ rfl ?_; clear hT; intro wz hT)
                | fail)
              refine TotP.mk' ([.blk g6 74 (ints .u32 ns), .os 5 (.slice (some ⟨g, o, none⟩) m1 c1) (ints .u8 ps), Z32 g2]) rfl ?_ ?_
              · exact hT
              clear hT
              refine wpS_end ?_
              intro wz hT
              try dsimp only

              have HPP : Hd (p + 64 = 64 * (q + 1)) := hid (by have := HP.out; omega)
              rw [← HX.out] at hT
              go_wp2_with fail
              go_roundg (gk - 1)
              case measure => have := hq.out; omega
              case rel => exact ⟨q + 1, p + 64, by omega, HPP.out, by go_num, hid (by have := hq.out; omega), hT⟩
            · obtain rfl : q = Q := by omega
              have hpe : p = m1 := by have := HP.out; have := HQ.out; omega
              have hpm2 : ¬ (p : Int) < m1 := by omega
              have hpm3 : (m1 : Int) ≤ p := by omega
              clear hpe
              obtain ⟨hz, hhz⟩ : ∃ hz, Hd (blocksS shaH0 ps q = hz) := ⟨_, hid rfl⟩
              have HZL : Hd (hz.length = 8) := hid (hhz.out ▸ blocksS_length shaH0 ps (by rfl) _)
              have HZW : Hd (∀ x ∈ hz, W32 x) := hid (hhz.out ▸ blocksS_W32 shaH0 ps shaH0_W32 _)
              rw [hhz.out] at hS HEQ
              clear hlt hqQ hq
              go_wp2_with (first
                | (refine alloc_blk rfl 30 rfl _ rfl (ints .u8 (List.replicate 32 0)) zeroHashS ?_; intro g8 w8 hga hba hBa hsa; replace hS := hS.pushBlk hBa hba hga; clear hga hba hBa hsa)
                | fail)
              replace hS : HS NoF w w8 [.blk g8 30 (ints .u8 (outS hz 0)), .blk g6 74 (ints .u32 hz), .os 5 (.slice A1 m1 c1) (ints .u8 ps), Z32 g2] := hS
              clear hpm2 hpm3
              go_loopg [9] 33 (fun kq v9 wr => ∃ k : Nat, k ≤ 32 ∧ v9 = .int .i64 k ∧ Hd (kq + k = 33) ∧ HS NoF w wr [.blk g8 30 (ints .u8 (outS hz k)), .blk g6 74 (ints .u32 hz), .os 5 (.slice A1 m1 c1) (ints .u8 ps), Z32 g2])
              case atStart => exact ⟨0, by omega, rfl, hid (by omega), hS⟩
              case round =>
                clear hS
                obtain ⟨k, hk, rfl, hq, hS⟩ := hrel
                by_cases hlt : k < 32
                · have hlt2 : (k : Int) < 32 := by omega
                  obtain ⟨j, hj⟩ : ∃ j : Nat, k / 4 = j := ⟨_, rfl⟩
                  obtain ⟨r, hr⟩ : ∃ r : Nat, k % 4 = r := ⟨_, rfl⟩
                  obtain ⟨s, hs'⟩ : ∃ s : Nat, 24 - 8 * r = s := ⟨_, rfl⟩
                  have e1 : (k : Int) / 4 = (j : Int) := by omega
                  have e2 : (k : Int) % 4 = (r : Int) := by omega
                  have e3 : 24 - 8 * (r : Int) = (s : Int) := by omega
                  have hj8 : j < 8 := by omega
                  have hr4 : r < 4 := by omega
                  have hs24 : s ≤ 24 := by omega
                  have HX := hid (outS_succ hz k)
                  have HB1 : Hd (outB hz k = rd hz j / 2 ^ s % 256) := hid (by unfold outB; rw [hj, hr, hs'])
                  obtain ⟨x, hx⟩ : ∃ x, rd hz j = x := ⟨_, rfl⟩
                  obtain ⟨rx, sx⟩ : W32 x := hx ▸ rd_all HZW.out zero_W32 _
                  rw [hx] at HB1
                  have cx : wr.cell? ⟨g6, j, none⟩ = some (.int .u32 x) := by rw [hS.cellI 1 rfl j (by rw [HZL.out]; omega), hx]
                  clear hj hr hs' hx
                  go_wp2_with (first
                    | (refine hs_store1 hS 0 rfl rfl 5 _ _ rfl k rfl (.int .u8 (x / 2 ^ s % 256)) rfl rfl sizeU8S (by simp; omega) _ rfl ?_
                       clear hS cx; intro w8 hS; rw [ints_set, ← HB1.out, ← HX.out] at hS)
                    | fail)
                  go_roundg (gk - 1)
                  case measure => have := hq.out; omega
                  case rel => exact ⟨k + 1, by omega, by go_num, hid (by have := hq.out; omega), hS⟩
                · obtain rfl : k = 32 := by omega
                  rw [← HEQ.out] at hS
                  have HLL : Hd ((shaOf xs).length = 32) := hid (shaOf_length xs)
                  obtain ⟨ds, hds⟩ : ∃ ds, Hd (shaOf xs = ds) := ⟨_, hid rfl⟩
                  rw [hds.out] at hS HLL HEQ
                  clear hlt hk hq
                  go_wp2_with (first
                    | (refine hs_loadW hS 0 rfl rfl 30 _ rfl rfl 32 infoHashS (by simp [HLL.out]) _ arrHashS rfl _ rfl ?_)
                    | (refine hs_storeW hS 3 rfl rfl 30 _ _ rfl rfl (ints .u8 ds) rfl (ints_one' _ _) _ infoHashS (by simp [HLL.out]) (by simp) _ rfl ?_; clear hS; intro w9 hS)
                    | fail)
                  refine bodyPost_ret (results_blk rfl _ _ g2 _ _ 32 _ rfl (hS.blk 3 rfl) arrHashS (by simp [HLL.out]) infoHashS) rfl ⟨by rw [hds.out], hS.bel⟩
end Go.Proofs.YtinpilfnnmkpoaaDoor
