import Derived.Test.YtckcdngnkpfcfaaDoorProg
import Derived.StillTailTactics
import Derived.Deep.QuietTactic
import Derived.BigQuiet
import Derived.Laws.Closers25b
import Derived.Laws.BitsLemmas
import Derived.Lib.AppendZerosOnto
import Derived.Test.YtckcdngnkpfcfaaDoorMgTT0
import Derived.Test.YtckcdngnkpfcfaaDoorMgTT1
import Derived.Test.YtckcdngnkpfcfaaDoorMgTT2
import Derived.Test.YtckcdngnkpfcfaaDoorMgTT3
set_option linter.unusedSimpArgs false
set_option linter.unusedVariables false
/- The reference's tree: Leaf, Node, Split, Root. -/
namespace Go.Proofs.YtckcdngnkpfcfaaDoor
open Go.RowKit Go.Cour
def leafOf (xs : List Int) : List Int := shaOf (0 :: xs)
def nodeOf (l r : List Int) : List Int := shaOf (1 :: (l ++ r))
theorem leafOf_length (xs : List Int) : (leafOf xs).length = 32 := shaOf_length _
theorem nodeOf_length (l r : List Int) : (nodeOf l r).length = 32 := shaOf_length _
theorem leafOf_B8 (xs : List Int) : ∀ x ∈ leafOf xs, B8 x := shaOf_B8 _
theorem nodeOf_B8 (l r : List Int) : ∀ x ∈ nodeOf l r, B8 x := shaOf_B8 _
theorem B8_cons {y : Int} {xs : List Int} (hy : B8 y) (h : ∀ x ∈ xs, B8 x) : ∀ x ∈ y :: xs, B8 x := fun x hx => by
  rcases List.mem_cons.1 hx with rfl | hx
  · exact hy
  · exact h x hx
theorem B8_append {xs ys : List Int} (h : ∀ x ∈ xs, B8 x) (h' : ∀ x ∈ ys, B8 x) : ∀ x ∈ xs ++ ys, B8 x := fun x hx => by
  rcases List.mem_append.1 hx with hx | hx
  · exact h x hx
  · exact h' x hx
theorem one_B8 : B8 1 := ⟨by decide, by decide⟩
/-- A new digest's block. -/
def ZH (g : Nat) : Ent := .blk g 30 (ints .u8 (List.replicate 32 0))
/-- A block read as numbers. -/
theorem Blk.rdA {w : World} {g : Nat} {t : TypeId} {k : IntKind} {xs : List Int} (h : Blk w g t (ints k xs)) : Rd w (some ⟨g, 0, none⟩) k xs := .inr ⟨g, 0, rfl, fun i hi => by rw [Nat.zero_add]; exact Go.Cour.Blk.cellI h i hi⟩
set_option maxHeartbeats 1000000 in
set_option maxRecDepth 100000 in
theorem leaf16_calls (xs : List Int) (A : Option Addr) (m c : Nat) (w : World) (hm : xs.length = m) (hr : Rd w A .u8 xs) (hx : ∀ x ∈ xs, B8 x) (hsz : m ≤ 900000) :
    Calls Tryd.prog 16 #[.slice A m c] w fun e w' => e = .returned (.agg (ints .u8 (leafOf xs)).toArray) ∧ Below w.heap.size w w' := by
  have HM := hid hm
  have HR := hid hr
  have HX := hid hx
  have hS := HS.start NoF w
  have hsz2 : m ≤ 900000 := hsz
  have HLL : Hd ((leafOf xs).length = 32) := hid (leafOf_length xs)
  obtain ⟨ds, hds⟩ : ∃ ds, Hd (leafOf xs = ds) := ⟨_, hid rfl⟩
  rw [hds.out] at HLL
  clear hm hr hx
  go_enter Tryd.func16, Tryd.ntmps16
  go_wp2_with (first
    | (refine alloc_blk rfl 30 rfl _ rfl (ints .u8 (List.replicate 32 0)) zeroHashS ?_; intro g2 w2 hga hba hBa hsa; replace hS := hS.pushBlk hBa hba hga; clear hga hba hBa hsa)
    | (refine hs_one hS rfl 24 5 _ rfl undBytesS sizeU8S zeroU8S (.int .u8 0) rfl rfl _ rfl ?_; clear hS; intro go wo hgo hBo hS; clear hgo hBo)
    | (refine hs_append hS 0 rfl rfl _ _ 24 rfl 1 undBytesS infoU8S zeroU8S rfl A m c rfl (ints .u8 xs) (by rw [ints_length]; exact HM.out) (news_of_rd (hS.oldRd HR.out (fun _ _ _ h => h))) (ints_one' _ _) (by simp; omega) (by simp; omega) _ rfl ?_
       clear hS; intro A3 n3 c3 w5 hn3 hc3 hA3 hS; have HN3 := hid hn3; clear hn3
       replace hS : HS NoF w w5 [.os 5 (.slice A3 n3 c3) (ints .u8 (0 :: xs)), .blk g2 30 (ints .u8 (List.replicate 32 0))] := hS)
    | (go_at_call 14; refine (sum1_calls (0 :: xs) A3 n3 c3 _ (by rw [← HN3.out]; simp) ((hS.os 0 rfl).rd rfl) (B8_cons zero_B8 HX.out) (by rw [← HN3.out]; simp [HM.out]; omega)).mono ?_; rintro e w6 ⟨rfl, hB6⟩; replace hS := hS.below hB6; rw [show shaOf (0 :: xs) = ds from hds.out])
    | (refine hs_storeW hS 1 rfl rfl 30 _ _ rfl rfl (ints .u8 ds) rfl (ints_one' _ _) _ infoHashS (by simp [HLL.out]) (by simp) _ rfl ?_; clear hS; intro w9 hS)
    | fail)
  refine bodyPost_ret (results_blk rfl _ _ g2 _ _ 32 _ rfl (hS.blk 1 rfl) arrHashS (by simp [HLL.out]) infoHashS) rfl ⟨by rw [hds.out], hS.bel⟩
set_option maxHeartbeats 1000000 in
set_option maxRecDepth 100000 in
theorem node16_calls (l r : List Int) (w : World) (hl : l.length = 32) (hr : r.length = 32) (bl : ∀ x ∈ l, B8 x) (br : ∀ x ∈ r, B8 x) :
    Calls Tryd.prog 48 #[.agg (ints .u8 l).toArray, .agg (ints .u8 r).toArray] w fun e w' => e = .returned (.agg (ints .u8 (nodeOf l r)).toArray) ∧ Below w.heap.size w w' := by
  have HL := hid hl
  have HR := hid hr
  have BL := hid bl
  have BR := hid br
  have hS := HS.start NoF w
  have HLL : Hd ((nodeOf l r).length = 32) := hid (nodeOf_length l r)
  obtain ⟨ds, hds⟩ : ∃ ds, Hd (nodeOf l r = ds) := ⟨_, hid rfl⟩
  rw [hds.out] at HLL
  clear hl hr bl br
  go_enter Tryd.func48, Tryd.ntmps48
  go_wp2_with (first
    | (refine box_blk rfl 30 _ rfl _ rfl (ints .u8 l) rfl ?_; intro g2 w2 hga hba hBa hsa; replace hS := hS.pushBlk hBa hba hga; clear hga hba hBa hsa)
    | (refine box_blk rfl 30 _ rfl _ rfl (ints .u8 r) rfl ?_; intro g3 w3 hga hba hBa hsa; replace hS := hS.pushBlk hBa hba hga; clear hga hba hBa hsa)
    | (refine alloc_blk rfl 30 rfl _ rfl (ints .u8 (List.replicate 32 0)) zeroHashS ?_; intro g4 w4 hga hba hBa hsa; replace hS := hS.pushBlk hBa hba hga; clear hga hba hBa hsa)
    | fail)
  try go_wp2_with fail
  refine wp_region_S (F := NoF) (w0 := w) (L0 := [ZH g4, .blk g3 30 (ints .u8 r), .blk g2 30 (ints .u8 l)]) [] [0, 2, 4, 5, 6]
    (fun iK u E => match iK with
      | _ => False)
    ([]) (by kernel_rfl) (by kernel_rfl) hS ?_
  show wpS _ _ _ _ _ _ _ _ _ _ [0, 1, 2, 3, 4, 5, 6] _
  refine wpS_hard (i := 0) rfl rfl ?_ -- Op.buildSlice 24 1 #[(0, const (1:u8))]
  intro w0 hT
  simp only [List.getElem_toArray, List.getElem_cons_zero, List.getElem_cons_succ]
  go_wp2_with (first
    | (refine hs_one hT rfl 24 5 _ rfl undBytesS sizeU8S zeroU8S (.int .u8 1) rfl rfl _ rfl ?_; clear hT; intro go wo hgo hBo hT)
    | fail)
  refine HardP.mk' ([.os 5 (.slice (some ⟨go, 0, none⟩) 1 1) (ints .u8 [1])]) rfl ?_ ?_
  · exact hT
  clear hT
  clear hgo hBo
  apply wpS_read (i := 1) rfl rfl ⟨_, hS⟩ rfl -- Op.slice 29 t2 none none none
  · intro w' hT'
    simp only [List.getElem_toArray, List.getElem_cons_zero, List.getElem_cons_succ]
    go_wp2_with fail
    first | exact ⟨rfl, rfl, rfl⟩ | rfl
  refine wpS_hard (i := 2) rfl rfl ?_ -- Op.call { builtin append, args := #[t5, t6], argTypes := #[24, 24] }
  intro w2 hT
  replace hT : HS NoF w w2 [.os 5 (.slice (some ⟨go, 0, none⟩) 1 1) (ints .u8 [1]), ZH g4, .blk g3 30 (ints .u8 r), .blk g2 30 (ints .u8 l)] := hT
  simp only [List.getElem_toArray, List.getElem_cons_zero, List.getElem_cons_succ]
  go_wp2_with (first
    | (refine hs_append hT 0 rfl rfl _ _ 24 rfl 1 undBytesS infoU8S zeroU8S rfl (some ⟨g2, 0, none⟩) 32 32 rfl (ints .u8 l) (by rw [ints_length]; exact HL.out) (news_of_rd (Blk.rdA (hT.blk 3 rfl))) (ints_one' _ _) (by rw [ints_length]; simp [HL.out]) (by rw [ints_length]; simp [HL.out]) _ rfl ?_; clear hT; intro A5 n5 c5 wz hn hc5 hA5 hT; have HN5 := hid hn; clear hn)
    | fail)
  refine HardP.mk' ([.os 5 (.slice A5 n5 c5) (ints .u8 (1 :: l))]) rfl ?_ ?_
  · exact hT
  clear hT
  apply wpS_read (i := 3) rfl rfl ⟨_, hS⟩ rfl -- Op.slice 29 t3 none none none
  · intro w' hT'
    simp only [List.getElem_toArray, List.getElem_cons_zero, List.getElem_cons_succ]
    go_wp2_with fail
    first | exact ⟨rfl, rfl, rfl⟩ | rfl
  refine wpS_hard (i := 4) rfl rfl ?_ -- Op.call { builtin append, args := #[t7, t8], argTypes := #[24, 24] }
  intro w4 hT
  replace hT : HS NoF w w4 [.os 5 (.slice A5 n5 c5) (ints .u8 (1 :: l)), ZH g4, .blk g3 30 (ints .u8 r), .blk g2 30 (ints .u8 l)] := hT
  simp only [List.getElem_toArray, List.getElem_cons_zero, List.getElem_cons_succ]
  go_wp2_with (first
    | (have HQ5 : Hd (n5 = 33) := hid (by rw [← HN5.out]; simp [HL.out]); refine hs_append hT 0 rfl rfl _ _ 24 rfl 1 undBytesS infoU8S zeroU8S rfl (some ⟨g3, 0, none⟩) 32 32 rfl (ints .u8 r) (by rw [ints_length]; exact HR.out) (news_of_rd (Blk.rdA (hT.blk 2 rfl))) (ints_one' _ _) (by rw [ints_length]; simp [HL.out]) (by rw [ints_length]; simp [HL.out]) _ rfl ?_; clear hT; intro A7 n7 c7 wz hn hc7 hA7 hT; have HN7 := hid hn; clear hn; rw [← ints_append] at hT)
    | fail)
  refine HardP.mk' ([.os 5 (.slice A7 n7 c7) (ints .u8 (1 :: (l ++ r)))]) rfl ?_ ?_
  · exact hT
  clear hT
  refine wpS_hard (i := 5) rfl rfl ?_ -- Op.call { value (Operand.func 23), args := #[t9], argTypes := #[24] 
  intro w5 hT
  replace hT : HS NoF w w5 [.os 5 (.slice A7 n7 c7) (ints .u8 (1 :: (l ++ r))), ZH g4, .blk g3 30 (ints .u8 r), .blk g2 30 (ints .u8 l)] := hT
  simp only [List.getElem_toArray, List.getElem_cons_zero, List.getElem_cons_succ]
  go_wp2_with (first
    | (go_at_call 14; refine (sum1_calls (1 :: (l ++ r)) A7 n7 c7 _ (by rw [← HN7.out]; simp; omega) ((hT.os 0 rfl).rd rfl) (B8_cons one_B8 (B8_append BL.out BR.out)) (by rw [← HN7.out]; simp [HL.out, HR.out])).mono ?_; rintro e wq ⟨rfl, hB6⟩; replace hT := hT.below hB6; rw [show shaOf (1 :: (l ++ r)) = ds from hds.out])
    | fail)
  refine HardP.mk' ([.os 5 (.slice A7 n7 c7) (ints .u8 (1 :: (l ++ r)))]) rfl ?_ ?_
  · exact hT
  clear hT
  refine wpS_tot (i := 6) rfl rfl (by kernel_rfl) ?_ -- Op.store 29 t4 t10
  intro w6 hT
  replace hT : HS NoF w w6 [.os 5 (.slice A7 n7 c7) (ints .u8 (1 :: (l ++ r))), ZH g4, .blk g3 30 (ints .u8 r), .blk g2 30 (ints .u8 l)] := hT
  simp only [List.getElem_toArray, List.getElem_cons_zero, List.getElem_cons_succ]
  go_wp2_with (first
    | (refine hs_storeW hT 1 rfl rfl 30 _ _ rfl rfl (ints .u8 ds) rfl (ints_one' _ _) _ infoHashS (by simp [HLL.out]) (by simp) _ rfl ?_; clear hT; intro w9 hT)
    | fail)
  refine TotP.mk' ([.os 5 (.slice A7 n7 c7) (ints .u8 (1 :: (l ++ r))), .blk g4 30 (ints .u8 ds), .blk g3 30 (ints .u8 r), .blk g2 30 (ints .u8 l)]) rfl ?_ ?_
  · exact hT
  clear hT
  refine wpS_end ?_
  intro wz hT
  try dsimp only
  clear hS
  have hS : HS NoF w wz [.os 5 (.slice A7 n7 c7) (ints .u8 (1 :: (l ++ r))), .blk g4 30 (ints .u8 ds), .blk g3 30 (ints .u8 r), .blk g2 30 (ints .u8 l)] := hT
  clear hT
  go_wp2_with fail
  refine bodyPost_ret (results_blk rfl _ _ g4 _ _ 32 _ rfl (hS.blk 1 rfl) arrHashS (by simp [HLL.out]) infoHashS) rfl ⟨by rw [hds.out], hS.bel⟩
/-- The greatest power of two below n, by doubling. -/
def splitF : Nat → Nat → Nat → Nat
  | 0, k, _ => k
  | f + 1, k, n => if k < n - k then splitF f (2 * k) n else k
def splitOf (n : Nat) : Nat := if n < 2 then 0 else splitF n 1 n
theorem splitF_pos : ∀ (f k n : Nat), 0 < k → k < n → 0 < splitF f k n ∧ splitF f k n < n
  | 0, k, n, h, h' => ⟨h, h'⟩
  | f + 1, k, n, h, h' => by
    unfold splitF
    split
    · exact splitF_pos f (2 * k) n (by omega) (by omega)
    · exact ⟨h, h'⟩
theorem splitOf_pos {n : Nat} (h : 2 ≤ n) : 0 < splitOf n ∧ splitOf n < n := by
  unfold splitOf
  rw [if_neg (by omega)]
  exact splitF_pos n 1 n (by omega) (by omega)
set_option maxHeartbeats 1000000 in
set_option maxRecDepth 100000 in
theorem split16_calls (n : Nat) (w : World) (h2 : 2 ≤ n) (hn : n ≤ 1000000) :
    Calls Tryd.prog 47 #[.int .i64 (n : Int)] w fun e w' => e = .returned (.int .i64 (splitOf n : Nat)) ∧ w' = w := by
  have hS : Hd (splitF n 1 n = splitOf n) := hid (by unfold splitOf; rw [if_neg (by omega)])
  have hlt : ¬ (n : Int) < 2 := by omega
  go_enter Tryd.func47, Tryd.ntmps47
  go_wp2_with fail
  go_loopg [3] (n + 1) (fun kq v3 wr => ∃ k : Nat, 0 < k ∧ k < n ∧ v3 = .int .i64 k ∧ Hd (∃ q, kq = q + 1 ∧ n ≤ q + k ∧ splitF q k n = splitOf n) ∧ wr = w)
  case atStart => exact ⟨1, by omega, by omega, rfl, hid ⟨n, rfl, by omega, hS.out⟩, rfl⟩
  case round =>
    obtain ⟨k, hk, hkn, rfl, hq, rfl⟩ := hrel
    by_cases hd : k < n - k
    · have hd2 : (k : Int) < (n : Int) - k := by omega
      go_wp2_with fail
      go_roundg (gk - 1)
      case measure => obtain ⟨q, h1, h2, h3⟩ := hq.out; omega
      case rel =>
        obtain ⟨q, h1, h2, h3⟩ := hq.out
        obtain ⟨p, rfl⟩ : ∃ p, q = p + 1 := ⟨q - 1, by omega⟩
        refine ⟨2 * k, by omega, by omega, by go_num, hid ⟨p, by omega, by omega, ?_⟩, rfl⟩
        rw [← h3]
        conv => rhs; unfold splitF
        rw [if_pos hd]
    · have hd2 : ¬ (k : Int) < (n : Int) - k := by omega
      have hk2 : Hd (splitOf n = k) := hid (by
        obtain ⟨q, h1, h2, h3⟩ := hq.out
        rw [← h3]
        cases q with
        | zero => rfl
        | succ p => unfold splitF; rw [if_neg hd])
      go_wp2_with fail
      go_ret
      exact ⟨by rw [hk2.out]; rfl, rfl⟩
/-- Digests, one behind the other in memory. -/
def HRd (w : World) (A : Option Addr) (hss : List (List Int)) : Prop := hss = [] ∨ ∃ g o, A = some ⟨g, o, none⟩ ∧ ∀ i h j u, hss[i]? = some h → (ints .u8 h)[j]? = some u → w.cell? ⟨g, o + i * 32 + j, none⟩ = some u
theorem HRd.below {w w' : World} {A : Option Addr} {hss : List (List Int)} (h : HRd w A hss) (hb : Below w.heap.size w w') : HRd w' A hss := by
  rcases h with h | ⟨g, o, h1, h2⟩
  · exact .inl h
  · exact .inr ⟨g, o, h1, fun i x j u hi hj => (hb.cell (lt_of_cell (h2 i x j u hi hj))).trans (h2 i x j u hi hj)⟩
theorem HRd.take {w : World} {A : Option Addr} {hss : List (List Int)} (h : HRd w A hss) (n : Nat) : HRd w A (hss.take n) := by
  rcases h with h | ⟨g, o, h1, h2⟩
  · exact .inl (by rw [h]; simp)
  · refine .inr ⟨g, o, h1, fun i x j u hi hj => h2 i x j u ?_ hj⟩
    rw [List.getElem?_take] at hi
    split at hi
    · exact hi
    · cases hi
theorem HRd.drop {w : World} {g o : Nat} {hss : List (List Int)} (h : HRd w (some ⟨g, o, none⟩) hss) (n : Nat) : HRd w (some ⟨g, o + n * 32, none⟩) (hss.drop n) := by
  rcases h with h | ⟨g', o', h1, h2⟩
  · exact .inl (by rw [h]; simp)
  · injection h1 with h1; injection h1 with h1 h3; subst h1 h3
    refine .inr ⟨g, o + n * 32, rfl, fun i x j u hi hj => ?_⟩
    rw [List.getElem?_drop] at hi
    have := h2 (n + i) x j u hi hj
    rw [show o + n * 32 + i * 32 + j = o + (n + i) * 32 + j by rw [Nat.add_mul]; omega]
    exact this
theorem HRd.oldS {w0 w : World} {L : List Ent} (hS : HS NoF w0 w L) {A : Option Addr} {hss : List (List Int)} (h : HRd w0 A hss) : HRd w A hss := by
  rcases h with h | ⟨g, o, h1, h2⟩
  · exact .inl h
  · exact .inr ⟨g, o, h1, fun i x j u hi hj => hS.oldCell (h2 i x j u hi hj) (fun h => h)⟩
theorem undLHashT : Tryd.prog.underlying 40 = some (.slice 30) := by kernel_rfl
/-- The root of a tree over digests. -/
def rootF : Nat → List (List Int) → List Int
  | 0, _ => shaOf []
  | f + 1, l => if l.length = 0 then shaOf [] else if l.length = 1 then l.headD [] else nodeOf (rootF f (l.take (splitOf l.length))) (rootF f (l.drop (splitOf l.length)))
def rootOf (l : List (List Int)) : List Int := rootF l.length l
theorem rootF_eq : ∀ (f g : Nat) (l : List (List Int)), l.length ≤ f → l.length ≤ g → rootF f l = rootF g l
  | 0, 0, _, _, _ => rfl
  | 0, g + 1, l, h, _ => by unfold rootF; rw [if_pos (by omega)]
  | f + 1, 0, l, _, h => by unfold rootF; rw [if_pos (by omega)]
  | f + 1, g + 1, l, h, h' => by
    unfold rootF
    split
    · rfl
    · split
      · rfl
      · have := splitOf_pos (n := l.length) (by omega)
        rw [rootF_eq f g _ (by rw [List.length_take]; omega) (by rw [List.length_take]; omega), rootF_eq f g _ (by rw [List.length_drop]; omega) (by rw [List.length_drop]; omega)]
def H32 (l : List (List Int)) : Prop := ∀ h ∈ l, h.length = 32 ∧ ∀ x ∈ h, B8 x
theorem H32.take {l : List (List Int)} (h : H32 l) (n : Nat) : H32 (l.take n) := fun x hx => h x (List.mem_of_mem_take hx)
theorem H32.drop {l : List (List Int)} (h : H32 l) (n : Nat) : H32 (l.drop n) := fun x hx => h x (List.mem_of_mem_drop hx)
theorem rootF_H32 : ∀ (f : Nat) (l : List (List Int)), H32 l → (rootF f l).length = 32 ∧ ∀ x ∈ rootF f l, B8 x
  | 0, _, _ => ⟨shaOf_length _, shaOf_B8 _⟩
  | f + 1, l, h => by
    unfold rootF
    split
    · exact ⟨shaOf_length _, shaOf_B8 _⟩
    · split
      · cases l with
        | nil => simp at *
        | cons x l => exact h x (by simp)
      · exact ⟨nodeOf_length _ _, nodeOf_B8 _ _⟩
set_option maxHeartbeats 1000000 in
set_option maxRecDepth 100000 in
theorem root16_calls : ∀ (f : Nat) (hss : List (List Int)) (A : Option Addr) (n c : Nat) (w : World) (_ : hss.length = n) (_ : n ≤ f) (_ : HRd w A hss) (_ : H32 hss) (_ : n ≤ c) (_ : n ≤ 100000),
    Calls Tryd.prog 19 #[.slice A n c] w fun e w' => e = .returned (.agg (ints .u8 (rootF f hss)).toArray) ∧ Below w.heap.size w w' := by
  intro f
  induction f with
  | zero =>
    intro hss A n c w hl hf hr h32 hc hn
    obtain rfl : n = 0 := by omega
    have hS := HS.start NoF w
    clear hl hf hr h32 hc hn
    have HSL : Hd ((shaOf []).length = 32) := hid (shaOf_length [])
    obtain ⟨ds, hds⟩ : ∃ ds, Hd (shaOf [] = ds) := ⟨_, hid rfl⟩
    rw [hds.out] at HSL
    go_enter Tryd.func19, Tryd.ntmps19
    go_wp2_with (first
      | (refine alloc_blk rfl 30 rfl _ rfl (ints .u8 (List.replicate 32 0)) zeroHashS ?_; intro g2 w2 hga hba hBa hsa; replace hS := hS.pushBlk hBa hba hga; clear hga hba hBa hsa)
      | (go_at_call 14; refine (sum1_calls [] none 0 0 _ rfl (.inl rfl) (fun _ h => by cases h) (by omega)).mono ?_; rintro e w6 ⟨rfl, hB6⟩; replace hS := hS.below hB6; rw [hds.out])
      | (refine hs_storeW hS 0 rfl rfl 30 _ _ rfl rfl (ints .u8 ds) rfl (ints_one' _ _) _ infoHashS (by simp [HSL.out]) (by simp) _ rfl ?_; clear hS; intro w9 hS)
      | fail)
    refine bodyPost_ret (results_blk rfl _ _ g2 _ _ 32 _ rfl (hS.blk 0 rfl) arrHashS (by simp [HSL.out]) infoHashS) rfl ⟨by unfold rootF; rw [hds.out], hS.bel⟩
  | succ f ih =>
    intro hss A n c w hl hf hr h32 hc hn
    by_cases h0 : n = 0
    · subst h0
      have hS := HS.start NoF w
      have hR : Hd (rootF (f + 1) hss = shaOf []) := hid (by unfold rootF; rw [if_pos hl])
      clear hl hf hr h32 hc hn
      have HSL : Hd ((shaOf []).length = 32) := hid (shaOf_length [])
      obtain ⟨ds, hds⟩ : ∃ ds, Hd (shaOf [] = ds) := ⟨_, hid rfl⟩
      rw [hds.out] at HSL hR
      rw [hR.out]
      go_enter Tryd.func19, Tryd.ntmps19
      go_wp2_with (first
        | (refine alloc_blk rfl 30 rfl _ rfl (ints .u8 (List.replicate 32 0)) zeroHashS ?_; intro g2 w2 hga hba hBa hsa; replace hS := hS.pushBlk hBa hba hga; clear hga hba hBa hsa)
        | (go_at_call 14; refine (sum1_calls [] none 0 0 _ rfl (.inl rfl) (fun _ h => by cases h) (by omega)).mono ?_; rintro e w6 ⟨rfl, hB6⟩; replace hS := hS.below hB6; rw [hds.out])
        | (refine hs_storeW hS 0 rfl rfl 30 _ _ rfl rfl (ints .u8 ds) rfl (ints_one' _ _) _ infoHashS (by simp [HSL.out]) (by simp) _ rfl ?_; clear hS; intro w9 hS)
        | fail)
      refine bodyPost_ret (results_blk rfl _ _ g2 _ _ 32 _ rfl (hS.blk 0 rfl) arrHashS (by simp [HSL.out]) infoHashS) rfl ⟨rfl, hS.bel⟩
    · by_cases h1 : n = 1
      · subst h1
        have hS := HS.start NoF w
        obtain ⟨x, rfl⟩ := List.length_eq_one_iff.1 hl
        have HXL : Hd (x.length = 32) := hid (h32 x (by simp)).1
        have hR : Hd (rootF (f + 1) [x] = x) := hid rfl
        rw [hR.out]
        obtain ⟨g, o, rfl, hcell⟩ : ∃ g o, A = some ⟨g, o, none⟩ ∧ ∀ j v, (ints .u8 x)[j]? = some v → w.cell? ⟨g, o + j, none⟩ = some v := by
          rcases hr with h | ⟨g, o, h1, h2⟩
          · cases h
          · exact ⟨g, o, h1, fun j v hj => by have := h2 0 x j v rfl hj; rwa [Nat.zero_mul, Nat.add_zero] at this⟩
        have HC := hid hcell
        clear hl hf hr h32 hn h0 hcell hR
        go_enter Tryd.func19, Tryd.ntmps19
        go_wp2_with (first
          | (refine alloc_blk rfl 30 rfl _ rfl (ints .u8 (List.replicate 32 0)) zeroHashS ?_; intro g2 w2 hga hba hBa hsa; replace hS := hS.pushBlk hBa hba hga; clear hga hba hBa hsa)
          | (refine load_in rfl 30 _ rfl g o rfl (ints .u8 x) (fun j v hj => hS.oldCell (HC.out j v hj) (fun h => h)) 32 5 arrHashS (by simp [HXL.out]) infoHashS ?_)
          | (refine hs_storeW hS 0 rfl rfl 30 _ _ rfl rfl (ints .u8 x) rfl (ints_one' _ _) _ infoHashS (by simp [HXL.out]) (by simp) _ rfl ?_; clear hS; intro w9 hS)
          | fail)
        refine bodyPost_ret (results_blk rfl _ _ g2 _ _ 32 _ rfl (hS.blk 0 rfl) arrHashS (by simp [HXL.out]) infoHashS) rfl ⟨rfl, hS.bel⟩
      · have hS := HS.start NoF w
        have hp := splitOf_pos (n := n) (by omega)
        have hR : Hd (rootF (f + 1) hss = nodeOf (rootF f (hss.take (splitOf n))) (rootF f (hss.drop (splitOf n)))) := hid (by
          conv => lhs; unfold rootF
          rw [hl, if_neg h0, if_neg h1])
        obtain ⟨g, o, rfl⟩ : ∃ g o, A = some ⟨g, o, none⟩ := by
          rcases hr with h | ⟨g, o, h1, _⟩
          · subst h; simp at hl; omega
          · exact ⟨g, o, h1⟩
        have HS1 := hid (rootF_H32 f _ (h32.take (splitOf n)))
        have HS2 := hid (rootF_H32 f _ (h32.drop (splitOf n)))
        have hsp := split16_calls n
        obtain ⟨k, hk⟩ : ∃ k, splitOf n = k := ⟨_, rfl⟩
        rw [hk] at hR HS1 HS2 hp hsp
        have HR1 := hid (hr.take k)
        have HR2 := hid (hr.drop k)
        have H1 := hid (h32.take k)
        have H2 := hid (h32.drop k)
        have HL1 : Hd ((hss.take k).length = k) := hid (by rw [List.length_take]; omega)
        have HL2 : Hd ((hss.drop k).length = n - k) := hid (by rw [List.length_drop]; omega)
        rw [hR.out]
        generalize hss.take k = ls at *
        generalize hss.drop k = rs at *
        obtain ⟨X, hX⟩ : ∃ X, Hd (rootF f ls = X) := ⟨_, hid rfl⟩
        obtain ⟨Y, hY⟩ : ∃ Y, Hd (rootF f rs = Y) := ⟨_, hid rfl⟩
        rw [hX.out] at HS1
        rw [hY.out] at HS2
        rw [hX.out, hY.out]
        have HDL : Hd ((nodeOf X Y).length = 32) := hid (nodeOf_length X Y)
        obtain ⟨ds, hds⟩ : ∃ ds, Hd (nodeOf X Y = ds) := ⟨_, hid rfl⟩
        rw [hds.out] at HDL
        obtain ⟨d, hd⟩ : ∃ d, n - k = d := ⟨_, rfl⟩
        rw [hd] at HL2
        have HF := hid hf
        have HP := hid hp
        have HD := hid hd
        have HI := hid ih
        clear hl hr h32 hR hk hf ih hp hd
        have hn0 : ¬ (n : Int) = 0 := by omega
        have hn1 : ¬ (n : Int) = 1 := by omega
        have hn2 : 2 ≤ n := by omega
        go_enter Tryd.func19, Tryd.ntmps19
        go_wp2_with (first
          | (refine alloc_blk rfl 30 rfl _ rfl (ints .u8 (List.replicate 32 0)) zeroHashS ?_; intro g2 w2 hga hba hBa hsa; replace hS := hS.pushBlk hBa hba hga; clear hga hba hBa hsa)
          | (go_at_call 47; refine (hsp _ (by omega) (by omega)).mono ?_; rintro e w6 ⟨rfl, rfl⟩)
          | fail)
        try go_wp2_with fail
        refine wp_region_S (F := NoF) (w0 := w) (L0 := [ZH g2]) [3, 7, 8] [9]
          (fun iK u E => match iK with
            | 3 => u = .agg (ints .u8 X).toArray ∧ E = []
            | 7 => u = .agg (ints .u8 Y).toArray ∧ E = []
            | 8 => u = .agg (ints .u8 ds).toArray ∧ E = []
            | _ => False)
          ([]) (by kernel_rfl) (by kernel_rfl) hS ?_
        show wpS _ _ _ _ _ _ _ _ _ _ [0, 1, 2, 3, 4, 5, 6, 7, 8, 9] _
        apply wpS_read (i := 0) rfl rfl ⟨_, hS⟩ rfl -- Op.move t0
        · intro w' hT'
          simp only [List.getElem_toArray, List.getElem_cons_zero, List.getElem_cons_succ]
          go_wp2_with fail
          first | exact ⟨rfl, rfl, rfl⟩ | rfl
        apply wpS_read (i := 1) rfl rfl ⟨_, hS⟩ rfl -- Op.move t3
        · intro w' hT'
          simp only [List.getElem_toArray, List.getElem_cons_zero, List.getElem_cons_succ]
          go_wp2_with fail
          first | exact ⟨rfl, rfl, rfl⟩ | rfl
        apply wpS_read (i := 2) rfl rfl ⟨_, hS⟩ rfl -- Op.slice 65 t17 none (some t18) none
        · intro w' hT'
          simp only [List.getElem_toArray, List.getElem_cons_zero, List.getElem_cons_succ]
          go_wp2_with (first
            | (refine slice_hiS rfl _ _ 40 rfl 30 undLHashT 32 infoHashS g o n c k rfl rfl (by have := HP.out; omega) (by omega) _ rfl ?_)
            | (refine slice_loS rfl _ _ 40 rfl 30 undLHashT 32 infoHashS g o n c k d rfl rfl (by have := HP.out; omega) (by have := HP.out; omega) HD.out _ rfl ?_)
            | fail)
          first | exact ⟨rfl, rfl, rfl⟩ | rfl
        refine wpS_soft (i := 3) rfl rfl rfl (Nat.le_of_ble_eq_true rfl) ?_ ?_ -- Op.call { value (Operand.func 22), args := #[t19], argTypes := #[65]
        · intro w' hT
          simp only [List.getElem_toArray, List.getElem_cons_zero, List.getElem_cons_succ]
          go_wp2_with (first
            | (go_at_call 19; refine (HI.out ls (some ⟨g, o, none⟩) k c _ HL1.out (by have := HF.out; have := HP.out; omega) (HRd.oldS hT HR1.out) H1.out (by have := HP.out; omega) (by have := HP.out; omega)).mono ?_; rintro e w6 ⟨rfl, hB6⟩; rw [hX.out])
            | fail)
          exact SoftP.mk' (.agg (ints .u8 X).toArray) ([]) rfl (⟨rfl, rfl⟩) (hT.below hB6) (hB6) (fun _ h => by cases h)
        intro u3 E3 hK3
        obtain ⟨rfl, rfl⟩ := hK3
        simp only [Act.put, List.setIfInBounds_toArray, List.set_cons_zero, List.set_cons_succ]
        apply wpS_read (i := 4) rfl rfl ⟨_, hS⟩ rfl -- Op.move t0
        · intro w' hT'
          simp only [List.getElem_toArray, List.getElem_cons_zero, List.getElem_cons_succ]
          go_wp2_with fail
          first | exact ⟨rfl, rfl, rfl⟩ | rfl
        apply wpS_read (i := 5) rfl rfl ⟨_, hS⟩ rfl -- Op.move t3
        · intro w' hT'
          simp only [List.getElem_toArray, List.getElem_cons_zero, List.getElem_cons_succ]
          go_wp2_with fail
          first | exact ⟨rfl, rfl, rfl⟩ | rfl
        apply wpS_read (i := 6) rfl rfl ⟨_, hS⟩ rfl -- Op.slice 65 t21 (some t22) none none
        · intro w' hT'
          simp only [List.getElem_toArray, List.getElem_cons_zero, List.getElem_cons_succ]
          go_wp2_with (first
            | (refine slice_hiS rfl _ _ 40 rfl 30 undLHashT 32 infoHashS g o n c k rfl rfl (by have := HP.out; omega) (by omega) _ rfl ?_)
            | (refine slice_loS rfl _ _ 40 rfl 30 undLHashT 32 infoHashS g o n c k d rfl rfl (by have := HP.out; omega) (by have := HP.out; omega) HD.out _ rfl ?_)
            | fail)
          first | exact ⟨rfl, rfl, rfl⟩ | rfl
        refine wpS_soft (i := 7) rfl rfl rfl (Nat.le_of_ble_eq_true rfl) ?_ ?_ -- Op.call { value (Operand.func 22), args := #[t23], argTypes := #[65]
        · intro w' hT
          simp only [List.getElem_toArray, List.getElem_cons_zero, List.getElem_cons_succ]
          go_wp2_with (first
            | (go_at_call 19; refine (HI.out rs (some ⟨g, o + k * 32, none⟩) d (c - k) _ HL2.out (by have := HF.out; have := HP.out; have := HD.out; omega) (HRd.oldS hT HR2.out) H2.out (by have := HP.out; have := HD.out; omega) (by have := HP.out; have := HD.out; omega)).mono ?_; rintro e w6 ⟨rfl, hB6⟩; rw [hY.out])
            | fail)
          exact SoftP.mk' (.agg (ints .u8 Y).toArray) ([]) rfl (⟨rfl, rfl⟩) (hT.below hB6) (hB6) (fun _ h => by cases h)
        intro u7 E7 hK7
        obtain ⟨rfl, rfl⟩ := hK7
        simp only [Act.put, List.setIfInBounds_toArray, List.set_cons_zero, List.set_cons_succ]
        refine wpS_soft (i := 8) rfl rfl rfl (Nat.le_of_ble_eq_true rfl) ?_ ?_ -- Op.call { value (Operand.func 38), args := #[t20, t24], argTypes := 
        · intro w' hT
          simp only [List.getElem_toArray, List.getElem_cons_zero, List.getElem_cons_succ]
          go_wp2_with (first
            | (go_at_call 48; refine (node16_calls X Y _ HS1.out.1 HS2.out.1 HS1.out.2 HS2.out.2).mono ?_; rintro e w6 ⟨rfl, hB6⟩; rw [hds.out])
            | fail)
          exact SoftP.mk' (.agg (ints .u8 ds).toArray) ([]) rfl (⟨rfl, rfl⟩) (hT.below hB6) (hB6) (fun _ h => by cases h)
        intro u8 E8 hK8
        obtain ⟨rfl, rfl⟩ := hK8
        simp only [Act.put, List.setIfInBounds_toArray, List.set_cons_zero, List.set_cons_succ]
        refine wpS_tot (i := 9) rfl rfl (by kernel_rfl) ?_ -- Op.store 29 t2 t25
        intro w9 hT
        replace hT : HS NoF w w9 [ZH g2] := hT
        simp only [List.getElem_toArray, List.getElem_cons_zero, List.getElem_cons_succ]
        go_wp2_with (first
          | (refine hs_storeW hT 0 rfl rfl 30 _ _ rfl rfl (ints .u8 ds) rfl (ints_one' _ _) _ infoHashS (by simp [HDL.out]) (by simp) _ rfl ?_; clear hT; intro w9 hT)
          | fail)
        refine TotP.mk' ([.blk g2 30 (ints .u8 ds)]) rfl ?_ ?_
        · exact hT
        clear hT
        refine wpS_end ?_
        intro wz hT
        try dsimp only
        clear hS
        have hS : HS NoF w wz [.blk g2 30 (ints .u8 ds)] := hT
        clear hT
        go_wp2_with fail
        refine bodyPost_ret (results_blk rfl _ _ g2 _ _ 32 _ rfl (hS.blk 0 rfl) arrHashS (by simp [HDL.out]) infoHashS) rfl ⟨by rw [hds.out], hS.bel⟩
end Go.Proofs.YtckcdngnkpfcfaaDoor
/- A tag's arithmetic: carry. -/
namespace Go.Proofs.YtckcdngnkpfcfaaDoor
open Go.RowKit Go.Cour
theorem foldl_succ' {α : Type} (f : α → Nat → α) (s : α) (n : Nat) : (List.range (n + 1)).foldl f s = f ((List.range n).foldl f s) n := by
  rw [List.range_succ, List.foldl_append]; rfl
theorem info73 : (Tryd.prog.info? 178).map (·.size) = some 5 := by kernel_rfl
theorem arr73 : Tryd.prog.underlying 178 = some (.array 5 93) := by kernel_rfl
/-- The lowest 26 bits. -/
def low26 (x : Int) : Int := bits .and .u64 x 67108863
theorem low26_eq (x : Int) (h0 : 0 ≤ x) (h1 : x < 18446744073709551616) : low26 x = x % 67108864 :=
  bits_mask .u64 64 (by decide) (fun n h0 h1 => by rw [IntKind.wrap_u64]; omega) 26 (by decide) x h0 (by simpa using h1)
/-- A number of 64 bits. -/
def u64 (x : Int) : Int := IntKind.u64.wrap x
theorem u64_eq (x : Int) : u64 x = x % 18446744073709551616 := by unfold u64; rw [IntKind.wrap_u64]
/-- One part: what was carried is taken in, what is too much is carried on. -/
def carry1 (s : List Int × Int) (i : Nat) : List Int × Int := ((s.1.set i (u64 (rd s.1 i + s.2))).set i (low26 (u64 (rd s.1 i + s.2))), u64 (rd s.1 i + s.2) / 67108864)
def carryTo (xs : List Int) (n : Nat) : List Int × Int := (List.range n).foldl carry1 (xs, 0)
def carryRound (xs : List Int) : List Int := (carryTo xs 5).1.set 0 (u64 (rd (carryTo xs 5).1 0 + u64 (5 * (carryTo xs 5).2)))
def carryN (xs : List Int) (n : Nat) : List Int := (List.range n).foldl (fun s _ => carryRound s) xs
theorem carryTo_succ (xs : List Int) (n : Nat) : carryTo xs (n + 1) = carry1 (carryTo xs n) n := foldl_succ' _ _ _
theorem carryTo_zero (xs : List Int) : carryTo xs 0 = (xs, 0) := rfl
theorem carryN_succ (xs : List Int) (n : Nat) : carryN xs (n + 1) = carryRound (carryN xs n) := foldl_succ' _ _ _
theorem carryN_zero (xs : List Int) : carryN xs 0 = xs := rfl
theorem carryTo_length (xs : List Int) : ∀ n, (carryTo xs n).1.length = xs.length
  | 0 => rfl
  | n + 1 => by rw [carryTo_succ]; simp only [carry1, List.length_set]; exact carryTo_length xs n
theorem carryRound_length (xs : List Int) : (carryRound xs).length = xs.length := by
  simp only [carryRound, List.length_set]; exact carryTo_length xs 5
theorem carryN_length (xs : List Int) : ∀ n, (carryN xs n).length = xs.length
  | 0 => rfl
  | n + 1 => by rw [carryN_succ, carryRound_length]; exact carryN_length xs n
/-- What the blocks of a call of carry hold. -/
structure CS (w wr : World) (xs : List Int) : Prop where
  a : Blk wr w.heap.size 178 (ints .u64 xs)
  r : Blk wr (w.heap.size + 1) 178 (ints .u64 (List.replicate 5 0))
  below : Below w.heap.size w wr
theorem CS.set {w wr : World} {xs : List Int} (h : CS w wr xs) (i : Nat) (x : Int) : CS w (wr.setCell ⟨w.heap.size, i, none⟩ (.int .u64 x)) (xs.set i x) :=
  ⟨h.a.setI i x, h.r.setOther (by simp) _, h.below.setCell (by simp) _⟩
set_option maxHeartbeats 4000000 in
set_option maxRecDepth 100000 in
theorem carry_calls (xs : List Int) (w : World) (hx : xs.length = 5) :
    Calls Tryd.prog 127 #[.agg (ints .u64 xs).toArray] w fun e w' => e = .returned (.agg (ints .u64 (carryN xs 2)).toArray) ∧ Below w.heap.size w w' := by
  have HX := hid hx
  clear hx
  go_enter Tryd.func127, Tryd.ntmps127
  go_wp2_with fail
  go_loopg [5] 2 (fun kq v5 wr => ∃ i : Nat, i ≤ 2 ∧ v5 = .int .i64 i ∧ Hd (kq + i = 2) ∧ CS w wr (carryN xs i))
  case atStart =>
    refine ⟨0, by omega, rfl, hid rfl, ?_, ?_, ?_⟩
    · rw [carryN_zero]; exact (Blk.new w 178 (ints .u64 xs)).alloc _
    · exact Blk.new' (w.alloc _) 178 (ints .u64 (List.replicate 5 0)) _ (by simp)
    · exact ((Below.refl _ _).alloc (Nat.le_refl _) _).alloc (by simp) _
  case round =>
    obtain ⟨i, hi, rfl, hq, hS⟩ := hrel
    by_cases hlt : i < 2
    · have hd1 : decide ((i : Int) < 2) = true := by simp; omega
      go_wp2_with fail
      obtain ⟨wo, rfl⟩ : ∃ wo : World, wo = wr := ⟨_, rfl⟩
      obtain ⟨gk1, hgk⟩ : ∃ g : Nat, Hd (g = gk) := ⟨gk, hid rfl⟩
      have hq1 : Hd (gk1 + i = 2) := hid (by rw [hgk.out]; exact hq.out)
      obtain ⟨X, hX⟩ : ∃ X, Hd (X = carryN xs i) := ⟨_, hid rfl⟩
      have hXl : Hd (X.length = 5) := hid (by rw [hX.out, carryN_length]; exact HX.out)
      rw [← hX.out] at hS
      go_loopg [3, 7] 5 (fun kq v3 v7 wr => ∃ j : Nat, j ≤ 5 ∧ v7 = .int .i64 j ∧ v3 = .int .u64 (carryTo X j).2 ∧ Hd (kq + j = 5) ∧ CS w wr (carryTo X j).1)
      case atStart => exact ⟨0, by omega, rfl, rfl, hid rfl, hS⟩
      case round =>
        clear hS
        obtain ⟨j, hj, rfl, rfl, hq2, hS⟩ := hrel
        obtain ⟨Y, o, hY⟩ : ∃ Y o, Hd ((carryTo X j) = (Y, o)) := ⟨_, _, hid rfl⟩
        rw [hY.out] at hS ⊢
        dsimp only at hS ⊢
        have hYl : Y.length = 5 := by have := carryTo_length X j; rw [hY.out] at this; rw [← hXl.out]; exact this
        by_cases hjlt : j < 5
        · have cj := hS.a.cellI j (by omega)
          have fj := hS.a.frozen j
          have cj2 := (hS.set j (u64 (rd Y j + o))).a.cellI j (by simp; omega)
          have fj2 := (hS.set j (u64 (rd Y j + o))).a.frozen j
          rw [rd_set', if_pos ⟨rfl, by omega⟩] at cj2
          have HYl := hid hYl
          clear hYl
          go_wp2_with fail
          go_roundg (gk - 1)
          case measure => have := hq2.out; omega
          case rel =>
            refine ⟨j + 1, by omega, by go_num, ?_, hid (by have := hq2.out; omega), ?_⟩
            · rw [carryTo_succ, hY.out]; rfl
            · rw [carryTo_succ, hY.out]; exact (hS.set j _).set j _
        · have hj5 : (j : Int) = 5 := by omega
          rw [hj5]
          obtain rfl : j = 5 := by omega
          have c0 := hS.a.cellI 0 (by omega)
          have f0 := hS.a.frozen 0
          have HYl := hid hYl
          clear hYl hjlt hj5 hj
          go_wp2_with fail
          go_roundg (gk1 - 1)
          case measure => have := hq1.out; have := hgk.out; omega
          case rel =>
            refine ⟨i + 1, by omega, by go_num, hid (by have := hq1.out; omega), ?_⟩
            have he : carryN xs (i + 1) = Y.set 0 (u64 (rd Y 0 + u64 (5 * o))) := by
              rw [carryN_succ, ← hX.out, carryRound, hY.out]
            rw [he]
            exact hS.set 0 _
    · obtain rfl : i = 2 := by omega
      have hl5 : (ints .u64 (carryN xs 2)).length = 5 := by rw [ints_length, carryN_length]; exact HX.out
      have HL := hid hl5
      clear hl5 hi hlt
      go_wp2_with (first
        | (refine load_blk rfl 178 _ rfl w.heap.size rfl 178 _ hS.a 5 93 arr73 HL.out info73 ?_)
        | (refine store_blk rfl 178 _ _ rfl (w.heap.size + 1) _ rfl rfl 178 _ hS.r 5 info73 HL.out (by simp) (ints_one _ _) ?_))
      refine bodyPost_ret (results_blk rfl _ _ (w.heap.size + 1) 178 _ 5 93 rfl (hS.r.setRow _) arr73 HL.out info73) rfl ?_
      exact ⟨rfl, below_setRow hS.below (by omega) _⟩
end Go.Proofs.YtckcdngnkpfcfaaDoor
/- A tag's arithmetic: a product. -/
namespace Go.Proofs.YtckcdngnkpfcfaaDoor
open Go.RowKit Go.Cour
def term (a b : List Int) (i j : Nat) : Int := if 5 ≤ i + j then u64 (u64 (rd a i * rd b j) * 5) else u64 (rd a i * rd b j)
def tinTo (a b : List Int) (i : Nat) (s : List Int) (n : Nat) : List Int := (List.range n).foldl (fun s j => s.set ((i + j) % 5) (u64 (rd s ((i + j) % 5) + term a b i j))) s
def toutTo (a b : List Int) (n : Nat) : List Int := (List.range n).foldl (fun s i => tinTo a b i s 5) (List.replicate 5 0)
def times (a b : List Int) : List Int := carryN (toutTo a b 5) 2
theorem tinTo_succ (a b : List Int) (i : Nat) (s : List Int) (n : Nat) : tinTo a b i s (n + 1) = (tinTo a b i s n).set ((i + n) % 5) (u64 (rd (tinTo a b i s n) ((i + n) % 5) + term a b i n)) := foldl_succ' _ _ _
theorem tinTo_zero (a b : List Int) (i : Nat) (s : List Int) : tinTo a b i s 0 = s := rfl
theorem toutTo_succ (a b : List Int) (n : Nat) : toutTo a b (n + 1) = tinTo a b n (toutTo a b n) 5 := foldl_succ' _ _ _
theorem toutTo_zero (a b : List Int) : toutTo a b 0 = List.replicate 5 0 := rfl
theorem tinTo_length (a b : List Int) (i : Nat) (s : List Int) : ∀ n, (tinTo a b i s n).length = s.length
  | 0 => rfl
  | n + 1 => by rw [tinTo_succ, List.length_set]; exact tinTo_length a b i s n
theorem toutTo_length (a b : List Int) : ∀ n, (toutTo a b n).length = 5
  | 0 => by simp [toutTo_zero]
  | n + 1 => by rw [toutTo_succ, tinTo_length]; exact toutTo_length a b n
theorem times_length (a b : List Int) : (times a b).length = 5 := by rw [times, carryN_length]; exact toutTo_length a b 5
/-- What the blocks of a call of times hold. -/
structure TS (w wr : World) (a b s : List Int) : Prop where
  a : Blk wr w.heap.size 178 (ints .u64 a)
  b : Blk wr (w.heap.size + 1) 178 (ints .u64 b)
  r : Blk wr (w.heap.size + 1 + 1) 178 (ints .u64 (List.replicate 5 0))
  s : Blk wr (w.heap.size + 1 + 1 + 1) 178 (ints .u64 s)
  below : Below w.heap.size w wr
theorem TS.set {w wr : World} {a b s : List Int} (h : TS w wr a b s) (i : Nat) (x : Int) : TS w (wr.setCell ⟨w.heap.size + 1 + 1 + 1, i, none⟩ (.int .u64 x)) a b (s.set i x) :=
  ⟨h.a.setOther (by simp; try omega) _, h.b.setOther (by simp; try omega) _, h.r.setOther (by simp; try omega) _, h.s.setI i x, h.below.setCell (by simp; try omega) _⟩
theorem TS.drewN {w wr : World} {a b s : List Int} (h : TS w wr a b s) (n : Nat) : TS w (wr.drewN n) a b s := ⟨h.a.drewN n, h.b.drewN n, h.r.drewN n, h.s.drewN n, below_drewN h.below n⟩
set_option maxHeartbeats 4000000 in
set_option maxRecDepth 100000 in
theorem times_calls (a b : List Int) (w : World) (ha : a.length = 5) (hb : b.length = 5) :
    Calls Tryd.prog 125 #[.agg (ints .u64 a).toArray, .agg (ints .u64 b).toArray] w fun e w' => e = .returned (.agg (ints .u64 (times a b)).toArray) ∧ Below w.heap.size w w' := by
  have HA := hid ha
  have HB := hid hb
  clear ha hb
  go_enter Tryd.func125, Tryd.ntmps125
  go_wp2_with fail
  go_loopg [9] 5 (fun kq v9 wr => ∃ i : Nat, i ≤ 5 ∧ v9 = .int .i64 i ∧ Hd (kq + i = 5) ∧ TS w wr a b (toutTo a b i))
  case atStart =>
    refine ⟨0, by omega, rfl, hid rfl, ?_, ?_, ?_, ?_, ?_⟩
    · exact (((Blk.new w 178 (ints .u64 a)).alloc _).alloc _).alloc _
    · exact ((Blk.new' (w.alloc _) 178 (ints .u64 b) _ (by simp)).alloc _).alloc _
    · exact (Blk.new' ((w.alloc _).alloc _) 178 (ints .u64 (List.replicate 5 0)) _ (by simp)).alloc _
    · exact Blk.new' (((w.alloc _).alloc _).alloc _) 178 (ints .u64 (List.replicate 5 0)) _ (by simp)
    · exact ((((Below.refl _ _).alloc (Nat.le_refl _) _).alloc (by simp) _).alloc (by simp; omega) _).alloc (by simp; omega) _
  case round =>
    obtain ⟨i, hi, rfl, hq, hS⟩ := hrel
    by_cases hlt : i < 5
    · have hd1 : decide ((i : Int) < 5) = true := by simp; omega
      go_wp2_with fail
      obtain ⟨wo, rfl⟩ : ∃ wo : World, wo = wr := ⟨_, rfl⟩
      obtain ⟨gk1, hgk⟩ : ∃ g : Nat, Hd (g = gk) := ⟨gk, hid rfl⟩
      have hq1 : Hd (gk1 + i = 5) := hid (by rw [hgk.out]; exact hq.out)
      obtain ⟨X, hX⟩ : ∃ X, Hd (X = toutTo a b i) := ⟨_, hid rfl⟩
      have hXl : Hd (X.length = 5) := hid (by rw [hX.out, toutTo_length])
      rw [← hX.out] at hS
      go_loopg [12] 5 (fun kq v12 wr => ∃ j : Nat, j ≤ 5 ∧ v12 = .int .i64 j ∧ Hd (kq + j = 5) ∧ TS w wr a b (tinTo a b i X j))
      case atStart => exact ⟨0, by omega, rfl, hid rfl, by rw [tinTo_zero]; exact hS⟩
      case round =>
        clear hS
        obtain ⟨j, hj, rfl, hq2, hS⟩ := hrel
        obtain ⟨Y, hY⟩ : ∃ Y, Hd (Y = tinTo a b i X j) := ⟨_, hid rfl⟩
        rw [← hY.out] at hS
        have hYl : Hd (Y.length = 5) := hid (by rw [hY.out, tinTo_length]; exact hXl.out)
        by_cases hjlt : j < 5
        · have ca := hS.a.cellI i (by have := HA.out; omega)
          have cb := hS.b.cellI j (by have := HB.out; omega)
          obtain ⟨m, hm, hm5⟩ : ∃ m : Nat, Hd (m = (i + j) % 5) ∧ m < 5 := ⟨_, hid rfl, by omega⟩
          have cs := hS.s.cellI m (by have := hYl.out; omega)
          have fs := hS.s.frozen m
          have a1 : (i : Int) < 5 := by omega
          have a2 : (j : Int) < 5 := by omega
          have a4 : ((i : Int) + (j : Int)) % 5 = (m : Int) := by have := hm.out; omega
          have a5 : (m : Int) < 5 := by omega
          by_cases hs : 5 ≤ i + j
          · have a6 : (5 : Int) ≤ (i : Int) + (j : Int) := by omega
            go_wp2_with fail
            go_quiet (fail)
            go_wp2_with fail
            go_roundg (gk - 1)
            case measure => have := hq2.out; omega
            case rel =>
              refine ⟨j + 1, by omega, by go_num, hid (by have := hq2.out; omega), ?_⟩
              rw [tinTo_succ, ← hY.out, ← hm.out, show term a b i j = u64 (u64 (rd a i * rd b j) * 5) from if_pos hs]
              exact (hS.drewN _).set m _
          · have a6 : ¬ (5 : Int) ≤ (i : Int) + (j : Int) := by omega
            go_wp2_with fail
            go_quiet (fail)
            go_wp2_with fail
            go_roundg (gk - 1)
            case measure => have := hq2.out; omega
            case rel =>
              refine ⟨j + 1, by omega, by go_num, hid (by have := hq2.out; omega), ?_⟩
              rw [tinTo_succ, ← hY.out, ← hm.out, show term a b i j = u64 (rd a i * rd b j) from if_neg hs]
              exact (hS.drewN _).set m _
        · have hj5 : (j : Int) = 5 := by omega
          rw [hj5]
          obtain rfl : j = 5 := by omega
          clear hjlt hj5 hj
          go_wp2_with fail
          go_roundg (gk1 - 1)
          case measure => have := hq1.out; have := hgk.out; omega
          case rel =>
            refine ⟨i + 1, by omega, by go_num, hid (by have := hq1.out; omega), ?_⟩
            rw [toutTo_succ, ← hX.out, ← hY.out]
            exact hS
    · obtain rfl : i = 5 := by omega
      have hl5 : (ints .u64 (toutTo a b 5)).length = 5 := by rw [ints_length, toutTo_length]
      have hl5' : (ints .u64 (times a b)).length = 5 := by rw [ints_length, times_length]
      have HL := hid hl5
      have HL' := hid hl5'
      clear hl5 hl5' hi hlt
      go_wp2_with (first
        | (refine load_blk rfl 178 _ rfl (w.heap.size + 1 + 1 + 1) rfl 178 _ hS.s 5 93 arr73 HL.out info73 ?_)
        | (go_at_call 127; refine (carry_calls (toutTo a b 5) _ (toutTo_length _ _ _)).mono ?_; rintro e wx ⟨rfl, hb⟩)
        | (refine store_blk rfl 178 _ _ rfl (w.heap.size + 1 + 1) _ rfl rfl 178 _ (hS.r.belowAll hb) 5 info73 HL'.out (by simp) (ints_one _ _) ?_))
      refine bodyPost_ret (results_blk rfl _ _ (w.heap.size + 1 + 1) 178 _ 5 93 rfl ((hS.r.belowAll hb).setRow _) arr73 HL'.out info73) rfl ?_
      exact ⟨rfl, below_setRow (below_then hS.below (by have := hS.s.lt; omega) hb) (by omega) _⟩
end Go.Proofs.YtckcdngnkpfcfaaDoor
/- A tag's arithmetic: bytes as parts. -/
namespace Go.Proofs.YtckcdngnkpfcfaaDoor
open Go.RowKit Go.Cour
attribute [local go_sem] max2_int min2_int
/-- Bit i of bytes, where it stands in its part. -/
def pbit (b : List Int) (i : Nat) : Int := u64 (u64 (bits .and .u8 (rd b (i / 8) / 2 ^ (i % 8)) 1) * 2 ^ (i - 26 * min (i / 26) 4))
def partsTo (b : List Int) (n : Nat) : List Int := (List.range n).foldl (fun s i => s.set (min (i / 26) 4) (bits .or .u64 (rd s (min (i / 26) 4)) (pbit b i))) (List.replicate 5 0)
def parts (b : List Int) : List Int := partsTo b 136
theorem partsTo_succ (b : List Int) (n : Nat) : partsTo b (n + 1) = (partsTo b n).set (min (n / 26) 4) (bits .or .u64 (rd (partsTo b n) (min (n / 26) 4)) (pbit b n)) := foldl_succ' _ _ _
theorem partsTo_zero (b : List Int) : partsTo b 0 = List.replicate 5 0 := rfl
theorem partsTo_length (b : List Int) : ∀ n, (partsTo b n).length = 5
  | 0 => by simp [partsTo_zero]
  | n + 1 => by rw [partsTo_succ, List.length_set]; exact partsTo_length b n
theorem pbit_eq (b : List Int) (i m d r s : Nat) (hm : m = min (i / 26) 4) (hd : d = i / 8) (hr : r = i % 8) (hs : i = 26 * m + s) :
    pbit b i = u64 (u64 (bits .and .u8 (rd b d / 2 ^ r) 1) * 2 ^ s) := by
  have e : i - 26 * min (i / 26) 4 = s := by omega
  rw [pbit, e, ← hd, ← hr]
/-- What the blocks of a call of parts hold. -/
structure PS (w wr : World) (b s : List Int) : Prop where
  b : Blk wr w.heap.size 175 (ints .u8 b)
  r : Blk wr (w.heap.size + 1) 178 (ints .u64 (List.replicate 5 0))
  s : Blk wr (w.heap.size + 1 + 1) 178 (ints .u64 s)
  below : Below w.heap.size w wr
theorem PS.set {w wr : World} {b s : List Int} (h : PS w wr b s) (i : Nat) (x : Int) : PS w (wr.setCell ⟨w.heap.size + 1 + 1, i, none⟩ (.int .u64 x)).drew b (s.set i x) :=
  ⟨(h.b.setOther (by simp; try omega) _).drew, (h.r.setOther (by simp; try omega) _).drew, (h.s.setI i x).drew, (h.below.setCell (by simp; try omega) _).drew⟩
set_option maxHeartbeats 4000000 in
set_option maxRecDepth 100000 in
theorem parts_calls (b : List Int) (w : World) (hb : b.length = 17) :
    Calls Tryd.prog 124 #[.agg (ints .u8 b).toArray] w fun e w' => e = .returned (.agg (ints .u64 (parts b)).toArray) ∧ Below w.heap.size w w' := by
  have HB := hid hb
  clear hb
  go_enter Tryd.func124, Tryd.ntmps124
  go_wp2_with fail
  go_loopg [5] 136 (fun kq v5 wr => ∃ i : Nat, i ≤ 136 ∧ v5 = .int .i64 i ∧ Hd (kq + i = 136) ∧ PS w wr b (partsTo b i))
  case atStart =>
    refine ⟨0, by omega, rfl, hid rfl, ?_, ?_, ?_, ?_⟩
    · exact ((Blk.new w 175 (ints .u8 b)).alloc _).alloc _
    · exact (Blk.new' (w.alloc _) 178 (ints .u64 (List.replicate 5 0)) _ (by simp)).alloc _
    · exact Blk.new' ((w.alloc _).alloc _) 178 (ints .u64 (List.replicate 5 0)) _ (by simp)
    · exact (((Below.refl _ _).alloc (Nat.le_refl _) _).alloc (by simp) _).alloc (by simp; omega) _
  case round =>
    obtain ⟨i, hi, rfl, hq, hS⟩ := hrel
    by_cases hlt : i < 136
    · obtain ⟨m, hm, hm5⟩ : ∃ m : Nat, Hd (m = min (i / 26) 4) ∧ m < 5 := ⟨_, hid rfl, by omega⟩
      obtain ⟨q, hq26⟩ : ∃ q : Nat, Hd (q = i / 26) := ⟨_, hid rfl⟩
      obtain ⟨d, hd, hd17⟩ : ∃ d : Nat, Hd (d = i / 8) ∧ d < 17 := ⟨_, hid rfl, by omega⟩
      obtain ⟨r, hr, hr8⟩ : ∃ r : Nat, Hd (r = i % 8) ∧ r < 8 := ⟨_, hid rfl, by omega⟩
      obtain ⟨s, hs, hs64⟩ : ∃ s : Nat, Hd (i = 26 * m + s) ∧ s < 64 := ⟨i - 26 * m, hid (by have := hm.out; omega), by have := hm.out; omega⟩
      have cb := hS.b.cellI d (by have := HB.out; omega)
      have cs := hS.s.cellI m (by rw [partsTo_length]; exact hm5)
      have fs := hS.s.frozen m
      have he : Hd (partsTo b (i + 1) = (partsTo b i).set m (bits .or .u64 (rd (partsTo b i) m) (u64 (u64 (bits .and .u8 (rd b d / 2 ^ r) 1) * 2 ^ s)))) := hid (by
        rw [partsTo_succ, ← hm.out, pbit_eq b i m d r s hm.out hd.out hr.out hs.out])
      obtain ⟨Y, hY⟩ : ∃ Y, Hd (Y = partsTo b i) := ⟨_, hid rfl⟩
      rw [← hY.out] at hS cs he
      go_wp2_with fail
      have a1 : IntKind.i64.wrap ((i : Int) / 26) = (q : Int) := by
        have := hq26.out
        rw [IntWalk.i64_in _ (by omega)]
        omega
      have a2 : (if (4 : Int) < (q : Int) then (4 : Int) else (q : Int)) = (m : Int) := by
        have := hq26.out
        have := hm.out
        split <;> omega
      have a3 : IntKind.i64.wrap ((i : Int) / 8) = (d : Int) := by
        have := hd.out
        rw [IntWalk.i64_in _ (by omega)]
        omega
      have a4 : (i : Int).tmod 8 = (r : Int) := by
        have := hr.out
        rw [Int.tmod_eq_emod_of_nonneg (by omega)]
        omega
      have a5 : IntKind.i64.wrap (26 * (m : Int)) = 26 * (m : Int) := IntWalk.i64_in _ (by omega)
      have a6 : IntKind.i64.wrap ((i : Int) - 26 * (m : Int)) = (s : Int) := by
        have := hs.out
        rw [IntWalk.i64_in _ (by omega)]
        omega
      have a7 : (s : Int) ≤ 64 := by omega
      have a8 : (r : Int) ≤ 8 := by omega
      have a9 : (m : Int) < 5 := by omega
      have a10 : (d : Int) < 17 := by omega
      refine wp_region_still_tail 23 (by kernel_rfl) (by kernel_rfl) ?_
      simp only [List.take_succ_cons, List.take_zero, List.drop_succ_cons, List.drop_zero]
      change wpStill _ _ (World.drew _) (fun a' => wpList _ _ _ _ a' (World.drew _)) _ _
      repeat still_step
      refine wpStill_nil ?_
      change wpList _ _ _ _ _ _
      clear a1 a2 a3 a4 a5 a6 a7 a8 a9 a10
      go_wp2_with fail
      go_roundg (gk - 1)
      case measure => have := hq.out; omega
      case rel =>
        refine ⟨i + 1, by omega, by go_num, hid (by have := hq.out; omega), ?_⟩
        rw [he.out]
        exact hS.set m _
    · obtain rfl : i = 136 := by omega
      have hl5 : (ints .u64 (partsTo b 136)).length = 5 := by rw [ints_length, partsTo_length]
      have HL := hid hl5
      clear hl5 hi hlt
      go_wp2_with (first
        | (refine load_blk rfl 178 _ rfl (w.heap.size + 1 + 1) rfl 178 _ hS.s 5 93 arr73 HL.out info73 ?_)
        | (refine store_blk rfl 178 _ _ rfl (w.heap.size + 1) _ rfl rfl 178 _ hS.r 5 info73 HL.out (by simp) (ints_one _ _) ?_))
      refine bodyPost_ret (results_blk rfl _ _ (w.heap.size + 1) 178 _ 5 93 rfl (hS.r.setRow _) arr73 HL.out info73) rfl ?_
      exact ⟨rfl, below_setRow hS.below (by omega) _⟩
end Go.Proofs.YtckcdngnkpfcfaaDoor
/- A tag's arithmetic: the least 128 bits of a number below the modulus. -/
namespace Go.Proofs.YtckcdngnkpfcfaaDoor
open Go.RowKit Go.Cour
def more5 (a : List Int) : List Int × Int := carryTo (a.set 0 (u64 (rd a 0 + 5))) 5
def lowA (a : List Int) : List Int := if 0 < (more5 (carryN a 2)).2 then (more5 (carryN a 2)).1 else carryN a 2
def lowL (x : List Int) : Int := bits .or .u64 (bits .or .u64 (rd x 0) (u64 (rd x 1 * 67108864))) (u64 (rd x 2 * 4503599627370496))
def lowH (x : List Int) : Int := bits .or .u64 (bits .or .u64 (rd x 2 / 4096) (u64 (rd x 3 * 16384))) (u64 (rd x 4 * 1099511627776))
/-- What the blocks of a call of low hold. -/
structure LS (w wr : World) (H : Nat) (a m : List Int) : Prop where
  a : Blk wr w.heap.size 178 (ints .u64 a)
  m : Blk wr H 178 (ints .u64 m)
  below : Below w.heap.size w wr
  lt : w.heap.size < H
theorem LS.set {w wr : World} {H : Nat} {a m : List Int} (h : LS w wr H a m) (i : Nat) (x : Int) : LS w (wr.setCell ⟨H, i, none⟩ (.int .u64 x)) H a (m.set i x) :=
  ⟨h.a.setOther (by have := h.lt; simp; try omega) _, h.m.setI i x, h.below.setCell (by have := h.lt; simp; try omega) _, h.lt⟩
/-- The world when the second copy is laid. -/
def lowW (w wx : World) (C : List Int) : World := ((wx.setRow w.heap.size (ints .u64 C).toArray).alloc (.cells #[.int .u64 0, .int .u64 0, .int .u64 0, .int .u64 0, .int .u64 0] 178)).setRow wx.heap.size (ints .u64 C).toArray
theorem LS.start {w wx : World} {a C : List Int} (hb : Below (w.alloc (.cells (ints .u64 a).toArray 178)).heap.size (w.alloc (.cells (ints .u64 a).toArray 178)) wx) : LS w (lowW w wx C) wx.heap.size C C := by
  have h0 : Blk (w.alloc (.cells (ints .u64 a).toArray 178)) w.heap.size 178 (ints .u64 a) := Blk.new w 178 _
  have hs := hb.size
  simp at hs
  refine ⟨?_, ?_, ?_, by omega⟩
  · exact (((h0.belowAll hb).setRow _).alloc _).setRowOther (by omega) _
  · exact (Blk.new' (wx.setRow w.heap.size (ints .u64 C).toArray) 178 (ints .u64 (List.replicate 5 0)) _ (by simp)).setRow _
  · refine below_setRow ((below_setRow (below_then (((Below.refl _ _).alloc (Nat.le_refl _) _)) (by simp) hb) (Nat.le_refl _) _).alloc (by simp; omega) _) (by omega) _
theorem LS.cell0 {w wx : World} {a : List Int} (C : List Int) (hb : Below (w.alloc (.cells (ints .u64 a).toArray 178)).heap.size (w.alloc (.cells (ints .u64 a).toArray 178)) wx) (hC : C.length = 5) :
    (((wx.setRow w.heap.size (ints .u64 C).toArray).alloc (.cells #[.int .u64 0, .int .u64 0, .int .u64 0, .int .u64 0, .int .u64 0] 178)).setRow wx.heap.size (ints .u64 C).toArray).cell? ⟨wx.heap.size, 0, none⟩ = some (.int .u64 (rd C 0)) := (LS.start hb (C := C)).m.cellI 0 (by omega)
theorem LS.frozen0 {w wx : World} {a : List Int} (C : List Int) (hb : Below (w.alloc (.cells (ints .u64 a).toArray 178)).heap.size (w.alloc (.cells (ints .u64 a).toArray 178)) wx) :
    (((wx.setRow w.heap.size (ints .u64 C).toArray).alloc (.cells #[.int .u64 0, .int .u64 0, .int .u64 0, .int .u64 0, .int .u64 0] 178)).setRow wx.heap.size (ints .u64 C).toArray).frozen? ⟨wx.heap.size, 0, none⟩ = false := (LS.start hb (C := C)).m.frozen 0
set_option maxHeartbeats 4000000 in
set_option maxRecDepth 100000 in
theorem low_calls (a : List Int) (w : World) (ha : a.length = 5) :
    Calls Tryd.prog 126 #[.agg (ints .u64 a).toArray] w fun e w' => e = .returned (.tuple #[.int .u64 (lowL (lowA a)), .int .u64 (lowH (lowA a))]) ∧ Below w.heap.size w w' := by
  have HA := hid ha
  have hl5 : (ints .u64 a).length = 5 := by rw [ints_length]; exact ha
  have HL := hid hl5
  clear ha hl5
  have hb0 : Blk (w.alloc (.cells (ints .u64 a).toArray 178)) w.heap.size 178 (ints .u64 a) := Blk.new w 178 _
  obtain ⟨C, hC⟩ : ∃ C, Hd (C = carryN a 2) := ⟨_, hid rfl⟩
  have HC : Hd ((ints .u64 C).length = 5) := hid (by rw [ints_length, hC.out, carryN_length]; exact HA.out)
  have hC5 : Hd (C.length = 5) := hid (by rw [hC.out, carryN_length]; exact HA.out)
  go_enter Tryd.func126, Tryd.ntmps126
  go_wp2_with (first
    | (refine load_blk rfl 178 (.tmp 1) rfl w.heap.size rfl 178 _ hb0 5 93 arr73 HL.out info73 ?_)
    | (go_at_call 127; refine (carry_calls a _ HA.out).mono ?_; rintro e wx ⟨rfl, hb⟩; rw [← hC.out])
    | (refine store_blk rfl 178 (.tmp 1) (.tmp 8) rfl w.heap.size _ rfl rfl 178 _ (hb0.belowAll hb) 5 info73 HC.out HL.out (ints_one _ _) ?_)
    | (refine load_blk rfl 178 (.tmp 1) rfl w.heap.size rfl 178 _ ((hb0.belowAll hb).setRow (ints .u64 C)) 5 93 arr73 HC.out info73 ?_)
    | (refine store_blk rfl 178 (.tmp 4) (.tmp 9) rfl _ _ rfl rfl 178 _ (Blk.new' _ _ (ints .u64 (List.replicate 5 0)) _ (by simp)) 5 info73 HC.out (by simp) (ints_one _ _) ?_; have c0 := LS.cell0 C hb hC5.out; have f0 := LS.frozen0 C hb)
    | fail)
  have hS := (LS.start hb (C := C)).set 0 (u64 (rd C 0 + 5))
  unfold lowW at hS
  clear c0 f0 hb hb0 HL
  obtain ⟨M, hM⟩ : ∃ M, Hd (M = C.set 0 (u64 (rd C 0 + 5))) := ⟨_, hid rfl⟩
  have hMl : Hd (M.length = 5) := hid (by rw [hM.out, List.length_set]; exact hC5.out)
  rw [← hM.out] at hS
  obtain ⟨H, hH⟩ : ∃ H, H = wx.heap.size := ⟨_, rfl⟩
  rw [← hH] at hS ⊢
  clear hH
  go_loopg [5, 14] 5 (fun kq v5 v14 wr => ∃ j : Nat, j ≤ 5 ∧ v14 = .int .i64 j ∧ v5 = .int .u64 (carryTo M j).2 ∧ Hd (kq + j = 5) ∧ LS w wr H C (carryTo M j).1)
  case atStart => exact ⟨0, by omega, rfl, rfl, hid rfl, hS⟩
  case round =>
    clear hS
    obtain ⟨j, hj, rfl, rfl, hq2, hS⟩ := hrel
    obtain ⟨Y, o, hY⟩ : ∃ Y o, Hd ((carryTo M j) = (Y, o)) := ⟨_, _, hid rfl⟩
    rw [hY.out] at hS ⊢
    dsimp only at hS ⊢
    have hYl : Y.length = 5 := by have := carryTo_length M j; rw [hY.out] at this; rw [← hMl.out]; exact this
    by_cases hjlt : j < 5
    · have cj := hS.m.cellI j (by omega)
      have fj := hS.m.frozen j
      have cj2 := (hS.set j (u64 (rd Y j + o))).m.cellI j (by simp; omega)
      have fj2 := (hS.set j (u64 (rd Y j + o))).m.frozen j
      rw [rd_set', if_pos ⟨rfl, by omega⟩] at cj2
      have HYl := hid hYl
      clear hYl
      go_wp2_with fail
      go_roundg (gk - 1)
      case measure => have := hq2.out; omega
      case rel =>
        refine ⟨j + 1, by omega, by go_num, ?_, hid (by have := hq2.out; omega), ?_⟩
        · rw [carryTo_succ, hY.out]; rfl
        · rw [carryTo_succ, hY.out]; exact (hS.set j _).set j _
    · obtain rfl : j = 5 := by omega
      have HYl : Hd ((ints .u64 Y).length = 5) := hid (by rw [ints_length]; exact hYl)
      have hY5 := hid hYl
      clear hYl hjlt hj
      have hlow : Hd (lowA a = if 0 < o then Y else C) := hid (by
        rw [lowA, more5, ← hC.out, ← hM.out, hY.out])
      by_cases ho : 0 < o
      · have c0 := (hS.a.setRow (ints .u64 Y)).cellI 0 (by have := hY5.out; omega)
        have c1 := (hS.a.setRow (ints .u64 Y)).cellI 1 (by have := hY5.out; omega)
        have c2 := (hS.a.setRow (ints .u64 Y)).cellI 2 (by have := hY5.out; omega)
        have c3 := (hS.a.setRow (ints .u64 Y)).cellI 3 (by have := hY5.out; omega)
        have c4 := (hS.a.setRow (ints .u64 Y)).cellI 4 (by have := hY5.out; omega)
        have hcl : Hd (lowA a = Y) := hid (by rw [hlow.out, if_pos ho])
        go_wp2_with (first
          | (refine load_blk rfl 178 (.tmp 4) rfl H rfl 178 _ hS.m 5 93 arr73 HYl.out info73 ?_)
          | (refine store_blk rfl 178 (.tmp 1) (.tmp 35) rfl w.heap.size _ rfl rfl 178 _ hS.a 5 info73 HYl.out HC.out (ints_one _ _) ?_)
          | fail)
        go_quiet (fail)
        go_wp2_with fail
        go_ret2
        rw [hcl.out]
        exact ⟨rfl, below_drewN (below_setRow hS.below (Nat.le_refl _) _) _⟩
      · have c0 := hS.a.cellI 0 (by have := hC5.out; omega)
        have c1 := hS.a.cellI 1 (by have := hC5.out; omega)
        have c2 := hS.a.cellI 2 (by have := hC5.out; omega)
        have c3 := hS.a.cellI 3 (by have := hC5.out; omega)
        have c4 := hS.a.cellI 4 (by have := hC5.out; omega)
        have hcl : Hd (lowA a = C) := hid (by rw [hlow.out, if_neg ho])
        go_wp2_with fail
        go_quiet (fail)
        go_wp2_with fail
        go_ret2
        rw [hcl.out]
        exact ⟨rfl, below_drewN hS.below _⟩
end Go.Proofs.YtckcdngnkpfcfaaDoor
/- A tag of bytes, by a key that is used once. -/
namespace Go.Proofs.YtckcdngnkpfcfaaDoor
open Go.RowKit Go.Cour
attribute [local go_sem] max2_int min2_int
def clampA (s : List Int) (n : Nat) : List Int := (List.range n).foldl (fun s i => s.set (4 * i + 3) (bits .and .u8 (rd s (4 * i + 3)) 15)) s
def clampB (s : List Int) (n : Nat) : List Int := (List.range n).foldl (fun s i => s.set (4 * i + 4) (bits .and .u8 (rd s (4 * i + 4)) 252)) s
def rbytes (key : List Int) : List Int := clampB (clampA (key.take 16 ++ [0]) 4) 3
theorem clampA_succ (s : List Int) (n : Nat) : clampA s (n + 1) = (clampA s n).set (4 * n + 3) (bits .and .u8 (rd (clampA s n) (4 * n + 3)) 15) := foldl_succ' _ _ _
theorem clampB_succ (s : List Int) (n : Nat) : clampB s (n + 1) = (clampB s n).set (4 * n + 4) (bits .and .u8 (rd (clampB s n) (4 * n + 4)) 252) := foldl_succ' _ _ _
theorem clampA_length (s : List Int) : ∀ n, (clampA s n).length = s.length
  | 0 => rfl
  | n + 1 => by rw [clampA_succ, List.length_set]; exact clampA_length s n
theorem clampB_length (s : List Int) : ∀ n, (clampB s n).length = s.length
  | 0 => rfl
  | n + 1 => by rw [clampB_succ, List.length_set]; exact clampB_length s n
theorem info69 : (Tryd.prog.info? 175).map (·.size) = some 17 := by kernel_rfl
theorem arr69 : Tryd.prog.underlying 175 = some (.array 17 5) := by kernel_rfl
theorem info46 : (Tryd.prog.info? 136).map (·.size) = some 16 := by kernel_rfl
theorem arr46 : Tryd.prog.underlying 136 = some (.array 16 5) := by kernel_rfl
theorem sizeU8 : (Tryd.prog.info? 5).map (·.size) = some 1 := by kernel_rfl
theorem undBytesP : Tryd.prog.underlying 24 = some (.slice 5) := by kernel_rfl
theorem ix4 (i p : Nat) (h : i < 4) (hp : p = 4 * i + 3) (w : World) : (Instr.index 176 (.agg #[.int .i64 3, .int .i64 7, .int .i64 11, .int .i64 15]) (.int .i64 i)).run Tryd.prog w = .ok (.int .i64 p) w := by
  have h0 : (Instr.index 176 (.agg #[.int .i64 3, .int .i64 7, .int .i64 11, .int .i64 15]) (.int .i64 (0 : Nat))).run Tryd.prog w = .ok (.int .i64 (3 : Nat)) w := by kernel_rfl
  have h1 : (Instr.index 176 (.agg #[.int .i64 3, .int .i64 7, .int .i64 11, .int .i64 15]) (.int .i64 (1 : Nat))).run Tryd.prog w = .ok (.int .i64 (7 : Nat)) w := by kernel_rfl
  have h2 : (Instr.index 176 (.agg #[.int .i64 3, .int .i64 7, .int .i64 11, .int .i64 15]) (.int .i64 (2 : Nat))).run Tryd.prog w = .ok (.int .i64 (11 : Nat)) w := by kernel_rfl
  have h3 : (Instr.index 176 (.agg #[.int .i64 3, .int .i64 7, .int .i64 11, .int .i64 15]) (.int .i64 (3 : Nat))).run Tryd.prog w = .ok (.int .i64 (15 : Nat)) w := by kernel_rfl
  subst hp
  have h4 : i = 0 ∨ i = 1 ∨ i = 2 ∨ i = 3 := by omega
  rcases h4 with rfl | rfl | rfl | rfl
  · exact h0
  · exact h1
  · exact h2
  · exact h3
theorem ix3 (i p : Nat) (h : i < 3) (hp : p = 4 * i + 4) (w : World) : (Instr.index 177 (.agg #[.int .i64 4, .int .i64 8, .int .i64 12]) (.int .i64 i)).run Tryd.prog w = .ok (.int .i64 p) w := by
  have h0 : (Instr.index 177 (.agg #[.int .i64 4, .int .i64 8, .int .i64 12]) (.int .i64 (0 : Nat))).run Tryd.prog w = .ok (.int .i64 (4 : Nat)) w := by kernel_rfl
  have h1 : (Instr.index 177 (.agg #[.int .i64 4, .int .i64 8, .int .i64 12]) (.int .i64 (1 : Nat))).run Tryd.prog w = .ok (.int .i64 (8 : Nat)) w := by kernel_rfl
  have h2 : (Instr.index 177 (.agg #[.int .i64 4, .int .i64 8, .int .i64 12]) (.int .i64 (2 : Nat))).run Tryd.prog w = .ok (.int .i64 (12 : Nat)) w := by kernel_rfl
  subst hp
  have h4 : i = 0 ∨ i = 1 ∨ i = 2 := by omega
  rcases h4 with rfl | rfl | rfl
  · exact h0
  · exact h1
  · exact h2
/-- An element of an array value. -/
theorem ix5 (xs : List Int) (i : Nat) (h : i < 5) (hx : xs.length = 5) (w : World) : (Instr.index 178 (.agg (ints .u64 xs).toArray) (.int .i64 i)).run Tryd.prog w = .ok (.int .u64 (rd xs i)) w := by
  match xs, hx with
  | [x0, x1, x2, x3, x4], _ =>
    have h0 : (Instr.index 178 (.agg (ints .u64 [x0, x1, x2, x3, x4]).toArray) (.int .i64 (0 : Nat))).run Tryd.prog w = .ok (.int .u64 (rd [x0, x1, x2, x3, x4] 0)) w := by kernel_rfl
    have h1 : (Instr.index 178 (.agg (ints .u64 [x0, x1, x2, x3, x4]).toArray) (.int .i64 (1 : Nat))).run Tryd.prog w = .ok (.int .u64 (rd [x0, x1, x2, x3, x4] 1)) w := by kernel_rfl
    have h2 : (Instr.index 178 (.agg (ints .u64 [x0, x1, x2, x3, x4]).toArray) (.int .i64 (2 : Nat))).run Tryd.prog w = .ok (.int .u64 (rd [x0, x1, x2, x3, x4] 2)) w := by kernel_rfl
    have h3 : (Instr.index 178 (.agg (ints .u64 [x0, x1, x2, x3, x4]).toArray) (.int .i64 (3 : Nat))).run Tryd.prog w = .ok (.int .u64 (rd [x0, x1, x2, x3, x4] 3)) w := by kernel_rfl
    have h4 : (Instr.index 178 (.agg (ints .u64 [x0, x1, x2, x3, x4]).toArray) (.int .i64 (4 : Nat))).run Tryd.prog w = .ok (.int .u64 (rd [x0, x1, x2, x3, x4] 4)) w := by kernel_rfl
    have hh : i = 0 ∨ i = 1 ∨ i = 2 ∨ i = 3 ∨ i = 4 := by omega
    rcases hh with rfl | rfl | rfl | rfl | rfl
    · exact h0
    · exact h1
    · exact h2
    · exact h3
    · exact h4
/-- What the blocks of a call of Sum hold: the key, the tag, r. -/
structure SS (w wr : World) (key r : List Int) : Prop where
  k : Blk wr w.heap.size 27 (ints .u8 key)
  t : Blk wr (w.heap.size + 1) 136 (ints .u8 (List.replicate 16 0))
  r : Blk wr (w.heap.size + 1 + 1) 175 (ints .u8 r)
  below : Below w.heap.size w wr
  size : w.heap.size + 1 + 1 < wr.heap.size
theorem SS.set {w wr : World} {key r : List Int} (h : SS w wr key r) (i : Nat) (x : Int) : SS w (wr.setCell ⟨w.heap.size + 1 + 1, i, none⟩ (.int .u8 x)) key (r.set i x) :=
  ⟨h.k.setOther (by simp; try omega) _, h.t.setOther (by simp; try omega) _, h.r.setI i x, h.below.setCell (by simp; try omega) _, by simpa [World.setCell] using h.size⟩
theorem SS.row {w wr : World} {key r : List Int} (h : SS w wr key r) (r' : List Int) : SS w (wr.setRow (w.heap.size + 1 + 1) (ints .u8 r').toArray) key r' :=
  ⟨h.k.setRowOther (by omega) _, h.t.setRowOther (by omega) _, h.r.setRow _, below_setRow h.below (by omega) _, by simpa using h.size⟩
theorem SS.drew {w wr : World} {key r : List Int} (h : SS w wr key r) : SS w wr.drew key r := ⟨h.k.drew, h.t.drew, h.r.drew, h.below.drew, h.size⟩
theorem rcopy_eq (key : List Int) : (key.take 16).take 16 ++ (List.replicate 17 (0 : Int)).drop 16 = key.take 16 ++ [0] := by
  rw [List.take_take]; rfl
/-- One block of bytes, with its one behind. -/
def blockOf (ys : List Int) : List Int := (ys.take (min ys.length 16) ++ (List.replicate 17 0).drop (min ys.length 16)).set (min ys.length 16) 1
theorem blockOf_length (ys : List Int) : (blockOf ys).length = 17 := by simp [blockOf]; omega
def addTo (s p : List Int) (n : Nat) : List Int := (List.range n).foldl (fun s i => s.set i (u64 (rd s i + rd p i))) s
def absorb (s p ys : List Int) : List Int := times (addTo s (parts (blockOf ys)) 5) p
def sumTo (p bs : List Int) (n : Nat) : List Int := (List.range n).foldl (fun s j => absorb s p (bs.drop (16 * j))) (List.replicate 5 0)
theorem addTo_succ (s p : List Int) (n : Nat) : addTo s p (n + 1) = (addTo s p n).set n (u64 (rd (addTo s p n) n + rd p n)) := foldl_succ' _ _ _
theorem addTo_zero (s p : List Int) : addTo s p 0 = s := rfl
theorem addTo_length (s p : List Int) : ∀ n, (addTo s p n).length = s.length
  | 0 => rfl
  | n + 1 => by rw [addTo_succ, List.length_set]; exact addTo_length s p n
theorem sumTo_succ (p bs : List Int) (n : Nat) : sumTo p bs (n + 1) = absorb (sumTo p bs n) p (bs.drop (16 * n)) := foldl_succ' _ _ _
theorem sumTo_zero (p bs : List Int) : sumTo p bs 0 = List.replicate 5 0 := rfl
theorem sumTo_length (p bs : List Int) : ∀ n, (sumTo p bs n).length = 5
  | 0 => by simp [sumTo_zero]
  | n + 1 => by rw [sumTo_succ]; exact times_length _ _
def sumOf (p bs : List Int) : List Int := sumTo p bs ((bs.length + 15) / 16)
def halfOf (l h : Int) (i : Nat) : Int := if 8 ≤ i then h else l
def ostep (l h : Int) (key : List Int) (s : List Int × Int) (i : Nat) : List Int × Int :=
  (s.1.set i (u64 (u64 (bits .and .u64 (halfOf l h i / 2 ^ (8 * (i % 8))) 255 + u64 (rd key (16 + i))) + s.2) % 256),
   u64 (u64 (bits .and .u64 (halfOf l h i / 2 ^ (8 * (i % 8))) 255 + u64 (rd key (16 + i))) + s.2) / 256)
def outS (l h : Int) (key : List Int) (n : Nat) : List Int × Int := (List.range n).foldl (ostep l h key) (List.replicate 16 0, 0)
theorem outS_succ (l h : Int) (key : List Int) (n : Nat) : outS l h key (n + 1) = ostep l h key (outS l h key n) n := foldl_succ' _ _ _
theorem outS_zero (l h : Int) (key : List Int) : outS l h key 0 = (List.replicate 16 0, 0) := rfl
theorem outS_length (l h : Int) (key : List Int) : ∀ n, (outS l h key n).1.length = 16
  | 0 => by simp [outS_zero]
  | n + 1 => by rw [outS_succ]; simp only [ostep, List.length_set]; exact outS_length l h key n
/-- The tag of bytes. -/
def polySum (key bs : List Int) : List Int :=
  (outS (lowL (lowA (sumOf (parts (rbytes key)) bs))) (lowH (lowA (sumOf (parts (rbytes key)) bs))) key 16).1
theorem polySum_length (key bs : List Int) : (polySum key bs).length = 16 := outS_length _ _ _ _
/-- What they hold while the tag is laid. -/
structure SO (w wr : World) (H : Nat) (key out : List Int) : Prop where
  k : Blk wr w.heap.size 27 (ints .u8 key)
  t : Blk wr (w.heap.size + 1) 136 (ints .u8 (List.replicate 16 0))
  o : Blk wr H 136 (ints .u8 out)
  below : Below w.heap.size w wr
  lt : w.heap.size + 1 < H
theorem SO.set {w wr : World} {H : Nat} {key out : List Int} (h : SO w wr H key out) (i : Nat) (x : Int) : SO w (wr.setCell ⟨H, i, none⟩ (.int .u8 x)) H key (out.set i x) := by
  have h2 := h.lt
  exact ⟨h.k.setOther (by simp; omega) _, h.t.setOther (by simp; omega) _, h.o.setI i x, h.below.setCell (by simp; omega) _, h2⟩
theorem SO.drewN {w wr : World} {H : Nat} {key out : List Int} (h : SO w wr H key out) (n : Nat) : SO w (wr.drewN n) H key out :=
  ⟨h.k.drewN n, h.t.drewN n, h.o.drewN n, below_drewN h.below n, h.lt⟩
/-- What they hold while the bytes are taken in. -/
structure SM (w wr : World) (G : Nat) (key p s : List Int) : Prop where
  k : Blk wr w.heap.size 27 (ints .u8 key)
  t : Blk wr (w.heap.size + 1) 136 (ints .u8 (List.replicate 16 0))
  p : Blk wr G 178 (ints .u64 p)
  s : Blk wr (G + 1) 178 (ints .u64 s)
  below : Below w.heap.size w wr
  lt : w.heap.size + 1 + 1 < G
  size : G + 1 < wr.heap.size
theorem SM.start {w wr wx : World} {key Z p : List Int} (h : SS w wr key Z) (hb : Below wr.heap.size wr wx) :
    SM w (((wx.alloc (.cells (ints .u64 (List.replicate 5 0)).toArray 178)).setRow wx.heap.size (ints .u64 p).toArray).alloc (.cells (ints .u64 (List.replicate 5 0)).toArray 178)) wx.heap.size key p (List.replicate 5 0) := by
  have h1 := h.size
  have h2 := hb.size
  refine ⟨?_, ?_, ?_, ?_, ?_, by omega, by simp⟩
  · exact (((h.k.belowAll hb).alloc _).setRowOther (by omega) _).alloc _
  · exact (((h.t.belowAll hb).alloc _).setRowOther (by omega) _).alloc _
  · exact ((Blk.new wx 178 _).setRow _).alloc _
  · exact Blk.new' _ 178 _ _ (by simp)
  · exact (below_setRow ((below_then h.below (by omega) hb).alloc (by omega) _) (by omega) _).alloc (by simp; omega) _
theorem SM.tmp {w wr : World} {G : Nat} {key p s : List Int} (h : SM w wr G key p s) (L : List Int) :
    SM w ((wr.alloc (.cells (ints .u8 (List.replicate 17 0)).toArray 175)).setRow wr.heap.size (ints .u8 L).toArray) G key p s := by
  have h1 := h.size
  have h2 := h.lt
  exact ⟨(h.k.alloc _).setRowOther (by omega) _, (h.t.alloc _).setRowOther (by omega) _, (h.p.alloc _).setRowOther (by omega) _, (h.s.alloc _).setRowOther (by omega) _, below_setRow (h.below.alloc (by omega) _) (by omega) _, h2, by simp; omega⟩
theorem SM.setFar {w wr : World} {G : Nat} {key p s : List Int} (h : SM w wr G key p s) (g i : Nat) (v : Value) (hg : G + 1 < g) : SM w (wr.setCell ⟨g, i, none⟩ v) G key p s := by
  have h2 := h.lt
  exact ⟨h.k.setOther (by simp; omega) _, h.t.setOther (by simp; omega) _, h.p.setOther (by simp; omega) _, h.s.setOther (by simp; omega) _, h.below.setCell (by simp; omega) _, h2, by simpa [World.setCell] using h.size⟩
theorem SM.belowAll {w wr wx : World} {G : Nat} {key p s : List Int} (h : SM w wr G key p s) (hb : Below wr.heap.size wr wx) : SM w wx G key p s := by
  have h2 := h.lt
  have h3 := h.size
  have h4 := hb.size
  exact ⟨h.k.belowAll hb, h.t.belowAll hb, h.p.belowAll hb, h.s.belowAll hb, below_then h.below (by omega) hb, h2, by omega⟩
theorem SM.set {w wr : World} {G : Nat} {key p s : List Int} (h : SM w wr G key p s) (i : Nat) (x : Int) : SM w (wr.setCell ⟨G + 1, i, none⟩ (.int .u64 x)) G key p (s.set i x) := by
  have h2 := h.lt
  exact ⟨h.k.setOther (by simp; omega) _, h.t.setOther (by simp; omega) _, h.p.setOther (by simp) _, h.s.setI i x, h.below.setCell (by simp; omega) _, h2, by simpa [World.setCell] using h.size⟩
theorem SM.row {w wr : World} {G : Nat} {key p s : List Int} (h : SM w wr G key p s) (s' : List Int) : SM w (wr.setRow (G + 1) (ints .u64 s').toArray) G key p s' := by
  have h2 := h.lt
  exact ⟨h.k.setRowOther (by omega) _, h.t.setRowOther (by omega) _, h.p.setRowOther (by omega) _, h.s.setRow _, below_setRow h.below (by omega) _, h2, by simpa using h.size⟩
theorem SO.start {w wr wx : World} {G : Nat} {key p s : List Int} (h : SM w wr G key p s) (hb : Below wr.heap.size wr wx) : SO w (wx.alloc (.cells (ints .u8 (List.replicate 16 0)).toArray 136)) wx.heap.size key (List.replicate 16 0) := by
  have h1 := h.belowAll hb
  have h2 := h1.lt
  have h3 := h1.size
  exact ⟨h1.k.alloc _, h1.t.alloc _, Blk.new wx 136 _, h1.below.alloc (by omega) _, by omega⟩
set_option maxHeartbeats 4000000 in
set_option maxRecDepth 100000 in
theorem sum_calls (key bs : List Int) (A : Option Addr) (n c : Nat) (w : World) (hk : key.length = 32) (hn : n = bs.length) (hc : n ≤ c) (hr : Rd w A .u8 bs) (hl : n ≤ 1000000) :
    Calls Tryd.prog 119 #[.agg (ints .u8 key).toArray, .slice A n c] w fun e w' => e = .returned (.agg (ints .u8 (polySum key bs)).toArray) ∧ Below w.heap.size w w' := by
  have HK := hid hk
  have HN := hid hn
  have HR := hid hr
  clear hk hn hr
  have hb0 : SS w (((w.alloc (.cells (ints .u8 key).toArray 27)).alloc (.cells (ints .u8 (List.replicate 16 0)).toArray 136)).alloc (.cells (ints .u8 (List.replicate 17 0)).toArray 175)) key (List.replicate 17 0) := by
    refine ⟨?_, ?_, ?_, ?_, ?_⟩
    · exact ((Blk.new w 27 (ints .u8 key)).alloc _).alloc _
    · exact (Blk.new' (w.alloc _) 136 (ints .u8 (List.replicate 16 0)) _ (by simp)).alloc _
    · exact Blk.new' ((w.alloc _).alloc _) 175 (ints .u8 (List.replicate 17 0)) _ (by simp)
    · exact (((Below.refl _ _).alloc (Nat.le_refl _) _).alloc (by simp) _).alloc (by simp; omega) _
    · simp
  go_enter Tryd.func119, Tryd.ntmps119
  go_wp2_with fail
  refine wp_region_still_tail 2 (by kernel_rfl) (by kernel_rfl) ?_
  simp only [List.take_succ_cons, List.take_zero, List.drop_succ_cons, List.drop_zero]
  change wpStill _ _ (World.drew _) (fun a' => wpList _ _ _ _ a' (World.drew _)) _ _
  repeat still_step
  refine wpStill_nil ?_
  change wpList _ _ _ _ _ _
  refine copy_blk rfl (.tmp 22) (.tmp 23) 24 24 rfl 5 undBytesP sizeU8 (w.heap.size + 1 + 1) 17 17 rfl ⟨w.heap.size, 0, none⟩ 16 32 rfl 175 .u8 (List.replicate 17 0) (key.take 16) 16 hb0.r.drew ((Rd.ofBlk hb0.k).take 16).drew (by have := HK.out; simp; omega) rfl (by simp) ?_
  rw [rcopy_eq]
  have hb1 := hb0.drew.row (key.take 16 ++ [0])
  clear hb0
  obtain ⟨R0, hR0⟩ : ∃ R, Hd (R = key.take 16 ++ [0]) := ⟨_, hid rfl⟩
  have hR0l : Hd (R0.length = 17) := hid (by rw [hR0.out]; have := HK.out; simp; omega)
  rw [← hR0.out] at hb1 ⊢
  go_wp2_with fail
  go_loopg [26] 4 (fun kq v26 wr => ∃ i : Nat, i ≤ 4 ∧ v26 = .int .i64 i ∧ Hd (kq + i = 4) ∧ SS w wr key (clampA R0 i))
  case atStart => exact ⟨0, by omega, rfl, hid rfl, hb1⟩
  case round =>
    clear hb1
    obtain ⟨i, hi, rfl, hq, hS⟩ := hrel
    obtain ⟨Y, hY⟩ : ∃ Y, Hd (Y = clampA R0 i) := ⟨_, hid rfl⟩
    have hYl : Hd (Y.length = 17) := hid (by rw [hY.out, clampA_length]; exact hR0l.out)
    rw [← hY.out] at hS
    by_cases hlt : i < 4
    · obtain ⟨p, hp, hp17⟩ : ∃ p : Nat, Hd (p = 4 * i + 3) ∧ p < 17 := ⟨_, hid rfl, by omega⟩
      have cp := hS.r.cellI p (by have := hYl.out; omega)
      have fp := hS.r.frozen p
      have ix := ix4 i p hlt hp.out
      have a1 : (p : Int) < 17 := by omega
      go_wp2_with fail
      go_roundg (gk - 1)
      case measure => have := hq.out; omega
      case rel =>
        refine ⟨i + 1, by omega, by go_num, hid (by have := hq.out; omega), ?_⟩
        rw [clampA_succ, ← hY.out, ← hp.out]
        exact hS.set p _
    · obtain rfl : i = 4 := by omega
      clear hlt hi
      go_wp2_with fail
      obtain ⟨wo, rfl⟩ : ∃ wo : World, wo = wr := ⟨_, rfl⟩
      go_loopg [36] 3 (fun kq v36 wr => ∃ i : Nat, i ≤ 3 ∧ v36 = .int .i64 i ∧ Hd (kq + i = 3) ∧ SS w wr key (clampB Y i))
      case atStart => exact ⟨0, by omega, rfl, hid rfl, hS⟩
      case round =>
        clear hS
        obtain ⟨i, hi, rfl, hq, hS⟩ := hrel
        obtain ⟨Z, hZ⟩ : ∃ Z, Hd (Z = clampB Y i) := ⟨_, hid rfl⟩
        have hZl : Hd (Z.length = 17) := hid (by rw [hZ.out, clampB_length]; exact hYl.out)
        rw [← hZ.out] at hS
        by_cases hlt : i < 3
        · obtain ⟨p, hp, hp17⟩ : ∃ p : Nat, Hd (p = 4 * i + 4) ∧ p < 17 := ⟨_, hid rfl, by omega⟩
          have cp := hS.r.cellI p (by have := hZl.out; omega)
          have fp := hS.r.frozen p
          have ix := ix3 i p hlt hp.out
          have a1 : (p : Int) < 17 := by omega
          go_wp2_with fail
          go_roundg (gk - 1)
          case measure => have := hq.out; omega
          case rel =>
            refine ⟨i + 1, by omega, by go_num, hid (by have := hq.out; omega), ?_⟩
            rw [clampB_succ, ← hZ.out, ← hp.out]
            exact hS.set p _
        · obtain rfl : i = 3 := by omega
          clear hlt hi
          have hZr : Hd (Z = rbytes key) := hid (by rw [hZ.out, hY.out, hR0.out]; rfl)
          have hZ17 : Hd ((ints .u8 Z).length = 17) := hid (by rw [ints_length]; exact hZl.out)
          have hP5 : Hd ((ints .u64 (parts Z)).length = 5) := hid (by rw [ints_length]; exact partsTo_length _ _)
          go_wp2_with (first
            | (refine load_blk rfl 175 (.tmp 5) rfl (w.heap.size + 1 + 1) rfl 175 _ hS.r 17 5 arr69 hZ17.out info69 ?_)
            | (go_at_call 124; refine (parts_calls Z _ hZl.out).mono ?_; rintro e wx ⟨rfl, hb⟩)
            | (refine store_blk rfl 178 (.tmp 10) (.tmp 46) rfl wx.heap.size _ rfl rfl 178 _ (Blk.new wx 178 (ints .u64 (List.replicate 5 0))) 5 info73 hP5.out (by simp) (ints_one _ _) ?_)
            | fail)
          have hM := SM.start hS hb (p := parts Z)
          clear hS hb hZ17 hP5
          obtain ⟨G, hG⟩ : ∃ H, H = wx.heap.size := ⟨_, rfl⟩
          rw [← hG] at hM ⊢
          clear hG
          obtain ⟨P, hP⟩ : ∃ P, Hd (P = parts Z) := ⟨_, hid rfl⟩
          have hPl : Hd (P.length = 5) := hid (by rw [hP.out]; exact partsTo_length _ _)
          rw [← hP.out] at hM ⊢
          go_loopg [1] (n + 16) (fun kq v1 wr => ∃ (j n' c' : Nat) (A' : Option Addr), v1 = .slice A' n' c' ∧ Hd (kq + 16 * j = n + 16) ∧ n' ≤ n ∧ Hd (n' = n - 16 * j ∧ 16 * j < n + 16) ∧ n' ≤ c' ∧ Hd (Rd w A' .u8 (bs.drop (16 * j))) ∧ SM w wr G key P (sumTo P bs j))
          case atStart => exact ⟨0, n, c, A, rfl, hid rfl, Nat.le_refl _, hid ⟨by omega, by omega⟩, hc, hid HR.out, hM⟩
          case round =>
            clear hM
            obtain ⟨j, n', c', A', rfl, hq, hn', hj, hc', hR, hM⟩ := hrel
            by_cases hlt : 0 < n'
            · have hd1 : decide ((0 : Int) < n') = true := by simp; omega
              obtain ⟨ys, hys⟩ : ∃ ys, Hd (ys = bs.drop (16 * j)) := ⟨_, hid rfl⟩
              have hyl : Hd (ys.length = n') := hid (by rw [hys.out, List.length_drop, ← HN.out]; exact hj.out.1.symm)
              rw [← hys.out] at hR
              obtain ⟨g, o, rfl⟩ := hR.out.at (by rw [hyl.out]; exact hlt)
              obtain ⟨k, hk, hk17⟩ : ∃ k : Nat, Hd (k = min n' 16) ∧ k < 17 := ⟨_, hid rfl, by omega⟩
              have ak : (if (16 : Int) < (n' : Int) then (16 : Int) else (n' : Int)) = (k : Int) := by
                have := hk.out
                split <;> omega
              have ak17 : (k : Int) < 17 := by omega
              obtain ⟨L, hL⟩ : ∃ L, Hd (L = ys.take k ++ (List.replicate 17 (0 : Int)).drop k) := ⟨_, hid rfl⟩
              have hLl : Hd (L.length = 17) := hid (by rw [hL.out]; have := hk.out; have := hyl.out; simp; omega)
              have hLb : Hd (L.set k 1 = blockOf ys) := hid (by rw [hL.out, blockOf, hyl.out, ← hk.out])
              have hL17 : Hd ((ints .u8 (L.set k 1)).length = 17) := hid (by rw [ints_length, List.length_set]; exact hLl.out)
              have hR0 := (Blk.new wr 175 (ints .u8 (List.replicate 17 0)))
              go_wp2_with (first
                | (refine copy_blk rfl (.tmp 55) (.tmp 56) 24 24 rfl 5 undBytesP sizeU8 wr.heap.size 16 17 rfl ⟨g, o, none⟩ n' c' rfl 175 .u8 (List.replicate 17 0) ys k hR0 ((hR.out.below hM.below).alloc _) hyl.out hk.out (by have := hk.out; simp; omega) ?_; rw [← hL.out]; generalize hW : World.setRow _ _ _ = W; have hMW : SM w W G key P (sumTo P bs j) := hW ▸ hM.tmp L; have hxW : Blk W wr.heap.size 175 (ints .u8 L) := hW ▸ hR0.setRow _; clear hW; have cx := hxW.cellI k (by rw [hLl.out]; exact hk17); have fx := hxW.frozen k)
                | (refine load_blk rfl 175 (.tmp 12) rfl wr.heap.size rfl 175 _ (hxW.setI k 1) 17 5 arr69 hL17.out info69 ?_)
                | (go_at_call 124; refine (parts_calls (L.set k 1) _ (by rw [List.length_set]; exact hLl.out)).mono ?_; rintro e wx2 ⟨rfl, hb2⟩)
                | fail)
              have hM2 := (hMW.setFar wr.heap.size k (.int .u8 1) hM.size).belowAll hb2
              clear hM hMW hb2 hxW cx fx hR0 hL17
              obtain ⟨B, hB⟩ : ∃ B, Hd (B = parts (L.set k 1)) := ⟨_, hid rfl⟩
              have hBl : Hd (B.length = 5) := hid (by rw [hB.out]; exact partsTo_length _ _)
              rw [← hB.out]
              obtain ⟨S, hS⟩ : ∃ S, Hd (S = sumTo P bs j) := ⟨_, hid rfl⟩
              have hSl : Hd (S.length = 5) := hid (by rw [hS.out]; exact sumTo_length _ _ _)
              rw [← hS.out] at hM2
              have hSn : Hd (sumTo P bs (j + 1) = times (addTo S B 5) P) := hid (by
                rw [sumTo_succ, ← hS.out, absorb, ← hys.out, ← hLb.out, ← hB.out])
              obtain ⟨gk1, hgk⟩ : ∃ g : Nat, Hd (g = gk) := ⟨gk, hid rfl⟩
              have hq1 : Hd (gk1 + 16 * j = n + 16) := hid (by rw [hgk.out]; exact hq.out)
              obtain ⟨wo2, rfl⟩ : ∃ wo : World, wo = wr := ⟨_, rfl⟩
              go_loopg [61] 5 (fun kq v61 wr => ∃ i : Nat, i ≤ 5 ∧ v61 = .int .i64 i ∧ Hd (kq + i = 5) ∧ SM w wr G key P (addTo S B i))
              case atStart => exact ⟨0, by omega, rfl, hid rfl, by rw [addTo_zero]; exact hM2⟩
              case round =>
                clear hM2
                obtain ⟨i, hi, rfl, hq2, hM⟩ := hrel
                obtain ⟨T, hT⟩ : ∃ T, Hd (T = addTo S B i) := ⟨_, hid rfl⟩
                have hTl : Hd (T.length = 5) := hid (by rw [hT.out, addTo_length]; exact hSl.out)
                rw [← hT.out] at hM
                by_cases hlt5 : i < 5
                · have ci := hM.s.cellI i (by have := hTl.out; omega)
                  have fi := hM.s.frozen i
                  have ix := ix5 B i hlt5 hBl.out
                  have ai : (i : Int) < 5 := by omega
                  go_wp2_with fail
                  go_roundg (gk - 1)
                  case measure => have := hq2.out; omega
                  case rel =>
                    refine ⟨i + 1, by omega, by go_num, hid (by have := hq2.out; omega), ?_⟩
                    rw [addTo_succ, ← hT.out]
                    exact hM.set i _
                · have hi5 : (i : Int) = 5 := by omega
                  rw [hi5]
                  obtain rfl : i = 5 := by omega
                  clear hlt5 hi5 hi
                  have hT5 : Hd ((ints .u64 T).length = 5) := hid (by rw [ints_length]; exact hTl.out)
                  have hP5 : Hd ((ints .u64 P).length = 5) := hid (by rw [ints_length]; exact hPl.out)
                  have hX5 : Hd ((ints .u64 (times T P)).length = 5) := hid (by rw [ints_length]; exact times_length _ _)
                  go_wp2_with (first
                    | (refine load_blk rfl 178 (.tmp 11) rfl (G + 1) rfl 178 _ hM.s 5 93 arr73 hT5.out info73 ?_)
                    | (refine load_blk rfl 178 (.tmp 10) rfl G rfl 178 _ hM.p 5 93 arr73 hP5.out info73 ?_)
                    | (go_at_call 125; refine (times_calls T P _ hTl.out hPl.out).mono ?_; rintro e wx3 ⟨rfl, hb3⟩; have hM3 := hM.belowAll hb3)
                    | (refine store_blk rfl 178 (.tmp 11) (.tmp 74) rfl (G + 1) _ rfl rfl 178 _ hM3.s 5 info73 hX5.out hT5.out (ints_one _ _) ?_)
                    | fail)
                  all_goals
                    go_roundg (gk1 - 16)
                    case measure => have := hq1.out; have := hj.out; have := hgk.out; omega
                    case rel =>
                      have hq1' := hq1.out
                      have hj' := hj.out
                      have hk' := hk.out
                      have hd := hR.out.drop k c' (by rw [hyl.out]; omega) (by rw [hyl.out]; exact hc')
                      have hdr : ys.drop k = bs.drop (16 * (j + 1)) := by
                        rw [hys.out, List.drop_drop]
                        by_cases h16 : n' < 16
                        · rw [List.drop_eq_nil_of_le (by rw [← HN.out]; omega), List.drop_eq_nil_of_le (by rw [← HN.out]; omega)]
                        · rw [show 16 * j + k = 16 * (j + 1) by omega]
                      rw [hdr] at hd
                      refine ⟨j + 1, n' - k, c' - k, _, ?_, hid (by omega), by omega, hid ⟨by omega, by omega⟩, by omega, hid hd, ?_⟩
                      · first
                          | (rw [if_neg (by assumption)]; simp [add_lit]; done)
                          | (rw [if_pos (by assumption)]; simp; done)
                          | (simp [add_lit, *]; done)
                      · rw [hSn.out, ← hT.out]; exact hM3.row _
            · obtain rfl : n' = 0 := by omega
              have hd1 : decide ((0 : Int) < ((0 : Nat) : Int)) = false := by decide
              obtain ⟨S, hS⟩ : ∃ S, Hd (S = sumOf P bs) := ⟨_, hid rfl⟩
              have hSj : Hd (sumTo P bs j = S) := hid (by
                have := hj.out
                rw [hS.out, sumOf, show (bs.length + 15) / 16 = j by rw [← HN.out]; omega])
              have hSl : Hd (S.length = 5) := hid (by rw [← hSj.out]; exact sumTo_length _ _ _)
              have hS5 : Hd ((ints .u64 S).length = 5) := hid (by rw [ints_length]; exact hSl.out)
              rw [hSj.out] at hM
              go_wp2_with (first
                | (refine load_blk rfl 178 (.tmp 11) rfl (G + 1) rfl 178 _ hM.s 5 93 arr73 hS5.out info73 ?_)
                | (go_at_call 126; refine (low_calls S _ hSl.out).mono ?_; rintro e wx2 ⟨rfl, hb2⟩)
                | fail)
              have hO := SO.start hM hb2
              clear hM hb2
              obtain ⟨l, hl_⟩ : ∃ l, Hd (l = lowL (lowA S)) := ⟨_, hid rfl⟩
              obtain ⟨h, hh_⟩ : ∃ h, Hd (h = lowH (lowA S)) := ⟨_, hid rfl⟩
              have hfin : Hd (polySum key bs = (outS l h key 16).1) := hid (by
                rw [polySum, ← hZr.out, ← hP.out, ← hS.out, ← hl_.out, ← hh_.out])
              rw [← hl_.out, ← hh_.out]
              obtain ⟨H, hH⟩ : ∃ H, H = wx2.heap.size := ⟨_, rfl⟩
              rw [← hH] at hO ⊢
              clear hH
              obtain ⟨wo2, rfl⟩ : ∃ wo : World, wo = wr := ⟨_, rfl⟩
              go_loopg [18, 80] 16 (fun kq v18 v80 wr => ∃ i : Nat, i ≤ 16 ∧ v80 = .int .i64 i ∧ v18 = .int .u64 (outS l h key i).2 ∧ Hd (kq + i = 16) ∧ SO w wr H key (outS l h key i).1)
              case atStart => exact ⟨0, by omega, rfl, rfl, hid rfl, hO⟩
              case round =>
                clear hO
                obtain ⟨i, hi, rfl, rfl, hq2, hO⟩ := hrel
                obtain ⟨Yo, ov, hY⟩ : ∃ Y o, Hd (outS l h key i = (Y, o)) := ⟨_, _, hid rfl⟩
                rw [hY.out] at hO ⊢
                dsimp only at hO ⊢
                have hYl : Hd (Yo.length = 16) := hid (by have := outS_length l h key i; rw [hY.out] at this; exact this)
                by_cases hlt16 : i < 16
                · obtain ⟨r, hr, hr8⟩ : ∃ r : Nat, Hd (r = i % 8) ∧ r < 8 := ⟨_, hid rfl, by omega⟩
                  have ck := hO.k.cellI (16 + i) (by have := HK.out; omega)
                  have co := hO.o.cellI i (by have := hYl.out; omega)
                  have fo := hO.o.frozen i
                  have a4 : (i : Int).tmod 8 = (r : Int) := by
                    have := hr.out
                    rw [Int.tmod_eq_emod_of_nonneg (by omega)]
                    omega
                  have a5 : IntKind.i64.wrap (8 * (r : Int)) = 8 * (r : Int) := IntWalk.i64_in _ (by omega)
                  have a8 : 8 * (r : Int) ≤ 64 := by omega
                  have a8' : 0 ≤ 8 * (r : Int) := by omega
                  have a9 : (i : Int) < 16 := by omega
                  have a10 : (16 : Int) + (i : Int) < 32 := by omega
                  have a11 : IntKind.i64.wrap (16 + (i : Int)) = 16 + (i : Int) := IntWalk.i64_in _ (by omega)
                  by_cases h8 : 8 ≤ i
                  · have a12 : (8 : Int) ≤ (i : Int) := by omega
                    have hhalf : Hd (halfOf l h i = h) := hid (if_pos h8)
                    go_wp2_with fail
                    go_quiet (fail)
                    clear a4 a5 a8 a8' a10 a11
                    go_wp2_with fail
                    go_roundg (gk - 1)
                    case measure => have := hq2.out; omega
                    case rel =>
                      refine ⟨i + 1, by omega, by go_num, ?_, hid (by have := hq2.out; omega), ?_⟩
                      · rw [outS_succ, hY.out, ostep, hhalf.out, ← hr.out]; rfl
                      · rw [outS_succ, hY.out, ostep, hhalf.out, ← hr.out]; exact (hO.drewN _).set i _
                  · have a12 : ¬ (8 : Int) ≤ (i : Int) := by omega
                    have hhalf : Hd (halfOf l h i = l) := hid (if_neg h8)
                    go_wp2_with fail
                    go_quiet (fail)
                    clear a4 a5 a8 a8' a10 a11
                    go_wp2_with fail
                    go_roundg (gk - 1)
                    case measure => have := hq2.out; omega
                    case rel =>
                      refine ⟨i + 1, by omega, by go_num, ?_, hid (by have := hq2.out; omega), ?_⟩
                      · rw [outS_succ, hY.out, ostep, hhalf.out, ← hr.out]; rfl
                      · rw [outS_succ, hY.out, ostep, hhalf.out, ← hr.out]; exact (hO.drewN _).set i _
                · obtain rfl : i = 16 := by omega
                  clear hlt16 hi
                  have hl16 : Hd ((ints .u8 Yo).length = 16) := hid (by rw [ints_length]; exact hYl.out)
                  go_wp2_with (first
                    | (refine load_blk rfl 136 (.tmp 17) rfl H rfl 136 _ hO.o 16 5 arr46 hl16.out info46 ?_)
                    | (refine store_blk rfl 136 (.tmp 4) (.tmp 108) rfl (w.heap.size + 1) _ rfl rfl 136 _ hO.t 16 info46 hl16.out (by simp) (ints_one _ _) ?_)
                    | fail)
                  refine bodyPost_ret (results_blk rfl _ _ (w.heap.size + 1) 136 _ 16 5 rfl (hO.t.setRow _) arr46 hl16.out info46) rfl ?_
                  exact ⟨by rw [hfin.out, hY.out], below_setRow hO.below (by omega) _⟩
end Go.Proofs.YtckcdngnkpfcfaaDoor
/- The stream: a word, a turn, a quarter of a round. -/
namespace Go.Proofs.YtckcdngnkpfcfaaDoor
open Go.RowKit Go.Cour
/-- x turned to the left by k. -/
def rotl (k : Nat) (x : Int) : Int := bits .or .u32 (x * 2 ^ k % 4294967296) (x / 2 ^ (32 - k))
theorem rotl16_calls (x : Int) (w : World) (h : 0 ≤ x) (h' : x < 4294967296) :
    Calls Tryd.prog 121 #[.int .u32 x, .int .i64 16] w fun e w' => e = .returned (.int .u32 (rotl 16 x)) ∧ w' = w := by
  have b1 : bits .and .u64 16 31 = 16 := by decide
  go_enter Tryd.func121, Tryd.ntmps121
  go_wp2
  go_ret
  exact ⟨rfl, rfl⟩
theorem rotl12_calls (x : Int) (w : World) (h : 0 ≤ x) (h' : x < 4294967296) :
    Calls Tryd.prog 121 #[.int .u32 x, .int .i64 12] w fun e w' => e = .returned (.int .u32 (rotl 12 x)) ∧ w' = w := by
  have b1 : bits .and .u64 12 31 = 12 := by decide
  go_enter Tryd.func121, Tryd.ntmps121
  go_wp2
  go_ret
  exact ⟨rfl, rfl⟩
theorem rotl8_calls (x : Int) (w : World) (h : 0 ≤ x) (h' : x < 4294967296) :
    Calls Tryd.prog 121 #[.int .u32 x, .int .i64 8] w fun e w' => e = .returned (.int .u32 (rotl 8 x)) ∧ w' = w := by
  have b1 : bits .and .u64 8 31 = 8 := by decide
  go_enter Tryd.func121, Tryd.ntmps121
  go_wp2
  go_ret
  exact ⟨rfl, rfl⟩
theorem rotl7_calls (x : Int) (w : World) (h : 0 ≤ x) (h' : x < 4294967296) :
    Calls Tryd.prog 121 #[.int .u32 x, .int .i64 7] w fun e w' => e = .returned (.int .u32 (rotl 7 x)) ∧ w' = w := by
  have b1 : bits .and .u64 7 31 = 7 := by decide
  go_enter Tryd.func121, Tryd.ntmps121
  go_wp2
  go_ret
  exact ⟨rfl, rfl⟩

def qadd (xs : List Int) (a b : Nat) : List Int := xs.set a ((rd xs a + rd xs b) % 4294967296)
def qxor (k : Nat) (xs : List Int) (d a : Nat) : List Int := xs.set d (rotl k (bits .xor .u32 (rd xs d) (rd xs a)))
def quarter (xs : List Int) (a b c d : Nat) : List Int :=
  qxor 7 (qadd (qxor 8 (qadd (qxor 12 (qadd (qxor 16 (qadd xs a b) d a) c d) b c) a b) d a) c d) b c
@[simp] theorem qadd_length (xs : List Int) (a b : Nat) : (qadd xs a b).length = xs.length := by simp [qadd]
@[simp] theorem qxor_length (k : Nat) (xs : List Int) (a b : Nat) : (qxor k xs a b).length = xs.length := by simp [qxor]
@[simp] theorem quarter_length (xs : List Int) (a b c d : Nat) : (quarter xs a b c d).length = xs.length := by simp [quarter]
/-- All are words. -/
def words (xs : List Int) : Prop := ∀ i, 0 ≤ rd xs i ∧ rd xs i < 4294967296
theorem rd_set (xs : List Int) (i j : Nat) (x : Int) : rd (xs.set i x) j = if i = j ∧ j < xs.length then x else rd xs j := by
  unfold rd
  by_cases h : i = j
  · subst h
    by_cases hl : i < xs.length <;> simp [List.getElem?_set, hl]
  · simp [List.getElem?_set_ne h, h]
theorem words_set {xs : List Int} (h : words xs) (i : Nat) {x : Int} (h0 : 0 ≤ x) (h1 : x < 4294967296) : words (xs.set i x) := by
  intro j
  rw [rd_set]
  split
  · exact ⟨h0, h1⟩
  · exact h j
theorem bits_u32_bound (op : BinOp) (x y : Int) : 0 ≤ bits op .u32 x y ∧ bits op .u32 x y < 4294967296 :=
  ⟨(bits_within op .u32 x y).1, by have := (bits_within op .u32 x y).2; have e : IntKind.u32.max = 4294967295 := by decide
                                   omega⟩
theorem rotl_bound (k : Nat) (x : Int) : 0 ≤ rotl k x ∧ rotl k x < 4294967296 := bits_u32_bound _ _ _
theorem words_qadd {xs : List Int} (h : words xs) (a b : Nat) : words (qadd xs a b) := words_set h a (Int.emod_nonneg _ (by decide)) (Int.emod_lt_of_pos _ (by decide))
theorem words_qxor {xs : List Int} (h : words xs) (k a b : Nat) : words (qxor k xs a b) := words_set h a (rotl_bound _ _).1 (rotl_bound _ _).2
theorem words_quarter {xs : List Int} (h : words xs) (a b c d : Nat) : words (quarter xs a b c d) :=
  words_qxor (words_qadd (words_qxor (words_qadd (words_qxor (words_qadd (words_qxor (words_qadd h _ _) _ _ _) _ _) _ _ _) _ _) _ _ _) _ _) _ _ _

set_option maxHeartbeats 4000000 in
set_option maxRecDepth 100000 in
theorem quarter_calls (g a b c d : Nat) (xs : List Int) (w : World) (hx : xs.length = 16) (ha : a < 16) (hb : b < 16) (hc : c < 16) (hd : d < 16) (hg : Blk w g 166 (ints .u32 xs)) (hw : words xs) :
    Calls Tryd.prog 123 #[.pointer (some ⟨g, 0, none⟩), .int .i64 a, .int .i64 b, .int .i64 c, .int .i64 d] w fun e w' => e = .returned (.tuple #[]) ∧ Blk w' g 166 (ints .u32 (quarter xs a b c d)) ∧ Only g w w' := by
  have ia : (a : Int) < 16 := by omega
  have ib : (b : Int) < 16 := by omega
  have ic : (c : Int) < 16 := by omega
  have id : (d : Int) < 16 := by omega
  obtain ⟨x0, HX⟩ : ∃ x, Hd (x = xs) := ⟨xs, hid rfl⟩
  have HL : Hd (x0.length = 16) := hid (by rw [HX.out]; exact hx)
  have HW : Hd (words x0) := hid (by rw [HX.out]; exact hw)
  replace hg : Blk w g 166 (ints .u32 x0) := by rw [HX.out]; exact hg
  clear hx hw
  obtain ⟨w0, HE⟩ : ∃ v, Hd (v = w) := ⟨w, hid rfl⟩
  replace hg : Blk w0 g 166 (ints .u32 x0) := by rw [HE.out]; exact hg
  have HO : Only g w0 w0 := Only.refl g w0
  rw [← HE.out]
  clear HE
  go_enter Tryd.func123, Tryd.ntmps123
  go_wp2
  -- region 0
  have cx := hg.cellI a (by have := HL.out; omega)
  have cy := hg.cellI b (by have := HL.out; omega)
  have fx := hg.frozen a
  refine wp_region_still_tail 13 (by kernel_rfl) (by kernel_rfl) ?_
  simp only [List.take_succ_cons, List.take_zero, List.drop_succ_cons, List.drop_zero]
  change wpStill _ _ (World.drew _) (fun a' => wpList _ _ _ _ a' (World.drew _)) _ _
  repeat still_step
  refine wpStill_nil ?_
  change wpList _ _ _ _ _ _
  go_wp2_with fail
  replace hg : Blk _ g 166 (ints .u32 (qadd x0 a b)) := (hg.setI a ((rd x0 a + rd x0 b) % 4294967296)).drew
  replace HO := (HO.setCell a (.int .u32 ((rd x0 a + rd x0 b) % 4294967296))).drew
  replace HW : Hd (words (qadd x0 a b)) := hid (words_qadd HW.out _ _)
  replace HL : Hd ((qadd x0 a b).length = 16) := hid (by have := HL.out; simpa using this)
  replace HX : Hd (qadd x0 a b = qadd xs a b) := hid (by rw [HX.out])
  clear cx cy fx
  generalize (w0.setCell { block := g, off := a } (.int .u32 ((rd x0 a + rd x0 b) % 4294967296))).drew = w1 at hg HO ⊢
  generalize hx1 : qadd x0 a b = x1 at hg HW HL HX
  clear hx1
  -- region 1
  have cx := hg.cellI d (by have := HL.out; omega)
  have cy := hg.cellI a (by have := HL.out; omega)
  have fx := hg.frozen d
  refine wp_region_still_tail 16 (by kernel_rfl) (by kernel_rfl) ?_
  simp only [List.take_succ_cons, List.take_zero, List.drop_succ_cons, List.drop_zero]
  change wpStill _ _ (World.drew _) (fun a' => wpList _ _ _ _ a' (World.drew _)) _ _
  repeat still_step
  still_call (rotl16_calls _ _ (bits_u32_bound _ _ _).1 (bits_u32_bound _ _ _).2)
  repeat still_step
  refine wpStill_nil ?_
  change wpList _ _ _ _ _ _
  go_wp2_with fail
  replace hg : Blk _ g 166 (ints .u32 (qxor 16 x1 d a)) := (hg.setI d (rotl 16 (bits .xor .u32 (rd x1 d) (rd x1 a)))).drew
  replace HO := (HO.setCell d (.int .u32 (rotl 16 (bits .xor .u32 (rd x1 d) (rd x1 a))))).drew
  replace HW : Hd (words (qxor 16 x1 d a)) := hid (words_qxor HW.out _ _ _)
  replace HL : Hd ((qxor 16 x1 d a).length = 16) := hid (by have := HL.out; simpa using this)
  replace HX : Hd (qxor 16 x1 d a = qxor 16 (qadd xs a b) d a) := hid (by rw [HX.out])
  clear cx cy fx
  generalize (w1.setCell { block := g, off := d } (.int .u32 (rotl 16 (bits .xor .u32 (rd x1 d) (rd x1 a))))).drew = w2 at hg HO ⊢
  generalize hx1 : qxor 16 x1 d a = x2 at hg HW HL HX
  clear hx1
  -- region 2
  have cx := hg.cellI c (by have := HL.out; omega)
  have cy := hg.cellI d (by have := HL.out; omega)
  have fx := hg.frozen c
  refine wp_region_still_tail 13 (by kernel_rfl) (by kernel_rfl) ?_
  simp only [List.take_succ_cons, List.take_zero, List.drop_succ_cons, List.drop_zero]
  change wpStill _ _ (World.drew _) (fun a' => wpList _ _ _ _ a' (World.drew _)) _ _
  repeat still_step
  refine wpStill_nil ?_
  change wpList _ _ _ _ _ _
  go_wp2_with fail
  replace hg : Blk _ g 166 (ints .u32 (qadd x2 c d)) := (hg.setI c ((rd x2 c + rd x2 d) % 4294967296)).drew
  replace HO := (HO.setCell c (.int .u32 ((rd x2 c + rd x2 d) % 4294967296))).drew
  replace HW : Hd (words (qadd x2 c d)) := hid (words_qadd HW.out _ _)
  replace HL : Hd ((qadd x2 c d).length = 16) := hid (by have := HL.out; simpa using this)
  replace HX : Hd (qadd x2 c d = qadd (qxor 16 (qadd xs a b) d a) c d) := hid (by rw [HX.out])
  clear cx cy fx
  generalize (w2.setCell { block := g, off := c } (.int .u32 ((rd x2 c + rd x2 d) % 4294967296))).drew = w3 at hg HO ⊢
  generalize hx1 : qadd x2 c d = x3 at hg HW HL HX
  clear hx1
  -- region 3
  have cx := hg.cellI b (by have := HL.out; omega)
  have cy := hg.cellI c (by have := HL.out; omega)
  have fx := hg.frozen b
  refine wp_region_still_tail 16 (by kernel_rfl) (by kernel_rfl) ?_
  simp only [List.take_succ_cons, List.take_zero, List.drop_succ_cons, List.drop_zero]
  change wpStill _ _ (World.drew _) (fun a' => wpList _ _ _ _ a' (World.drew _)) _ _
  repeat still_step
  still_call (rotl12_calls _ _ (bits_u32_bound _ _ _).1 (bits_u32_bound _ _ _).2)
  repeat still_step
  refine wpStill_nil ?_
  change wpList _ _ _ _ _ _
  go_wp2_with fail
  replace hg : Blk _ g 166 (ints .u32 (qxor 12 x3 b c)) := (hg.setI b (rotl 12 (bits .xor .u32 (rd x3 b) (rd x3 c)))).drew
  replace HO := (HO.setCell b (.int .u32 (rotl 12 (bits .xor .u32 (rd x3 b) (rd x3 c))))).drew
  replace HW : Hd (words (qxor 12 x3 b c)) := hid (words_qxor HW.out _ _ _)
  replace HL : Hd ((qxor 12 x3 b c).length = 16) := hid (by have := HL.out; simpa using this)
  replace HX : Hd (qxor 12 x3 b c = qxor 12 (qadd (qxor 16 (qadd xs a b) d a) c d) b c) := hid (by rw [HX.out])
  clear cx cy fx
  generalize (w3.setCell { block := g, off := b } (.int .u32 (rotl 12 (bits .xor .u32 (rd x3 b) (rd x3 c))))).drew = w4 at hg HO ⊢
  generalize hx1 : qxor 12 x3 b c = x4 at hg HW HL HX
  clear hx1
  -- region 4
  have cx := hg.cellI a (by have := HL.out; omega)
  have cy := hg.cellI b (by have := HL.out; omega)
  have fx := hg.frozen a
  refine wp_region_still_tail 13 (by kernel_rfl) (by kernel_rfl) ?_
  simp only [List.take_succ_cons, List.take_zero, List.drop_succ_cons, List.drop_zero]
  change wpStill _ _ (World.drew _) (fun a' => wpList _ _ _ _ a' (World.drew _)) _ _
  repeat still_step
  refine wpStill_nil ?_
  change wpList _ _ _ _ _ _
  go_wp2_with fail
  replace hg : Blk _ g 166 (ints .u32 (qadd x4 a b)) := (hg.setI a ((rd x4 a + rd x4 b) % 4294967296)).drew
  replace HO := (HO.setCell a (.int .u32 ((rd x4 a + rd x4 b) % 4294967296))).drew
  replace HW : Hd (words (qadd x4 a b)) := hid (words_qadd HW.out _ _)
  replace HL : Hd ((qadd x4 a b).length = 16) := hid (by have := HL.out; simpa using this)
  replace HX : Hd (qadd x4 a b = qadd (qxor 12 (qadd (qxor 16 (qadd xs a b) d a) c d) b c) a b) := hid (by rw [HX.out])
  clear cx cy fx
  generalize (w4.setCell { block := g, off := a } (.int .u32 ((rd x4 a + rd x4 b) % 4294967296))).drew = w5 at hg HO ⊢
  generalize hx1 : qadd x4 a b = x5 at hg HW HL HX
  clear hx1
  -- region 5
  have cx := hg.cellI d (by have := HL.out; omega)
  have cy := hg.cellI a (by have := HL.out; omega)
  have fx := hg.frozen d
  refine wp_region_still_tail 16 (by kernel_rfl) (by kernel_rfl) ?_
  simp only [List.take_succ_cons, List.take_zero, List.drop_succ_cons, List.drop_zero]
  change wpStill _ _ (World.drew _) (fun a' => wpList _ _ _ _ a' (World.drew _)) _ _
  repeat still_step
  still_call (rotl8_calls _ _ (bits_u32_bound _ _ _).1 (bits_u32_bound _ _ _).2)
  repeat still_step
  refine wpStill_nil ?_
  change wpList _ _ _ _ _ _
  go_wp2_with fail
  replace hg : Blk _ g 166 (ints .u32 (qxor 8 x5 d a)) := (hg.setI d (rotl 8 (bits .xor .u32 (rd x5 d) (rd x5 a)))).drew
  replace HO := (HO.setCell d (.int .u32 (rotl 8 (bits .xor .u32 (rd x5 d) (rd x5 a))))).drew
  replace HW : Hd (words (qxor 8 x5 d a)) := hid (words_qxor HW.out _ _ _)
  replace HL : Hd ((qxor 8 x5 d a).length = 16) := hid (by have := HL.out; simpa using this)
  replace HX : Hd (qxor 8 x5 d a = qxor 8 (qadd (qxor 12 (qadd (qxor 16 (qadd xs a b) d a) c d) b c) a b) d a) := hid (by rw [HX.out])
  clear cx cy fx
  generalize (w5.setCell { block := g, off := d } (.int .u32 (rotl 8 (bits .xor .u32 (rd x5 d) (rd x5 a))))).drew = w6 at hg HO ⊢
  generalize hx1 : qxor 8 x5 d a = x6 at hg HW HL HX
  clear hx1
  -- region 6
  have cx := hg.cellI c (by have := HL.out; omega)
  have cy := hg.cellI d (by have := HL.out; omega)
  have fx := hg.frozen c
  refine wp_region_still_tail 13 (by kernel_rfl) (by kernel_rfl) ?_
  simp only [List.take_succ_cons, List.take_zero, List.drop_succ_cons, List.drop_zero]
  change wpStill _ _ (World.drew _) (fun a' => wpList _ _ _ _ a' (World.drew _)) _ _
  repeat still_step
  refine wpStill_nil ?_
  change wpList _ _ _ _ _ _
  go_wp2_with fail
  replace hg : Blk _ g 166 (ints .u32 (qadd x6 c d)) := (hg.setI c ((rd x6 c + rd x6 d) % 4294967296)).drew
  replace HO := (HO.setCell c (.int .u32 ((rd x6 c + rd x6 d) % 4294967296))).drew
  replace HW : Hd (words (qadd x6 c d)) := hid (words_qadd HW.out _ _)
  replace HL : Hd ((qadd x6 c d).length = 16) := hid (by have := HL.out; simpa using this)
  replace HX : Hd (qadd x6 c d = qadd (qxor 8 (qadd (qxor 12 (qadd (qxor 16 (qadd xs a b) d a) c d) b c) a b) d a) c d) := hid (by rw [HX.out])
  clear cx cy fx
  generalize (w6.setCell { block := g, off := c } (.int .u32 ((rd x6 c + rd x6 d) % 4294967296))).drew = w7 at hg HO ⊢
  generalize hx1 : qadd x6 c d = x7 at hg HW HL HX
  clear hx1
  -- region 7
  have cx := hg.cellI b (by have := HL.out; omega)
  have cy := hg.cellI c (by have := HL.out; omega)
  have fx := hg.frozen b
  refine wp_region_still_tail 16 (by kernel_rfl) (by kernel_rfl) ?_
  simp only [List.take_succ_cons, List.take_zero, List.drop_succ_cons, List.drop_zero]
  change wpStill _ _ (World.drew _) (fun a' => wpList _ _ _ _ a' (World.drew _)) _ _
  repeat still_step
  still_call (rotl7_calls _ _ (bits_u32_bound _ _ _).1 (bits_u32_bound _ _ _).2)
  repeat still_step
  refine wpStill_nil ?_
  change wpList _ _ _ _ _ _
  go_wp2_with fail
  replace hg : Blk _ g 166 (ints .u32 (qxor 7 x7 b c)) := (hg.setI b (rotl 7 (bits .xor .u32 (rd x7 b) (rd x7 c)))).drew
  replace HO := (HO.setCell b (.int .u32 (rotl 7 (bits .xor .u32 (rd x7 b) (rd x7 c))))).drew
  replace HW : Hd (words (qxor 7 x7 b c)) := hid (words_qxor HW.out _ _ _)
  replace HL : Hd ((qxor 7 x7 b c).length = 16) := hid (by have := HL.out; simpa using this)
  replace HX : Hd (qxor 7 x7 b c = qxor 7 (qadd (qxor 8 (qadd (qxor 12 (qadd (qxor 16 (qadd xs a b) d a) c d) b c) a b) d a) c d) b c) := hid (by rw [HX.out])
  clear cx cy fx
  generalize (w7.setCell { block := g, off := b } (.int .u32 (rotl 7 (bits .xor .u32 (rd x7 b) (rd x7 c))))).drew = w8 at hg HO ⊢
  generalize hx1 : qxor 7 x7 b c = x8 at hg HW HL HX
  clear hx1
  go_end0
  exact ⟨rfl, by rw [show quarter xs a b c d = x8 from HX.out.symm]; exact hg, HO⟩
end Go.Proofs.YtckcdngnkpfcfaaDoor
/- A word of four bytes. -/
namespace Go.Proofs.YtckcdngnkpfcfaaDoor
open Go.RowKit Go.Cour
/-- Four bytes as a word. -/
def word4 (b0 b1 b2 b3 : Int) : Int := bits .or .u32 (bits .or .u32 (bits .or .u32 b0 (b1 * 256)) (b2 * 65536)) (b3 * 16777216)
set_option maxHeartbeats 1000000 in
set_option maxRecDepth 100000 in
theorem word_calls (g o i n c : Nat) (p : Int) (b0 b1 b2 b3 : Int) (w : World) (hp : p = (i : Int)) (hi : i + 3 < n) (hn : n < 1000000)
    (h0 : w.cell? ⟨g, o + i, none⟩ = some (.int .u8 b0)) (h1 : w.cell? ⟨g, o + (i + 1), none⟩ = some (.int .u8 b1)) (h2 : w.cell? ⟨g, o + (i + 2), none⟩ = some (.int .u8 b2)) (h3 : w.cell? ⟨g, o + (i + 3), none⟩ = some (.int .u8 b3))
    (r0 : 0 ≤ b0 ∧ b0 < 256) (r1 : 0 ≤ b1 ∧ b1 < 256) (r2 : 0 ≤ b2 ∧ b2 < 256) (r3 : 0 ≤ b3 ∧ b3 < 256) :
    Calls Tryd.prog 122 #[.slice (some ⟨g, o, none⟩) n c, .int .i64 p] w fun e w' => e = .returned (.int .u32 (word4 b0 b1 b2 b3)) ∧ ∃ m, w' = w.drewN m := by
  subst hp
  have i0 : (i : Int) < n := by omega
  have i1 : (i : Int) + 1 < n := by omega
  have i2 : (i : Int) + 2 < n := by omega
  have i3 : (i : Int) + 3 < n := by omega
  have i4 : (i : Int) < 1000000 := by omega
  clear hi hn
  go_enter Tryd.func122, Tryd.ntmps122
  go_wp2
  go_quiet (fail)
  go_wp2
  go_ret
  exact ⟨rfl, _, rfl⟩

def wordAt (xs : List Int) (i : Nat) : Int := word4 (rd xs i) (rd xs (i + 1)) (rd xs (i + 2)) (rd xs (i + 3))
theorem wordB_calls (g i n c : Nat) (t : TypeId) (p : Int) (xs : List Int) (w : World) (hp : p = (i : Int)) (hg : Blk w g t (ints .u8 xs)) (hi : i + 3 < n) (hn : n = xs.length) (hx : n < 1000000) (r : bytesOk xs) :
    Calls Tryd.prog 122 #[.slice (some ⟨g, 0, none⟩) n c, .int .i64 p] w fun e w' => e = .returned (.int .u32 (wordAt xs i)) ∧ ∃ m, w' = w.drewN m := by
  subst hn
  exact word_calls g 0 i _ c p _ _ _ _ w hp hi hx (by rw [Nat.zero_add]; exact hg.cellI i (by omega)) (by rw [Nat.zero_add]; exact hg.cellI _ (by omega)) (by rw [Nat.zero_add]; exact hg.cellI _ (by omega)) (by rw [Nat.zero_add]; exact hg.cellI _ (by omega)) (r _) (r _) (r _) (r _)
/-- The first state: constants, the key's words, the counter, the nonce's. -/
def first0 (c : Int) : List Int := [1634760805, 857760878, 2036477234, 1797285236, 0, 0, 0, 0, 0, 0, 0, 0, c, 0, 0, 0]
def firstK (key : List Int) (c : Int) (n : Nat) : List Int := (List.range n).foldl (fun s i => s.set (4 + i) (wordAt key (4 * i))) (first0 c)
def firstN (key : List Int) (c : Int) (nonce : List Int) (n : Nat) : List Int := (List.range n).foldl (fun s i => s.set (13 + i) (wordAt nonce (4 * i))) (firstK key c 8)
def cols (s : List Int) (n : Nat) : List Int := (List.range n).foldl (fun s i => quarter s i (4 + i) (8 + i) (12 + i)) s
def diags (s : List Int) (n : Nat) : List Int := (List.range n).foldl (fun s i => quarter s i (4 + (i + 1) % 4) (8 + (i + 2) % 4) (12 + (i + 3) % 4)) s
def rounds (s : List Int) (n : Nat) : List Int := (List.range n).foldl (fun s _ => diags (cols s 4) 4) s
def outByte (s f : List Int) (i : Nat) : Int := ((rd s (i / 4) + rd f (i / 4)) % 4294967296 / 2 ^ (8 * (i % 4))) % 256
def outTo (s f : List Int) (n : Nat) : List Int := (List.range n).foldl (fun o i => o.set i (outByte s f i)) (List.replicate 64 0)
def block (key : List Int) (c : Int) (nonce : List Int) : List Int := outTo (rounds (firstN key c nonce 3) 10) (firstN key c nonce 3) 64
theorem info65 : (Tryd.prog.info? 166).map (·.size) = some 16 := by kernel_rfl
theorem arr65 : Tryd.prog.underlying 166 = some (.array 16 29) := by kernel_rfl
theorem info44 : (Tryd.prog.info? 155).map (·.size) = some 64 := by kernel_rfl
theorem arr44 : Tryd.prog.underlying 155 = some (.array 64 5) := by kernel_rfl

theorem foldl_succ {α : Type} (f : α → Nat → α) (s : α) (n : Nat) : (List.range (n + 1)).foldl f s = f ((List.range n).foldl f s) n := by
  rw [List.range_succ, List.foldl_append]; rfl
theorem firstK_succ (key : List Int) (c : Int) (n : Nat) : firstK key c (n + 1) = (firstK key c n).set (4 + n) (wordAt key (4 * n)) := foldl_succ _ _ _
theorem firstN_succ (key : List Int) (c : Int) (nonce : List Int) (n : Nat) : firstN key c nonce (n + 1) = (firstN key c nonce n).set (13 + n) (wordAt nonce (4 * n)) := foldl_succ _ _ _
theorem firstK_length (key : List Int) (c : Int) : ∀ n, (firstK key c n).length = 16
  | 0 => rfl
  | n + 1 => by rw [firstK_succ, List.length_set]; exact firstK_length key c n
theorem firstN_length (key : List Int) (c : Int) (nonce : List Int) : ∀ n, (firstN key c nonce n).length = 16
  | 0 => firstK_length key c 8
  | n + 1 => by rw [firstN_succ, List.length_set]; exact firstN_length key c nonce n

/-- What the blocks of a call of Block hold before its rounds. -/
structure BS (w wr : World) (key nonce first : List Int) : Prop where
  k : Blk wr w.heap.size 27 (ints .u8 key)
  n : Blk wr (w.heap.size + 1) 97 (ints .u8 nonce)
  r : Blk wr (w.heap.size + 1 + 1) 155 (ints .u8 (List.replicate 64 0))
  f : Blk wr (w.heap.size + 1 + 1 + 1) 166 (ints .u32 first)
  below : Below w.heap.size w wr
  size : wr.heap.size = w.heap.size + 1 + 1 + 1 + 1

theorem quarterI_calls (g a b c d : Nat) (pa pb pc pd : Int) (xs : List Int) (w : World) (ea : pa = a) (eb : pb = b) (ec : pc = c) (ed : pd = d) (hx : xs.length = 16) (ha : a < 16) (hb : b < 16) (hc : c < 16) (hd : d < 16) (hg : Blk w g 166 (ints .u32 xs)) (hw : words xs) :
    Calls Tryd.prog 123 #[.pointer (some ⟨g, 0, none⟩), .int .i64 pa, .int .i64 pb, .int .i64 pc, .int .i64 pd] w fun e w' => e = .returned (.tuple #[]) ∧ Blk w' g 166 (ints .u32 (quarter xs a b c d)) ∧ Only g w w' := by
  subst ea eb ec ed
  exact quarter_calls g a b c d xs w hx ha hb hc hd hg hw
theorem cols_succ (s : List Int) (n : Nat) : cols s (n + 1) = quarter (cols s n) n (4 + n) (8 + n) (12 + n) := foldl_succ _ _ _
theorem diags_succ (s : List Int) (n : Nat) : diags s (n + 1) = quarter (diags s n) n (4 + (n + 1) % 4) (8 + (n + 2) % 4) (12 + (n + 3) % 4) := foldl_succ _ _ _
theorem rounds_succ (s : List Int) (n : Nat) : rounds s (n + 1) = diags (cols (rounds s n) 4) 4 := foldl_succ _ _ _
theorem outTo_succ (s f : List Int) (n : Nat) : outTo s f (n + 1) = (outTo s f n).set n (outByte s f n) := foldl_succ _ _ _
theorem cols_zero (s : List Int) : cols s 0 = s := rfl
theorem diags_zero (s : List Int) : diags s 0 = s := rfl
theorem rounds_zero (s : List Int) : rounds s 0 = s := rfl
theorem outTo_zero (s f : List Int) : outTo s f 0 = List.replicate 64 0 := rfl
theorem cols_length (s : List Int) : ∀ n, (cols s n).length = s.length
  | 0 => rfl
  | n + 1 => by rw [cols_succ, quarter_length]; exact cols_length s n
theorem diags_length (s : List Int) : ∀ n, (diags s n).length = s.length
  | 0 => rfl
  | n + 1 => by rw [diags_succ, quarter_length]; exact diags_length s n
theorem rounds_length (s : List Int) : ∀ n, (rounds s n).length = s.length
  | 0 => rfl
  | n + 1 => by rw [rounds_succ, diags_length, cols_length]; exact rounds_length s n
theorem outTo_length (s f : List Int) : ∀ n, (outTo s f n).length = 64
  | 0 => by simp [outTo]
  | n + 1 => by rw [outTo_succ, List.length_set]; exact outTo_length s f n
theorem words_cols {s : List Int} (h : words s) : ∀ n, words (cols s n)
  | 0 => h
  | n + 1 => by rw [cols_succ]; exact words_quarter (words_cols h n) _ _ _ _
theorem words_diags {s : List Int} (h : words s) : ∀ n, words (diags s n)
  | 0 => h
  | n + 1 => by rw [diags_succ]; exact words_quarter (words_diags h n) _ _ _ _
theorem words_rounds {s : List Int} (h : words s) : ∀ n, words (rounds s n)
  | 0 => h
  | n + 1 => by rw [rounds_succ]; exact words_diags (words_cols (words_rounds h n) 4) 4
theorem word4_bound (a b c d : Int) : 0 ≤ word4 a b c d ∧ word4 a b c d < 4294967296 := bits_u32_bound _ _ _
theorem words_first0 {c : Int} (hc : 0 ≤ c ∧ c < 4294967296) : words (first0 c) := by
  intro i
  by_cases h : i < 16
  · have : i = 0 ∨ i = 1 ∨ i = 2 ∨ i = 3 ∨ i = 4 ∨ i = 5 ∨ i = 6 ∨ i = 7 ∨ i = 8 ∨ i = 9 ∨ i = 10 ∨ i = 11 ∨ i = 12 ∨ i = 13 ∨ i = 14 ∨ i = 15 := by omega
    rcases this with rfl | rfl | rfl | rfl | rfl | rfl | rfl | rfl | rfl | rfl | rfl | rfl | rfl | rfl | rfl | rfl <;> simp [first0, rd] <;> omega
  · have : rd (first0 c) i = 0 := by unfold rd; rw [List.getD_eq_getElem?_getD, List.getElem?_eq_none (by simp [first0]; omega)]; rfl
    omega
theorem words_firstK (key : List Int) {c : Int} (hc : 0 ≤ c ∧ c < 4294967296) : ∀ n, words (firstK key c n)
  | 0 => words_first0 hc
  | n + 1 => by rw [firstK_succ]; exact words_set (words_firstK key hc n) _ (word4_bound _ _ _ _).1 (word4_bound _ _ _ _).2
theorem words_firstN (key : List Int) {c : Int} (hc : 0 ≤ c ∧ c < 4294967296) (nonce : List Int) : ∀ n, words (firstN key c nonce n)
  | 0 => words_firstK key hc 8
  | n + 1 => by rw [firstN_succ]; exact words_set (words_firstN key hc nonce n) _ (word4_bound _ _ _ _).1 (word4_bound _ _ _ _).2
/-- What they hold in its rounds. -/
structure BR (w wr : World) (G : Nat) (first s : List Int) : Prop where
  r : Blk wr (w.heap.size + 1 + 1) 155 (ints .u8 (List.replicate 64 0))
  f : Blk wr (w.heap.size + 1 + 1 + 1) 166 (ints .u32 first)
  s : Blk wr G 166 (ints .u32 s)
  below : Below w.heap.size w wr
  lt : w.heap.size + 1 + 1 + 1 < G
  size : wr.heap.size = G + 1
theorem BR.start {w wr : World} {key nonce F : List Int} (hS : BS w wr key nonce F) :
    BR w ((wr.alloc (.cells (ints .u32 (List.replicate 16 0)).toArray 166)).setRow wr.heap.size (ints .u32 F).toArray) wr.heap.size F F := by
  have hz := hS.size
  exact ⟨(hS.r.alloc _).setRowOther (by omega) _, (hS.f.alloc _).setRowOther (by omega) _, (Blk.new wr 166 _).setRow _, below_setRow (hS.below.alloc (by omega) _) (by omega) _, by omega, by simp⟩
theorem BR.quarter {w wr wx : World} {G : Nat} {first s s' : List Int} (h : BR w wr G first s) (hs : Blk wx G 166 (ints .u32 s')) (ho : Only G wr wx) : BR w wx G first s' :=
  ⟨h.r.only ho (by have := h.lt; omega), h.f.only ho (by have := h.lt; omega), hs, ho.below h.below (by have := h.lt; omega), h.lt, by rw [ho.size]; exact h.size⟩
/-- What they hold when the bytes are laid. -/
structure BO (w wr : World) (G H : Nat) (first s out : List Int) : Prop where
  r : Blk wr (w.heap.size + 1 + 1) 155 (ints .u8 (List.replicate 64 0))
  f : Blk wr (w.heap.size + 1 + 1 + 1) 166 (ints .u32 first)
  s : Blk wr G 166 (ints .u32 s)
  o : Blk wr H 155 (ints .u8 out)
  below : Below w.heap.size w wr
  lt : w.heap.size + 1 + 1 + 1 < G
  lt' : G < H
theorem BO.start {w wr : World} {G : Nat} {first s : List Int} (h : BR w wr G first s) : BO w (wr.alloc (.cells (ints .u8 (List.replicate 64 0)).toArray 155)) G wr.heap.size first s (outTo s first 0) :=
  ⟨h.r.alloc _, h.f.alloc _, h.s.alloc _, Blk.new wr 155 _, h.below.alloc (by have := h.size; have := h.lt; omega) _, h.lt, by have := h.size; omega⟩
theorem BO.next {w wr : World} {G H n : Nat} {first s : List Int} (h : BO w wr G H first s (outTo s first n)) : BO w (wr.setCell ⟨H, n, none⟩ (.int .u8 (outByte s first n))).drew G H first s (outTo s first (n + 1)) := by
  have h1 := h.lt
  have h2 := h.lt'
  refine ⟨(h.r.setOther (by simp; omega) _).drew, (h.f.setOther (by simp; omega) _).drew, (h.s.setOther (by simp; omega) _).drew, ?_, (h.below.setCell (by simp; omega) _).drew, h1, h2⟩
  rw [outTo_succ]; exact (h.o.setI n _).drew
theorem outByte_eq (s f : List Int) (n q r : Nat) (h : n = 4 * q + r) (hr : r < 4) : outByte s f n = ((rd s q + rd f q) % 4294967296 / 2 ^ (8 * r)) % 256 := by
  have e1 : n / 4 = q := by omega
  have e2 : n % 4 = r := by omega
  rw [outByte, e1, e2]
set_option maxHeartbeats 4000000 in
set_option maxRecDepth 100000 in
theorem block_calls (key nonce : List Int) (c : Int) (w : World) (hk : key.length = 32) (hn : nonce.length = 12) (rk : bytesOk key) (rn : bytesOk nonce) (hc : 0 ≤ c ∧ c < 4294967296) :
    Calls Tryd.prog 117 #[.agg (ints .u8 key).toArray, .int .u32 c, .agg (ints .u8 nonce).toArray] w fun e w' => e = .returned (.agg (ints .u8 (block key c nonce)).toArray) ∧ Below w.heap.size w w' := by
  have HK := hid hk
  have HN := hid hn
  have HC := hid hc
  clear hk hn hc
  go_enter Tryd.func117, Tryd.ntmps117
  go_wp2_with fail
  go_loopg [17] 8 (fun kq v17 wr => ∃ i : Nat, i ≤ 8 ∧ v17 = .int .i64 i ∧ Hd (kq = 8 - i) ∧ BS w wr key nonce (firstK key c i))
  case atStart =>
    refine ⟨0, by omega, rfl, hid rfl, ?_, ?_, ?_, ?_, ?_, ?_⟩
    · exact ((((Blk.new w 27 (ints .u8 key)).alloc _).alloc _).alloc _)
    · exact ((Blk.new' (w.alloc _) 97 (ints .u8 nonce) _ (by simp)).alloc _).alloc _
    · exact (Blk.new' ((w.alloc _).alloc _) 155 (ints .u8 (List.replicate 64 0)) _ (by simp)).alloc _
    · exact Blk.new' (((w.alloc _).alloc _).alloc _) 166 (ints .u32 (first0 c)) _ (by simp)
    · exact ((((Below.refl _ _).alloc (Nat.le_refl _) _).alloc (by simp) _).alloc (by simp; try omega) _).alloc (by simp; try omega) _
    · simp
  case round =>
    obtain ⟨i, hi, rfl, hq, hS⟩ := hrel
    by_cases hlt : i < 8
    · have hfc := hS.f.cellI (4 + i) (by rw [firstK_length]; omega)
      have hff := hS.f.frozen (4 + i)
      go_wp2_with (go_at_call 122; refine (wordB_calls w.heap.size (4 * i) _ _ 27 _ key _ (by omega) hS.k (by omega) HK.out.symm (by omega) rk).mono ?_; rintro e w' ⟨rfl, m, rfl⟩)
      go_roundg (gk - 1)
      case measure => have := hq.out; omega
      case rel =>
        refine ⟨i + 1, by omega, by go_num, hid (by have := hq.out; omega), ?_, ?_, ?_, ?_, ?_, ?_⟩
        · exact ((hS.k.drewN m).setOther (by simp; try omega) _)
        · exact ((hS.n.drewN m).setOther (by simp; try omega) _)
        · exact ((hS.r.drewN m).setOther (by simp; try omega) _)
        · rw [firstK_succ]; exact (hS.f.drewN m).setI (4 + i) _
        · exact (below_drewN hS.below m).setCell (by simp; try omega) _
        · simpa [World.setCell] using hS.size
    · obtain rfl : i = 8 := by omega
      clear hq hi hlt
      go_wp2_with fail
      obtain ⟨wo, rfl⟩ : ∃ wo : World, wo = wr := ⟨_, rfl⟩
      go_loopg [28] 3 (fun kq v28 wr => ∃ i : Nat, i ≤ 3 ∧ v28 = .int .i64 i ∧ Hd (kq = 3 - i) ∧ BS w wr key nonce (firstN key c nonce i))
      case atStart => exact ⟨0, by omega, rfl, hid rfl, hS⟩
      case round =>
        clear hS
        obtain ⟨i, hi, rfl, hq, hS⟩ := hrel
        by_cases hlt : i < 3
        · have hfc := hS.f.cellI (13 + i) (by rw [firstN_length]; omega)
          have hff := hS.f.frozen (13 + i)
          go_wp2_with (go_at_call 122; refine (wordB_calls (w.heap.size + 1) (4 * i) _ _ 97 _ nonce _ (by omega) hS.n (by omega) HN.out.symm (by omega) rn).mono ?_; rintro e w' ⟨rfl, m, rfl⟩)
          go_roundg (gk - 1)
          case measure => have := hq.out; omega
          case rel =>
            refine ⟨i + 1, by omega, by go_num, hid (by have := hq.out; omega), ?_, ?_, ?_, ?_, ?_, ?_⟩
            · exact ((hS.k.drewN m).setOther (by simp; try omega) _)
            · exact ((hS.n.drewN m).setOther (by simp; try omega) _)
            · exact ((hS.r.drewN m).setOther (by simp; try omega) _)
            · rw [firstN_succ]; exact (hS.f.drewN m).setI (13 + i) _
            · exact (below_drewN hS.below m).setCell (by simp; try omega) _
            · simpa [World.setCell] using hS.size
        · obtain rfl : i = 3 := by omega
          clear hq hi hlt
          have hl16 : (ints .u32 (firstN key c nonce 3)).length = 16 := by simpa using firstN_length key c nonce 3
          go_wp2_with (first
            | (refine load_blk rfl 166 _ rfl (w.heap.size + 1 + 1 + 1) rfl 166 _ hS.f 16 29 arr65 hl16 info65 ?_)
            | (refine store_blk rfl 166 _ _ rfl wr.heap.size _ rfl rfl 166 _ (Blk.new wr 166 (ints .u32 (List.replicate 16 0))) 16 info65 hl16 (by simp) (ints_one _ _) ?_))
          have hR := BR.start hS
          have hl3 : (firstN key c nonce 3).length = 16 := firstN_length key c nonce 3
          have hw3 : words (firstN key c nonce 3) := words_firstN key HC.out nonce 3
          have hbl : block key c nonce = outTo (rounds (firstN key c nonce 3) 10) (firstN key c nonce 3) 64 := rfl
          have HBL := hid hbl
          clear hS hl16 hbl
          generalize firstN key c nonce 3 = F at *
          have HL3 := hid hl3
          clear hl3
          clear HK HN HC
          obtain ⟨G, hG⟩ : ∃ G, G = wr.heap.size := ⟨_, rfl⟩
          obtain ⟨wo, rfl⟩ : ∃ wo : World, wo = wr := ⟨_, rfl⟩
          rw [← hG] at hR ⊢
          clear hG
          go_loopg [40] 10 (fun kq v40 wr => ∃ i : Nat, i ≤ 10 ∧ v40 = .int .i64 i ∧ Hd (kq = 10 - i) ∧ BR w wr G F (rounds F i))
          case atStart => exact ⟨0, by omega, rfl, hid rfl, by rw [rounds_zero]; exact hR⟩
          case round =>
            clear hR
            obtain ⟨i, hi, rfl, hq, hR⟩ := hrel
            by_cases hlt : i < 10
            · have hd1 : decide ((i : Int) < 10) = true := by simp; omega
              go_wp2_with fail
              obtain ⟨wo1, rfl⟩ : ∃ wo : World, wo = wr := ⟨_, rfl⟩
              obtain ⟨gk1, hgk⟩ : ∃ g : Nat, Hd (g = gk) := ⟨gk, hid rfl⟩
              have hq1 : Hd (gk1 = 10 - i) := hid (by rw [hgk.out]; exact hq.out)
              go_loopg [42] 4 (fun kq v42 wr => ∃ j : Nat, j ≤ 4 ∧ v42 = .int .i64 j ∧ Hd (kq = 4 - j) ∧ BR w wr G F (cols (rounds F i) j))
              case atStart => exact ⟨0, by omega, rfl, hid rfl, by rw [cols_zero]; exact hR⟩
              case round =>
                clear hR
                obtain ⟨j, hj, rfl, hq2, hR⟩ := hrel
                by_cases hjlt : j < 4
                · go_wp2_with (go_at_call 123; refine (quarterI_calls G j (4 + j) (8 + j) (12 + j) _ _ _ _ (cols (rounds F i) j) _ rfl (by omega) (by omega) (by omega) (by rw [cols_length, rounds_length]; exact HL3.out) (by omega) (by omega) (by omega) (by omega) hR.s (words_cols (words_rounds hw3 i) j)).mono ?_; rintro e wx ⟨rfl, hs, ho⟩)
                  go_roundg (gk - 1)
                  case measure => have := hq2.out; omega
                  case rel => exact ⟨j + 1, by omega, by go_num, hid (by have := hq2.out; omega), hR.quarter (by rw [cols_succ]; exact hs) ho⟩
                · have hj4 : (j : Int) = 4 := by omega
                  rw [hj4]
                  obtain rfl : j = 4 := by omega
                  clear hq2 hj hjlt hj4
                  go_wp2_with fail
                  obtain ⟨wo2, rfl⟩ : ∃ wo : World, wo = wr := ⟨_, rfl⟩
                  go_loopg [54] 4 (fun kq v54 wr => ∃ j : Nat, j ≤ 4 ∧ v54 = .int .i64 j ∧ Hd (kq = 4 - j) ∧ BR w wr G F (diags (cols (rounds F i) 4) j))
                  case atStart => exact ⟨0, by omega, rfl, hid rfl, by rw [diags_zero]; exact hR⟩
                  case round =>
                    clear hR
                    obtain ⟨j, hj, rfl, hq2, hR⟩ := hrel
                    by_cases hjlt : j < 4
                    · go_wp2_with (go_at_call 123; refine (quarterI_calls G j (4 + (j + 1) % 4) (8 + (j + 2) % 4) (12 + (j + 3) % 4) _ _ _ _ (diags (cols (rounds F i) 4) j) _ rfl (by omega) (by omega) (by omega) (by rw [diags_length, cols_length, rounds_length]; exact HL3.out) (by omega) (by omega) (by omega) (by omega) hR.s (words_diags (words_cols (words_rounds hw3 i) 4) j)).mono ?_; rintro e wx ⟨rfl, hs, ho⟩)
                      go_roundg (gk - 1)
                      case measure => have := hq2.out; omega
                      case rel => exact ⟨j + 1, by omega, by go_num, hid (by have := hq2.out; omega), hR.quarter (by rw [diags_succ]; exact hs) ho⟩
                    · have hj4 : (j : Int) = 4 := by omega
                      rw [hj4]
                      obtain rfl : j = 4 := by omega
                      clear hq2 hj hjlt hj4
                      go_wp2_with fail
                      go_roundg (gk1 - 1)
                      case measure => have := hq1.out; have := hgk.out; omega
                      case rel => exact ⟨i + 1, by omega, by go_num, hid (by have := hq1.out; have := hgk.out; omega), by rw [rounds_succ]; exact hR⟩
            · obtain rfl : i = 10 := by omega
              clear hq hi hlt
              go_wp2_with fail
              have hO := BO.start hR
              clear hR
              obtain ⟨H, hH⟩ : ∃ H, H = wr.heap.size := ⟨_, rfl⟩
              obtain ⟨wo1, rfl⟩ : ∃ wo : World, wo = wr := ⟨_, rfl⟩
              rw [← hH] at hO ⊢
              clear hH
              have hlS : (rounds F 10).length = 16 := by rw [rounds_length]; exact HL3.out
              have HLS := hid hlS
              clear hlS hw3
              generalize rounds F 10 = S at hO HBL HLS
              go_loopg [73] 64 (fun kq v73 wr => ∃ i : Nat, i ≤ 64 ∧ v73 = .int .i64 i ∧ Hd (kq = 64 - i) ∧ BO w wr G H F S (outTo S F i))
              case atStart => exact ⟨0, by omega, rfl, hid rfl, hO⟩
              case round =>
                clear hO
                obtain ⟨i, hi, rfl, hq, hO⟩ := hrel
                by_cases hlt : i < 64
                · obtain ⟨q, r, hqr, hr, hq16⟩ : ∃ q r : Nat, Hd (i = 4 * q + r) ∧ r < 4 ∧ q < 16 := ⟨i / 4, i % 4, hid (by omega), by omega, by omega⟩
                  have cs := hO.s.cellI q (by have := HLS.out; omega)
                  have cf := hO.f.cellI q (by have := HL3.out; omega)
                  have co := hO.o.cellI i (by rw [outTo_length]; omega)
                  have fo := hO.o.frozen i
                  go_wp2_with fail
                  have a1 : IntKind.i64.wrap ((i : Int) / 4) = (q : Int) := by
                    have := hqr.out
                    rw [IntWalk.i64_in _ (by omega)]
                    omega
                  have a2 : (i : Int).tmod 4 = (r : Int) := by
                    have := hqr.out
                    rw [Int.tmod_eq_emod_of_nonneg (by omega)]
                    omega
                  have a3 : IntKind.i64.wrap (8 * (r : Int)) = 8 * (r : Int) := IntWalk.i64_in _ (by omega)
                  have a4 : 0 ≤ 8 * (r : Int) := by omega
                  have a5 : 8 * (r : Int) ≤ 32 := by omega
                  have a6 : (q : Int) < 16 := by omega
                  have a7 : (i : Int) < 64 := by omega
                  refine wp_region_still_tail 16 (by kernel_rfl) (by kernel_rfl) ?_
                  simp only [List.take_succ_cons, List.take_zero, List.drop_succ_cons, List.drop_zero]
                  change wpStill _ _ (World.drew _) (fun a' => wpList _ _ _ _ a' (World.drew _)) _ _
                  repeat still_step
                  refine wpStill_nil ?_
                  change wpList _ _ _ _ _ _
                  clear a1 a2 a3 a4 a5 a6
                  go_wp2_with fail
                  go_roundg (gk - 1)
                  case measure => have := hq.out; omega
                  case rel =>
                    refine ⟨i + 1, by omega, by go_num, hid (by have := hq.out; omega), ?_⟩
                    have hb := outByte_eq S F i q r hqr.out hr
                    have hn := hO.next
                    rw [hb] at hn
                    exact hn
                · obtain rfl : i = 64 := by omega
                  clear hq hi hlt
                  have hl64 : (ints .u8 (outTo S F 64)).length = 64 := by simpa using outTo_length S F 64
                  go_wp2_with (first
                    | (refine load_blk rfl 155 _ rfl H rfl 155 _ hO.o 64 5 arr44 hl64 info44 ?_)
                    | (refine store_blk rfl 155 _ _ rfl (w.heap.size + 1 + 1) _ rfl rfl 155 _ hO.r 64 info44 hl64 (by simp) (ints_one _ _) ?_))
                  refine bodyPost_ret (results_blk rfl _ _ (w.heap.size + 1 + 1) 155 _ 64 5 rfl (hO.r.setRow _) arr44 hl64 info44) rfl ?_
                  exact ⟨by rw [HBL.out], below_setRow hO.below (by omega) _⟩
end Go.Proofs.YtckcdngnkpfcfaaDoor
/- XOR: bytes with the stream's. -/
namespace Go.Proofs.YtckcdngnkpfcfaaDoor
open Go.RowKit Go.Cour
attribute [local go_sem] max2_int min2_int
/-- The counter behind so many blocks. -/
def ctr (c : Int) (j : Nat) : Int := (c + j) % 4294967296
def xorByte (key : List Int) (c : Int) (nonce xs : List Int) (i : Nat) : Int := bits .xor .u8 (rd xs i) (rd (block key (ctr c (i / 64)) nonce) (i % 64))
def xorTo (key : List Int) (c : Int) (nonce xs : List Int) (n : Nat) : List Int := (List.range n).foldl (fun o i => o.set i (xorByte key c nonce xs i)) (List.replicate xs.length 0)
def xorStream (key : List Int) (c : Int) (nonce xs : List Int) : List Int := xorTo key c nonce xs xs.length
theorem xorTo_succ (key : List Int) (c : Int) (nonce xs : List Int) (n : Nat) : xorTo key c nonce xs (n + 1) = (xorTo key c nonce xs n).set n (xorByte key c nonce xs n) := foldl_succ _ _ _
theorem xorTo_length (key : List Int) (c : Int) (nonce xs : List Int) : ∀ n, (xorTo key c nonce xs n).length = xs.length
  | 0 => by simp [xorTo]
  | n + 1 => by rw [xorTo_succ, List.length_set]; exact xorTo_length key c nonce xs n
theorem xorStream_length (key : List Int) (c : Int) (nonce xs : List Int) : (xorStream key c nonce xs).length = xs.length := xorTo_length _ _ _ _ _
theorem ctr_bound (c : Int) (j : Nat) : 0 ≤ ctr c j ∧ ctr c j < 4294967296 := ⟨Int.emod_nonneg _ (by decide), Int.emod_lt_of_pos _ (by decide)⟩
theorem ctr_succ (c : Int) (j : Nat) : (ctr c j + 1) % 4294967296 = ctr c (j + 1) := by unfold ctr; omega
theorem ctr_zero {c : Int} (h : 0 ≤ c ∧ c < 4294967296) : ctr c 0 = c := by unfold ctr; omega
theorem block_length (key : List Int) (c : Int) (nonce : List Int) : (block key c nonce).length = 64 := outTo_length _ _ _
theorem info23 : (Tryd.prog.info? 27).map (·.size) = some 32 := by kernel_rfl
theorem arr23 : Tryd.prog.underlying 27 = some (.array 32 5) := by kernel_rfl
theorem info24 : (Tryd.prog.info? 97).map (·.size) = some 12 := by kernel_rfl
theorem arr24 : Tryd.prog.underlying 97 = some (.array 12 5) := by kernel_rfl
/-- What the blocks of a call of XOR hold. -/
structure XS (w wr : World) (key nonce out : List Int) : Prop where
  k : Blk wr w.heap.size 27 (ints .u8 key)
  n : Blk wr (w.heap.size + 1) 97 (ints .u8 nonce)
  o : Blk wr (w.heap.size + 1 + 1) 5 (ints .u8 out)
  below : Below w.heap.size w wr
  size : w.heap.size + 1 + 1 < wr.heap.size

/-- In a block of the stream. -/
structure XI (w wr : World) (H : Nat) (key nonce out blk : List Int) : Prop extends XS w wr key nonce out where
  s : Blk wr H 155 (ints .u8 blk)
  lt : w.heap.size + 1 + 1 < H
theorem XI.start {w wr wx : World} {key nonce out blk : List Int} (h : XS w wr key nonce out) (hb : Below wr.heap.size wr wx) :
    XI w ((wx.alloc (.cells (ints .u8 (List.replicate 64 0)).toArray 155)).setRow wx.heap.size (ints .u8 blk).toArray) wx.heap.size key nonce out blk := by
  have h1 := h.size
  have h2 := hb.size
  refine ⟨⟨((h.k.belowAll hb).alloc _).setRowOther (by omega) _, ((h.n.belowAll hb).alloc _).setRowOther (by omega) _, ((h.o.belowAll hb).alloc _).setRowOther (by omega) _, ?_, by simp; omega⟩, (Blk.new wx 155 _).setRow _, by omega⟩
  exact below_setRow ((below_then h.below (by omega) hb).alloc (by omega) _) (by omega) _
theorem XI.next {w wr : World} {H : Nat} {key nonce out blk : List Int} (h : XI w wr H key nonce out blk) (i : Nat) (x : Int) :
    XI w (wr.setCell ⟨w.heap.size + 1 + 1, i, none⟩ (.int .u8 x)).drew H key nonce (out.set i x) blk := by
  have h1 := h.lt
  refine ⟨⟨(h.k.setOther (by simp; omega) _).drew, (h.n.setOther (by simp) _).drew, (h.o.setI i x).drew, (h.below.setCell (by simp; omega) _).drew, by simpa [World.setCell] using h.size⟩, (h.s.setOther (by simp; omega) _).drew, h1⟩

set_option maxHeartbeats 4000000 in
set_option maxRecDepth 100000 in
theorem xor_calls (key nonce xs : List Int) (c : Int) (A : Option Addr) (cap : Nat) (w : World) (hk : key.length = 32) (hn : nonce.length = 12) (rk : bytesOk key) (rn : bytesOk nonce) (hc : 0 ≤ c ∧ c < 4294967296)
    (hr : Rd w A .u8 xs) (hl : xs.length ≤ 1000000) :
    Calls Tryd.prog 106 #[.agg (ints .u8 key).toArray, .int .u32 c, .agg (ints .u8 nonce).toArray, .slice A xs.length cap] w fun e w' =>
      ∃ g, e = .returned (.slice (some ⟨g, 0, none⟩) xs.length xs.length) ∧ w.heap.size ≤ g ∧ Blk w' g 5 (ints .u8 (xorStream key c nonce xs)) ∧ Below w.heap.size w w' := by
  have HK := hid hk
  have HN := hid hn
  have HC := hid hc
  have HR := hid hr
  clear hk hn hc hr
  obtain ⟨n, hnx⟩ : ∃ n, Hd (n = xs.length) := ⟨_, hid rfl⟩
  rw [← hnx.out] at hl ⊢
  have hmk := run_make_row' (P := Tryd.prog) 24 5 (.int .u8 0) 1 undBytes infoU8 rfl .i64 .i64 n (by omega) (by omega)
  go_enter Tryd.func106, Tryd.ntmps106
  go_wp2_with fail
  clear hmk
  go_loopg [1, 10] (n + 64) (fun kq v1 v10 wr => ∃ j : Nat, v10 = .int .i64 (64 * (j : Int)) ∧ v1 = .int .u32 (ctr c j) ∧ Hd (kq + 64 * j = n + 64) ∧ XS w wr key nonce (xorTo key c nonce xs (min (64 * j) n)))
  case atStart =>
    refine ⟨0, rfl, by rw [ctr_zero HC.out], hid (by omega), ?_, ?_, ?_, ?_, ?_⟩
    · exact ((Blk.new w 27 (ints .u8 key)).alloc _).alloc _
    · exact (Blk.new' (w.alloc _) 97 (ints .u8 nonce) _ (by simp)).alloc _
    · rw [made_ints]
      have := Blk.new' ((w.alloc (.cells (ints .u8 key).toArray 27)).alloc (.cells (ints .u8 nonce).toArray 97)) 5 (ints .u8 (List.replicate n 0)) (w.heap.size + 1 + 1) (by simp)
      rw [show xorTo key c nonce xs (min (64 * 0) n) = List.replicate n 0 by simp [xorTo, hnx.out]]
      exact this
    · exact (((Below.refl _ _).alloc (Nat.le_refl _) _).alloc (by simp) _).alloc (by simp; omega) _
    · simp
  case round =>
    obtain ⟨j, rfl, rfl, hq, hS⟩ := hrel
    by_cases hlt : 64 * j < n
    · have hi1 : (64 * (j : Int)) < n := by omega
      have hd1 : decide ((64 * (j : Int)) < n) = true := by simp; omega
      have hk32 : (ints .u8 key).length = 32 := by simpa using HK.out
      have hn12 : (ints .u8 nonce).length = 12 := by simpa using HN.out
      go_wp2_with (first
        | (refine load_blk rfl 27 _ rfl w.heap.size rfl 27 _ hS.k 32 5 arr23 hk32 info23 ?_)
        | (refine load_blk rfl 97 _ rfl (w.heap.size + 1) rfl 97 _ hS.n 12 5 arr24 hn12 info24 ?_)
        | (go_at_call 117; refine (block_calls key nonce (ctr c j) _ HK.out HN.out rk rn (ctr_bound c j)).mono ?_; rintro e wx ⟨rfl, hb⟩)
        | (refine store_blk rfl 155 _ _ rfl wx.heap.size _ rfl rfl 155 _ (Blk.new wx 155 (ints .u8 (List.replicate 64 0))) 64 info44 (by simpa using block_length key (ctr c j) nonce) (by simp) (ints_one _ _) ?_))
      have hI := XI.start hS hb (blk := block key (ctr c j) nonce)
      clear hS hb hk32 hn12
      obtain ⟨H, hH⟩ : ∃ H, H = wx.heap.size := ⟨_, rfl⟩
      obtain ⟨wo, rfl⟩ : ∃ wo : World, wo = wr := ⟨_, rfl⟩
      obtain ⟨gk1, hgk⟩ : ∃ g : Nat, Hd (g = gk) := ⟨gk, hid rfl⟩
      have hq1 : Hd (gk1 + 64 * j = n + 64) := hid (by rw [hgk.out]; exact hq.out)
      have hm : min (64 * j) n = 64 * j := by omega
      rw [hm] at hI
      rw [← hH] at hI ⊢
      clear hH hm hq
      go_loopg [12] 64 (fun kq v12 wr => ∃ i : Nat, v12 = .int .i64 i ∧ 64 * j ≤ i ∧ i ≤ 64 * j + 64 ∧ i ≤ n ∧ Hd (kq + i = 64 * j + 64) ∧ XI w wr H key nonce (xorTo key c nonce xs i) (block key (ctr c j) nonce))
      case atStart => exact ⟨64 * j, by go_num, by omega, by omega, by omega, hid (by omega), hI⟩
      case round =>
        clear hI
        obtain ⟨i, rfl, hi1, hi2, hi3, hq, hI⟩ := hrel
        by_cases hlt2 : i < n ∧ i < 64 * j + 64
        · obtain ⟨hlt3, hlt4⟩ := hlt2
          obtain ⟨g, o, rfl⟩ := HR.out.at (by rw [← hnx.out]; omega)
          have cb := ((HR.out.below hI.below).cellAt i (by rw [← hnx.out]; omega))
          obtain ⟨k, hk, hk64⟩ : ∃ k : Nat, Hd (i = 64 * j + k) ∧ k < 64 := ⟨i - 64 * j, hid (by omega), by omega⟩
          have cs := hI.s.cellI k (by rw [block_length]; omega)
          have co := hI.o.cellI i (by rw [xorTo_length, ← hnx.out]; omega)
          have fo := hI.o.frozen i
          have hx : Hd (xorByte key c nonce xs i = bits .xor .u8 (rd xs i) (rd (block key (ctr c j) nonce) k)) := hid (by
            have e1 : i / 64 = j := by have := hk.out; omega
            have e2 : i % 64 = k := by have := hk.out; omega
            rw [xorByte, e1, e2])
          go_wp2_with fail
          all_goals
            have a1 : IntKind.i64.wrap ((i : Int) - 64 * (j : Int)) = (k : Int) := by
              have := hk.out
              rw [IntWalk.i64_in _ (by omega)]
              omega
            have a2 : (i : Int) < n := by omega
            have a3 : (k : Int) < 64 := by omega
            refine wp_region_still_tail 13 (by kernel_rfl) (by kernel_rfl) ?_
            simp only [List.take_succ_cons, List.take_zero, List.drop_succ_cons, List.drop_zero]
            change wpStill _ _ (World.drew _) (fun a' => wpList _ _ _ _ a' (World.drew _)) _ _
            repeat still_step
            refine wpStill_nil ?_
            change wpList _ _ _ _ _ _
            clear a1 a2 a3
            go_wp2_with fail
            go_roundg (gk - 1)
            case measure => have := hq.out; omega
            case rel =>
              refine ⟨i + 1, by go_num, by omega, by omega, by omega, hid (by have := hq.out; omega), ?_⟩
              rw [xorTo_succ, hx.out]
              exact hI.next i _
        · go_wp2_with fail
          all_goals
            go_roundg (gk1 - 64)
            case measure => have := hq1.out; have := hgk.out; omega
            case rel =>
              refine ⟨j + 1, by go_num, by rw [ctr_succ], hid (by have := hq1.out; omega), ?_⟩
              rw [show min (64 * (j + 1)) n = i by omega]
              exact hI.toXS
    · have hd1 : decide ((64 * (j : Int)) < n) = false := by simp; omega
      go_wp2_with fail
      go_ret
      rw [show min (64 * j) n = xs.length by rw [← hnx.out]; omega] at hS
      exact ⟨w.heap.size + 1 + 1, rfl, by omega, hS.o, hS.below⟩
end Go.Proofs.YtckcdngnkpfcfaaDoor
/- append(s, make([]T, n)...): numbers, zeros behind them. -/
namespace Go.Cour
open Go.RowKit
theorem zeroCells_eq (k : IntKind) (n : Nat) : Builtin.zeroCells (Value.int k 0).cells n = (ints k (List.replicate n 0)).toArray := by
  apply Array.toList_inj.1
  have : Builtin.zeroCells (Value.int k 0).cells n = madeCells #[Value.int k 0] n := by simp [Builtin.zeroCells, madeCells, Value.cells]
  rw [this, toList_madeCells_one]
  simp [ints]
theorem growslice_le {old need bytes : Nat} (h : old < need) (hb : need * bytes ≤ 140737488355328) : Builtin.nextslicecap need old * bytes ≤ 281474976710656 := by
  have h1 := nextslicecap_le h
  calc Builtin.nextslicecap need old * bytes ≤ (2 * need) * bytes := Nat.mul_le_mul_right _ h1
    _ = 2 * (need * bytes) := Nat.mul_assoc _ _ _
    _ ≤ 281474976710656 := by omega
theorem run_append_zeros {P : Program} (w : World) (t tn ty e : TypeId) (k kq kn : IntKind) (bytes : Nat) (ht : P.underlying t = some (.slice e)) (htn : P.underlying tn = some (.int kn))
    (hi : (P.info? e).map (fun i => (i.zero, i.size, i.bytes)) = some (some (.int k 0), 1, bytes))
    (base : Nat) (v : Value) (xs : List Int) (hown : Own w base e k v xs) (m : Nat) (hbytes : (xs.length + m) * bytes ≤ 140737488355328) (h63 : xs.length + m ≤ 140737488355328) (hbase : base ≤ w.heap.size) :
    ∃ v' w', (Builtin.append_ #[t, tn] ty #[v, .int kq m]).run P w = .ok v' w' ∧ Own w' base e k v' (xs ++ List.replicate m 0) ∧ w.grownBy w' v.ownBlock := by
  obtain ⟨i, hi0, hz0, hz1, hz2⟩ := info_parts hi
  subst hz2
  have hmb : m * i.bytes ≤ 281474976710656 := Nat.le_trans (Nat.mul_le_mul_right _ (Nat.le_add_left _ _)) (Nat.le_trans hbytes (by omega))
  have hw : IntKind.i64.wrap (m : Int) = m := by rw [IntKind.wrap_i64]; omega
  have hneg : ¬ ((m : Int) < 0) := by omega
  have h48i : ¬ (281474976710656 < (m : Int) * (i.bytes : Int)) := by
    rw [← Int.natCast_mul]; omega
  have hw0 : IntKind.i64.wrap 0 = 0 := by rw [IntKind.wrap_i64]; rfl
  have hlen : (ints k (xs ++ List.replicate m 0)).length = (xs ++ List.replicate m 0).length * 1 := by simp [ints]
  by_cases hm : m = 0
  · subst hm
    refine ⟨v, w, ?_, by simpa using hown, ⟨rfl, rfl, rfl, Nat.le_refl _, fun _ _ _ => rfl⟩⟩
    rcases hown.2 with ⟨rfl, hx⟩ | ⟨g, cap, cur, rfl, hbg, hg, hnc, hcm, hcs, htake⟩
    · simp [Builtin.append_, run_underlying ht, run_underlying htn, sizeOf, typeInfo, hi0, asInt, asIntOf, hw0, hx]
    · simp [Builtin.append_, run_underlying ht, run_underlying htn, sizeOf, typeInfo, hi0, asInt, asIntOf, hw0, hnc, storeCells]
  · have hgrow : ∀ (base0 : Option Addr) (cap : Nat), (Builtin.firstCells i.size xs.length (.slice base0 xs.length cap)).run P w.drew = .ok (ints k xs).toArray w.drew → cap < xs.length + m →
        ∃ v' w', (Builtin.append_ #[t, tn] ty #[.slice base0 xs.length cap, .int kq m]).run P w = .ok v' w' ∧ Own w' base e k v' (xs ++ List.replicate m 0) ∧ ∀ row, w.grownBy w' row := by
      intro base0 cap hf hcap
      have hr := Lib.run_append_grow_zeros (P := P) w t tn ty e i (.int k 0) kq kn ht htn hi0 hz0 base0 xs.length cap (ints k xs) hf m (by omega) (by omega) hcap (by omega) hmb (growslice_le hcap hbytes)
      rw [zeroCells_eq, zeroCells_eq] at hr
      have hge := grownCap_ge w (xs.length + m) cap e
      have hcm : grownCap w (xs.length + m) cap e ≤ maxLen := grownCap_le_maxLen w (xs.length + m) cap e (by unfold maxLen; omega)
      refine ⟨_, _, hr, ⟨hlen, .inr ⟨w.heap.size, _, _, ?_, hbase, heap_alloc_new w.drew _, ?_, hcm, ?_, ?_⟩⟩, fun row => ⟨rfl, rfl, rfl, by simp, fun j hj _ => heap_alloc_old w.drew _ hj⟩⟩
      · simp
      · simpa using hge
      · simp [ints]; omega
      · simp only [Array.toList_append, Nat.mul_one]
        rw [ints_append, List.take_append_of_le_length (by simp [ints])]
        exact List.take_of_length_le (by simp [ints])
    rcases hown.2 with ⟨rfl, hx⟩ | ⟨g, cap, cur, rfl, hbg, hg, hnc, hcm, hcs, htake⟩
    · have hxs : xs = [] := List.length_eq_zero_iff.1 hx
      subst hxs
      obtain ⟨v', w', h1, h2, h3⟩ := hgrow none 0 (by simp [Builtin.firstCells, ints]) (by simp; omega)
      exact ⟨v', w', h1, h2, h3 _⟩
    · by_cases hroom : xs.length + m ≤ cap
      · have hst := run_storeCells_at (P := P) g xs.length e (ints k (List.replicate m 0)) 0 cur w hg (by simp [ints]; omega) (fun u hu => by
          obtain ⟨x, _, rfl⟩ := List.mem_map.1 hu; rfl)
        refine ⟨.slice (some ⟨g, 0, none⟩) (xs.length + m) cap, w.setRow g (cur.toList.take (xs.length + 0) ++ ints k (List.replicate m 0) ++ cur.toList.drop (xs.length + 0 + (ints k (List.replicate m 0)).length)).toArray, ?_, ⟨hlen, .inr ⟨g, cap, _, by simp, hbg, setRow_heap w g cur _ e (0, 0) hg, by simpa using hroom, hcm, ?_, ?_⟩⟩, ⟨rfl, rfl, rfl, by simp [World.setRow], fun j _ hj => setRow_other w g j _ (fun he => hj (by simp [Value.ownBlock, he]))⟩⟩
        · simp [Builtin.append_, run_underlying ht, run_underlying htn, sizeOf, typeInfo, zeroValue, hi0, hz0, hz1, asInt, asIntOf, hw, hneg, h48i, hroom, hm, zeroCells_eq, add_lit, hst]
        · simp [ints]; omega
        · have htk : cur.toList.take xs.length = ints k xs := by simpa using htake
          simp only [Nat.add_zero, Nat.mul_one]
          rw [htk, ints_append, List.take_append_of_le_length (by simp [ints])]
          exact List.take_of_length_le (by simp [ints])
      · have holds : ∀ (j : Nat) u, (ints k xs)[j]? = some u → w.cell? ((⟨g, 0, none⟩ : Addr).add j) = some u := World.ownsRow.cells (g := g) hown rfl
        obtain ⟨v', w', h1, h2, h3⟩ := hgrow (some ⟨g, 0, none⟩) cap (by
          have h9 := run_firstCells_some (P := P) w.drew i.size xs.length ⟨g, 0, none⟩ xs.length cap (ints k xs) (by simp [ints, hz1]) (by simpa using holds)
          exact h9) (by omega)
        exact ⟨v', w', h1, h2, h3 _⟩
/-- append(s, make([]T, n)...): s the call's own. -/
theorem append_zeros {P : Program} {w : World} {ops : Array Oper} {rest : List Oper} {o : Oper} {a : Act} {Q : Exit → Act → World → Prop} (hgd : o.guard = none) (s x : Operand) (t tn : TypeId)
    (ho : o.op = .call { callee := .builtin .append, args := #[s, x], argTypes := #[t, tn] })
    (base : Nat) (e : TypeId) (k kq kn : IntKind) (bytes : Nat) (ht : P.underlying t = some (.slice e)) (htn : P.underlying tn = some (.int kn)) (hi : (P.info? e).map (fun i => (i.zero, i.size, i.bytes)) = some (some (.int k 0), 1, bytes))
    (v : Value) (xs : List Int) (hs : a.eval s = v) (hown : Own w base e k v xs) (m : Nat) (hx : a.eval x = .int kq m)
    (hbytes : (xs.length + m) * bytes ≤ 140737488355328) (h63 : xs.length + m ≤ 140737488355328) (hbase : base ≤ w.heap.size)
    (h : ∀ v' w', Own w' base e k v' (xs ++ List.replicate m 0) → w.grownBy w' v.ownBlock → wpList P ops Q rest (a.put o.dst v') w') : wpList P ops Q (o :: rest) a w := by
  obtain ⟨v', w', hr, h1, h2⟩ := run_append_zeros (P := P) w t tn o.type e k kq kn bytes ht htn hi base v xs hown m hbytes h63 hbase
  exact Lib.wpList_append_run w hgd s x t tn ho v (.int kq m) hs hx v' w' hr (h v' w' h1 h2)
end Go.Cour
