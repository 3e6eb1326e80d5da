/- The store as the laws see it; the chapter's examples. -/
import Derived.Test.YtinpilfnnmkpoaaDoorBlobH
import Derived.Test.YtinpilfnnmkpoaaDoorBlobI
import Derived.Test.YtinpilfnnmkpoaaDoorBlobJ
import Derived.Test.YtinpilfnnmkpoaaDoorKeyC
import Derived.Test.YtinpilfnnmkpoaaDoorErrD
import Derived.Test.YtinpilfnnmkpoaaDoorNum
namespace Go.Proofs.YtinpilfnnmkpoaaDoor
open Go.RowKit Go.Cour
def codeOf : Option Nat → Int
  | none => 0
  | some k => 101 + (k : Int)
theorem is_erV_calls (c : Int) {w : World} {P : Nat → Addr} {B : Nat} (hE : ErrsAt w P B) (o : Option Nat) (ho : ∀ k, o = some k → k < 19) :
    Calls Tryd.prog 13 #[erV P o, .int .i64 c] w fun e w' => e = .returned (.bool (codeOf o == c)) ∧ Below w.heap.size w w' := by
  cases o with
  | none => exact is_nil_calls c w
  | some k => exact is_err_calls c hE.errs k (ho k rfl)
theorem nil_neqK (w : World) : (binOp .neq 27 .nilIface .nilIface).run Tryd.prog w = .ok (.bool false) w := by
  obtain ⟨ms, hms⟩ := undErr
  have h : ∀ d : Nat, (Op.equalIn (d + 1) 27 .nilIface .nilIface).run Tryd.prog w = .ok true w := fun d => by simp [Op.equalIn, run_underlying hms]
  simp only [binOp]
  simp [Op.equal, Op.maxDepth, h 9999]
theorem nil_eqlK (w : World) : (binOp .eql 27 .nilIface .nilIface).run Tryd.prog w = .ok (.bool true) w := by
  obtain ⟨ms, hms⟩ := undErr
  have h : ∀ d : Nat, (Op.equalIn (d + 1) 27 .nilIface .nilIface).run Tryd.prog w = .ok true w := fun d => by simp [Op.equalIn, run_underlying hms]
  simp only [binOp]
  simp [Op.equal, Op.maxDepth, h 9999]
/-- The store as the laws see it: all that it stands on lies from B on. -/
def Sto (w : World) (B : Nat) (F : Nat → Prop) (gs : Nat) (st : StoreD) : Prop := (∃ v vs F2, StoreAt w F gs st v vs F2) ∧ (∀ k, F k → B ≤ k) ∧ B ≤ w.heap.size
theorem Sto.lt {w : World} {B : Nat} {F : Nat → Prop} {gs : Nat} {st : StoreD} (h : Sto w B F gs st) (k : Nat) (hk : F k) : k < w.heap.size := by
  obtain ⟨⟨v, vs, F2, h1⟩, _⟩ := h
  exact h1.lt k hk
theorem Sto.below {w w' : World} {B : Nat} {F : Nat → Prop} {gs : Nat} {st : StoreD} (h : Sto w B F gs st) (hb : Below w.heap.size w w') : Sto w' B F gs st := by
  obtain ⟨⟨v, vs, F2, h1⟩, h2, h3⟩ := h
  exact ⟨⟨v, vs, F2, h1.below hb⟩, h2, Nat.le_trans h3 hb.size⟩
theorem Sto.upd {w w' : World} {B : Nat} {F G : Nat → Prop} {gs : Nat} {st : StoreD} (h : Sto w B F gs st) (hu : Upd G w w') (hd : ∀ k, F k → ¬ G k) : Sto w' B F gs st := by
  obtain ⟨⟨v, vs, F2, h1⟩, h2, h3⟩ := h
  exact ⟨⟨v, vs, F2, h1.upd hu hd⟩, h2, Nat.le_trans h3 hu.size⟩
theorem Becomes.sto {w w' : World} {B : Nat} {F : Nat → Prop} {gs : Nat} {st st' : StoreD} (h : Sto w B F gs st) (hb : Becomes w F gs w' st') : ∃ F', Sto w' B F' gs st' ∧ Sub F' F w ∧ Upd F w w' ∧ Below B w w' := by
  obtain ⟨F', v, vs, F2, h1, h2, h3⟩ := hb
  exact ⟨F', ⟨⟨v, vs, F2, h1⟩, fun k hk => by
    rcases h2 k hk with h4 | h4
    · exact h.2.1 k h4
    · have := h.2.2; omega, Nat.le_trans h.2.2 h3.size⟩, h2, h3, h3.below h.2.2 h.2.1⟩
section
variable {w : World} {P : Nat → Addr} {B : Nat} {F : Nat → Prop} {gs : Nat} {st : StoreD}
theorem openX (id : List Int) (n : Int) (hE : ErrsAt w P B) (h : Sto w B F gs st) (hG : Good st) (hid' : id.length = 32) :
    Calls Tryd.prog 11 #[.pointer (some ⟨gs, 0, none⟩), .agg (ints .u8 id).toArray, .int .i64 n] w fun e w' => e = .returned (erV P (openE st id n)) ∧ ∃ F', Sto w' B F' gs (openS st id n) ∧ Sub F' F w ∧ Upd F w w' ∧ Below B w w' := by
  have h0 := h
  obtain ⟨⟨v, vs, F2, h1⟩, h2, h3⟩ := h
  exact (bopen_calls id n hE h3 h2 h1 hG hid').mono fun e w' ⟨he, hb⟩ => ⟨he, hb.sto h0⟩
theorem usedX (h : Sto w B F gs st) (hG : Good st) :
    Calls Tryd.prog 14 #[.pointer (some ⟨gs, 0, none⟩)] w fun e w' => e = .returned (.int .i64 (used st.l)) ∧ Below w.heap.size w w' := by
  obtain ⟨⟨v, vs, F2, h1⟩, _⟩ := h
  exact (bused_calls h1 hG).mono fun e w' ⟨he, q, hq⟩ => ⟨he, hq ▸ below_drewN (Below.refl _ _) q⟩
theorem tickX (h : Sto w B F gs st) (hlen : st.l.length ≤ 1000000) (hage : ∀ x ∈ st.l, 0 ≤ x.age ∧ x.age < 1000000) :
    Calls Tryd.prog 15 #[.pointer (some ⟨gs, 0, none⟩)] w fun e w' => e = .returned (.int .i64 ((st.l.length : Int) - (tickL st).length)) ∧ ∃ F', Sto w' B F' gs { st with l := tickL st } ∧ Sub F' F w ∧ Upd F w w' ∧ Below B w w' := by
  have h0 := h
  obtain ⟨⟨v, vs, F2, h1⟩, h2, h3⟩ := h
  exact (btick_calls h1 hlen hage).mono fun e w' ⟨he, hb⟩ => ⟨he, hb.sto h0⟩
theorem statX (id : List Int) (hE : ErrsAt w P B) (h : Sto w B F gs st) (hid' : id.length = 32) (hlen : st.l.length ≤ 1000000) :
    Calls Tryd.prog 16 #[.pointer (some ⟨gs, 0, none⟩), .agg (ints .u8 id).toArray] w fun e w' => e = .returned (.tuple #[.int .i64 (statOf id st.l).1, .bool (statOf id st.l).2.1, erV P (statOf id st.l).2.2]) ∧ ∃ F', Sto w' B F' gs { st with l := touch id st.l } ∧ Sub F' F w ∧ Upd F w w' ∧ Below B w w' := by
  have h0 := h
  obtain ⟨⟨v, vs, F2, h1⟩, h2, h3⟩ := h
  exact (stat_calls id hE h3 h2 h1 hid' hlen).mono fun e w' ⟨he, hb⟩ => ⟨he, hb.sto h0⟩
theorem getX (id : List Int) (off n : Int) (hE : ErrsAt w P B) (h : Sto w B F gs st) (hid' : id.length = 32) (hlen : st.l.length ≤ 1000000) (hbl : ∀ x ∈ st.l, x.b.length ≤ 1000000)
    (ho : -9223372036854775808 ≤ off ∧ off < 9223372036854775808) (hn : -9223372036854775808 ≤ n ∧ n < 9223372036854775808) :
    Calls Tryd.prog 20 #[.pointer (some ⟨gs, 0, none⟩), .agg (ints .u8 id).toArray, .int .i64 off, .int .i64 n] w fun e w' => (∃ u, e = .returned (.tuple #[u, erV P (getOf id off n st.l).2]) ∧ Own w' w.heap.size 5 .u8 u (getOf id off n st.l).1) ∧ ∃ F', Sto w' B F' gs { st with l := touch id st.l } ∧ Sub F' F w ∧ Upd F w w' ∧ Below B w w' := by
  have h0 := h
  obtain ⟨⟨v, vs, F2, h1⟩, h2, h3⟩ := h
  exact (get_calls id off n hE h3 h2 h1 hid' hlen hbl ho hn).mono fun e w' ⟨he, hb⟩ => ⟨he, hb.sto h0⟩
theorem allX (h : Sto w B F gs st) (hlen : st.l.length ≤ 1000000) :
    Calls Tryd.prog 17 #[.pointer (some ⟨gs, 0, none⟩)] w fun e w' => ∃ v', e = .returned v' ∧ OwnA w' 30 32 v' (idRows st.l) ∧ (∀ k, v'.ownBlock = some k → w.heap.size ≤ k) ∧ Below w.heap.size w w' := by
  obtain ⟨⟨v, vs, F2, h1⟩, _⟩ := h
  exact ball_calls h1 hlen
end
theorem newX (quota life : Int) (w : World) (B : Nat) (hB : B ≤ w.heap.size) :
    Calls Tryd.prog 10 #[.int .i64 quota, .int .i64 life] w fun e w' => ∃ gs F, e = .returned (.pointer (some ⟨gs, 0, none⟩)) ∧ Sto w' B F gs ⟨quota, max life 1, []⟩ ∧ (∀ k, F k → w.heap.size ≤ k) ∧ Below w.heap.size w w' :=
  (bnew_calls quota life w).mono fun e w' ⟨gs, F, F2, he, h1, h2, h3⟩ => ⟨gs, F, he, ⟨⟨_, _, F2, h1⟩, fun k hk => Nat.le_trans hB (h2 k hk), Nat.le_trans hB h3.size⟩, h2, h3⟩
theorem builtHash0 : Tryd.prog.built 30 [] = some (ints .u8 (List.replicate 32 0)).toArray := by kernel_rfl
/-- A digest of one number. -/
def hash1 (b : Int) : List Int := b :: List.replicate 31 0
theorem hash1_length (b : Int) : (hash1 b).length = 32 := by simp [hash1]
theorem builtHash1 (b : Int) : Tryd.prog.built 30 [(0, .int .u8 b)] = some (ints .u8 (hash1 b)).toArray := by kernel_rfl
theorem Good.nil (quota life : Int) (h : 0 ≤ quota ∧ quota < 4611686018427387904) : Good ⟨quota, life, []⟩ := ⟨by simp, fun x hx => by simp at hx, fun x hx => by simp at hx, h⟩
set_option maxHeartbeats 1000000 in
set_option maxRecDepth 100000 in
theorem first20_calls {w : World} {P : Nat → Addr} (hE : Errs w P) : Calls Tryd.prog 8 #[] w fun e w' => e = .returned (.bool true) ∧ Below w.heap.size w w' := by
  have hEA := ErrsAt.of hE
  have hne := nil_eqlK
  obtain ⟨Z, hZ⟩ : ∃ Z, Hd (List.replicate 32 (0 : Int) = Z) := ⟨_, ⟨rfl⟩⟩
  obtain ⟨H1, hH1⟩ : ∃ H1, Hd (hash1 1 = H1) := ⟨_, ⟨rfl⟩⟩
  have z32 : Z.length = 32 := by rw [← hZ.out]; simp
  have z1 : H1.length = 32 := by rw [← hH1.out]; exact hash1_length 1
  have hg0 := Good.nil 100 5 (by omega)
  have hm : max (5 : Int) 1 = 5 := by omega
  have hgo : getOf Z 0 1 [] = ([], some 13) := rfl
  have htt : touch Z [] = [] := rfl
  have hoe : openE ⟨100, 5, []⟩ H1 50 = none := by simp [openE, posOf, used]
  have hos : openS ⟨100, 5, []⟩ H1 50 = ⟨100, 5, [newItem H1 50]⟩ := by simp [openS, posOf, used]
  have hg1 : Good ⟨100, 5, [newItem H1 50]⟩ := ⟨by simp, fun x hx => by simp at hx; subst hx; simp [newItem], fun x hx => by simp at hx; subst hx; simp [newItem], by simp⟩
  have hus : used [newItem H1 50] = 50 := by simp [used, newItem]
  go_enter Tryd.func8, Tryd.ntmps8
  go_wp2_with (first
    | (go_at_call 10; refine (newX 100 5 w w.heap.size (Nat.le_refl _)).mono ?_; rintro e w1 ⟨gs, F, rfl, hs, hF, hB1⟩; rw [hm] at hs)
    | (refine build_to rfl 30 #[] rfl (ints .u8 (List.replicate 32 0)).toArray (by rw [Array.toList_map]; exact builtHash0) ?_; rw [hZ.out])
    | (refine build_to rfl 30 _ rfl (ints .u8 (hash1 1)).toArray (by rw [Array.toList_map]; exact builtHash1 1) ?_; rw [hH1.out])
    | (go_at_call 20; refine (getX Z 0 1 (hEA.below hB1) hs z32 (by simp) (fun x hx => by simp at hx) (by omega) (by omega)).mono ?_
       rintro e w2 ⟨⟨u, rfl, ho⟩, F', hs2, _, _, hB2⟩
       simp only [hgo] at ho ⊢
       simp only [htt] at hs2
       obtain ⟨A, c, hu, _, _, _⟩ := ho.parts
       subst hu
       have hB12 : Below w.heap.size w w2 := hB1.trans hB2)
    | (go_at_call 13; refine (is_erV_calls 114 (hEA.below hB12) (some 13) (fun k hk => by injection hk with hk; omega)).mono ?_; rintro e w3 ⟨rfl, hB3⟩)
    | (go_at_call 11; refine (openX H1 50 (hEA.below (hB12.trans (hB3.mono hB12.size))) (hs2.below hB3) hg0 z1).mono ?_
       rintro e w4 ⟨rfl, F4, hs4, _, _, hB4⟩
       rw [hoe]
       rw [hos] at hs4
       simp only [erV])
    | (go_at_call 14; refine (usedX hs4 hg1).mono ?_; rintro e w5 ⟨rfl, hB5⟩; simp only [hus])
    | fail)
  go_ret
  have h1 := hB12.trans (hB3.mono hB12.size)
  have h2 := h1.trans hB4
  exact ⟨rfl, h2.trans (hB5.mono h2.size)⟩
end Go.Proofs.YtinpilfnnmkpoaaDoor
