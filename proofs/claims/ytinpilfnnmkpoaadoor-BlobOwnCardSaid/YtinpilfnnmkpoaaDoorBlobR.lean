/- The store among other things side by side; the laws' content. -/
import Derived.Test.YtinpilfnnmkpoaaDoorBlobQ
namespace Go.Proofs.YtinpilfnnmkpoaaDoor
open Go.RowKit Go.Cour
/-- A store, as one thing of memory. -/
def entSto (F : Nat → Prop) (gs : Nat) (st : StoreD) : Ent where
  F := F
  p := fun w => ∃ v vs F2, StoreAt w F gs st v vs F2
  lt := fun ⟨_, _, _, h⟩ k hk => h.lt k hk
  kept := fun ⟨v, vs, F2, h⟩ hk => ⟨v, vs, F2, h.kept hk⟩
section
variable {w0 w w' : World} {P : Nat → Addr} {F : Nat → Prop} {gs : Nat} {st st' : StoreD} {L : List Ent}
theorem stoErrs (h : HS NoF w0 w L) (hE : Errs w0 P) : ErrsAt w P w0.heap.size := (ErrsAt.of hE).below h.bel
theorem stoF (h : HS NoF w0 w (entSto F gs st :: L)) : ∀ k, F k → w0.heap.size ≤ k := fun k hk => (h.own _ (List.mem_cons_self ..) k hk).resolve_left (fun h => h)
theorem Becomes.hs (hb : Becomes w F gs w' st') (h : HS NoF w0 w (entSto F gs st :: L)) : ∃ F', HS NoF w0 w' (entSto F' gs st' :: L) := by
  obtain ⟨F', v, vs, F2, h1, h2, h3⟩ := hb
  exact ⟨F', h.upd1 0 rfl h3 (entSto F' gs st') ⟨v, vs, F2, h1⟩ h2⟩
theorem openH (id : List Int) (n : Int) (o : Option Nat) (st2 : StoreD) (hE : Errs w0 P) (h : HS NoF w0 w (entSto F gs st :: L)) (hG : Good st) (hl : id.length = 32) (h1 : openE st id n = o) (h2 : openS st id n = st2) :
    Calls Tryd.prog 11 #[.pointer (some ⟨gs, 0, none⟩), .agg (ints .u8 id).toArray, .int .i64 n] w fun e w' => e = .returned (erV P o) ∧ ∃ F', HS NoF w0 w' (entSto F' gs st2 :: L) := by
  subst h1 h2
  obtain ⟨v, vs, F2, hs⟩ := h.get (i := 0) rfl
  exact (bopen_calls id n (stoErrs h hE) h.size (stoF h) hs hG hl).mono fun e w' ⟨he, hb⟩ => ⟨he, hb.hs h⟩
theorem putH (id : List Int) (off : Int) (bs : List Int) (Ab : Option Addr) (q cb : Nat) (r : Int × Option Nat) (l2 : List Item) (hE : Errs w0 P) (h : HS NoF w0 w (entSto F gs st :: L)) (hG : Good st) (hl : id.length = 32)
    (ho : -9223372036854775808 ≤ off ∧ off < 9223372036854775808) (hq : bs.length = q) (hq2 : q ≤ 1000000) (hqc : q ≤ cb) (hAb : Ab = none → cb = 0) (hrd : Rd w Ab .u8 bs) (hsep : ∀ a, Ab = some a → bs ≠ [] → ¬ F a.block) (h1 : putOf id off bs st.l = r) (h2 : putL id off bs st.l = l2) :
    Calls Tryd.prog 19 #[.pointer (some ⟨gs, 0, none⟩), .agg (ints .u8 id).toArray, .int .i64 off, .slice Ab q cb] w fun e w' => e = .returned (.tuple #[.int .i64 r.1, erV P r.2]) ∧ ∃ F', HS NoF w0 w' (entSto F' gs { st with l := l2 } :: L) := by
  subst h1 h2
  obtain ⟨v, vs, F2, hs⟩ := h.get (i := 0) rfl
  exact (put_calls id off bs Ab q cb (stoErrs h hE) h.size (stoF h) hs hG hl ho hq hq2 hqc hAb hrd hsep).mono fun e w' ⟨he, hb⟩ => ⟨he, hb.hs h⟩
theorem getH (id : List Int) (off n : Int) (r : List Int × Option Nat) (l2 : List Item) (hE : Errs w0 P) (h : HS NoF w0 w (entSto F gs st :: L)) (hG : Good st) (hl : id.length = 32)
    (ho : -9223372036854775808 ≤ off ∧ off < 9223372036854775808) (hn : -9223372036854775808 ≤ n ∧ n < 9223372036854775808) (h1 : getOf id off n st.l = r) (h2 : touch id st.l = l2) :
    Calls Tryd.prog 20 #[.pointer (some ⟨gs, 0, none⟩), .agg (ints .u8 id).toArray, .int .i64 off, .int .i64 n] w fun e w' => ∃ A m c, e = .returned (.tuple #[.slice A m c, erV P r.2]) ∧ r.1.length = m ∧ m ≤ c ∧ (A = none → c = 0) ∧ ∃ F', HS NoF w0 w' (entSto F' gs { st with l := l2 } :: .os 5 (.slice A m c) (ints .u8 r.1) :: L) := by
  subst h1 h2
  obtain ⟨v, vs, F2, hs⟩ := h.get (i := 0) rfl
  refine (get2_calls id off n (stoErrs h hE) h.size (stoF h) hs hl (by have := hG.len; omega) (fun x hx => by have h1 := hG.b x hx; have h2 := hG.n x hx; omega) ho hn).mono fun e w' ⟨u, F', v', vs', F2', he, ho', k1, k2, k3, k4⟩ => ?_
  obtain ⟨A, c, rfl, h5, h6⟩ := ho'.partsL rfl
  refine ⟨A, _, c, he, rfl, h5, h6, F', ?_⟩
  have h7 := h.upd1 0 rfl k3 (entSto F' gs { st with l := touch id st.l }) ⟨v', vs', F2', k1⟩ k2
  have h8 : HS NoF w0 w' (.os 5 (.slice A (getOf id off n st.l).1.length c) (ints .u8 (getOf id off n st.l).1) :: entSto F' gs { st with l := touch id st.l } :: L) :=
    h7.take _ ho'.os (fun k hk => .inr (Nat.le_trans h.size (ho'.base_le k hk))) (fun f hf k hk hfk => by
      have hk' := ho'.base_le k hk
      rcases List.mem_cons.1 hf with rfl | hf
      · exact k4 k hk hfk
      · have := h.mem.lt (List.mem_cons_of_mem _ hf) k hfk; omega)
  exact h8.perm (List.Perm.swap _ _ _)
theorem statH (id : List Int) (r : Int × Bool × Option Nat) (l2 : List Item) (hE : Errs w0 P) (h : HS NoF w0 w (entSto F gs st :: L)) (hG : Good st) (hl : id.length = 32) (h1 : statOf id st.l = r) (h2 : touch id st.l = l2) :
    Calls Tryd.prog 16 #[.pointer (some ⟨gs, 0, none⟩), .agg (ints .u8 id).toArray] w fun e w' => e = .returned (.tuple #[.int .i64 r.1, .bool r.2.1, erV P r.2.2]) ∧ ∃ F', HS NoF w0 w' (entSto F' gs { st with l := l2 } :: L) := by
  subst h1 h2
  obtain ⟨v, vs, F2, hs⟩ := h.get (i := 0) rfl
  exact (stat_calls id (stoErrs h hE) h.size (stoF h) hs hl (by have := hG.len; omega)).mono fun e w' ⟨he, hb⟩ => ⟨he, hb.hs h⟩
theorem commitH (id : List Int) (o : Option Nat) (l2 : List Item) (hE : Errs w0 P) (h : HS NoF w0 w (entSto F gs st :: L)) (hG : Good st) (hl : id.length = 32) (hk : posOf id st.l < st.l.length) (hB8 : ∀ x ∈ st.l, ∀ b ∈ x.b, B8 b) (h1 : commitOf id st.l = o) (h2 : commitL id st.l = l2) :
    Calls Tryd.prog 21 #[.pointer (some ⟨gs, 0, none⟩), .agg (ints .u8 id).toArray] w fun e w' => e = .returned (erV P o) ∧ ∃ F', HS NoF w0 w' (entSto F' gs { st with l := l2 } :: L) := by
  subst h1 h2
  obtain ⟨v, vs, F2, hs⟩ := h.get (i := 0) rfl
  exact (commit_calls id (stoErrs h hE) h.size (stoF h) hs hG hl hk hB8).mono fun e w' ⟨he, hb⟩ => ⟨he, hb.hs h⟩
theorem newH (quota life : Int) (h : HS NoF w0 w L) :
    Calls Tryd.prog 10 #[.int .i64 quota, .int .i64 life] w fun e w' => ∃ gs F', e = .returned (.pointer (some ⟨gs, 0, none⟩)) ∧ HS NoF w0 w' (entSto F' gs ⟨quota, max life 1, []⟩ :: L) :=
  (bnew_calls quota life w).mono fun e w' ⟨gs, F, F2, he, h1, h2, h3⟩ => ⟨gs, F, he, h.push h3 (entSto F gs _) ⟨_, _, _, h1⟩ h2⟩
/-- The laws' content. -/
def contOf (a : Nat) : List Int := fileTo a (20 + 40 * a)
theorem contOf_length (a : Nat) : (contOf a).length = 20 + 40 * a := fileTo_length _ _
theorem contOf_B8 (a : Nat) : ∀ x ∈ contOf a, B8 x := fun x hx => by
  obtain ⟨i, _, rfl⟩ := List.mem_map.1 hx
  exact ⟨Int.emod_nonneg _ (by decide), Int.emod_lt_of_pos _ (by decide)⟩
/-- Two results: a slot, and an array that lies in a block. -/
theorem results_tmpblk {P : Program} {fn : Func} {p q : Tmp} {ty : TypeId} (h : fn.results = #[.tmp p, .cell q ty]) (tmps : Array Value) (w : World) (g : Nat) (t : TypeId) (cs : List Value) (v : Value) (n : Nat) (e : TypeId)
    (hp : tmps.getD p undef = v) (hq : tmps.getD q undef = .pointer (some ⟨g, 0, none⟩)) (hg : Blk w g t cs) (hu : P.underlying ty = some (.array n e)) (hl : cs.length = n) (hi : (P.info? ty).map (·.size) = some n) :
    (results fn tmps).run P w = .ok (.tuple #[v, .agg cs.toArray]) w := by
  have hp' : tmps[p]?.getD undef = v := by simpa using hp
  have hq' : tmps[q]?.getD undef = .pointer (some ⟨g, 0, none⟩) := by simpa using hq
  simp [results, h, hp', hq', asAddr, run_loadVar_row w g t ty cs.toArray (0, 0) _ hg hu rfl (by rw [hi]; simp [hl])]
end
set_option maxRecDepth 100000 in
theorem content_calls (a : Nat) (ha : a ≤ 1000) (w : World) :
    Calls Tryd.prog 18 #[.int .i64 (a : Int)] w fun e w' => ∃ A m c, e = .returned (.tuple #[.slice A m c, .agg (ints .u8 (shaOf (contOf a))).toArray]) ∧ (contOf a).length = m ∧ m ≤ c ∧ (A = none → c = 0) ∧ HS NoF w w' [.os 5 (.slice A m c) (ints .u8 (contOf a))] := by
  have hS := HS.start NoF w
  have HL := hid (contOf_length a)
  obtain ⟨s, hs⟩ : ∃ s : Nat, 20 + 40 * a = s := ⟨_, rfl⟩
  have e1 : 20 + 40 * (a : Int) = (s : Int) := by omega
  have hs2 : s ≤ 50000 := by omega
  have HC : Hd (fileTo (a : Int) s = contOf a) := hid (by rw [← hs]; rfl)
  have HSL := hid (shaOf_length (contOf a))
  rw [hs] at HL
  clear hs
  go_enter Tryd.func18, Tryd.ntmps18
  go_wp2_with (first
    | (refine alloc_blk rfl 30 rfl _ rfl (ints .u8 (List.replicate 32 0)) zeroHashS ?_; intro g2 w2 hga hba hBa hsa; replace hS := hS.pushBlk hBa hba hga; clear hga hba hBa hsa)
    | (go_at_call 32; refine (file_calls a s _ (by omega)).mono ?_; rintro e w3 ⟨v3, rfl, ho, hB⟩
       rw [HC.out] at ho
       obtain ⟨A, c, rfl, hc, hA⟩ := ho.partsL HL.out
       replace hS := hS.pushOwn hB ho
       clear ho hB)
    | (go_at_call 25; refine (sum1_calls (contOf a) A s c _ HL.out ((hS.os 0 rfl).rd rfl) (contOf_B8 a) (by omega)).mono ?_; rintro e w4 ⟨rfl, hB⟩; replace hS := hS.below hB; clear hB)
    | (refine hs_storeW hS 1 rfl rfl 30 _ _ rfl rfl (ints .u8 (shaOf (contOf a))) rfl (ints_one' _ _) _ infoHashS (by simp [HSL.out]) (by simp) _ rfl ?_; clear hS; intro w5 hS)
    | fail)
  exact bodyPost_ret (results_tmpblk rfl _ _ g2 _ _ _ 32 _ rfl rfl (hS.blk 1 rfl) arrHashS (by simp [HSL.out]) infoHashS) rfl ⟨A, s, c, rfl, HL.out, hc, hA, hS.sub (by simp)⟩
end Go.Proofs.YtinpilfnnmkpoaaDoor
