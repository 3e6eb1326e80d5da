/- Put and Commit as the laws see them. -/
import Derived.Test.YtinpilfnnmkpoaaDoorBlobM
import Derived.Test.YtinpilfnnmkpoaaDoorBlobL
namespace Go.Proofs.YtinpilfnnmkpoaaDoor
open Go.RowKit Go.Cour
section
variable {w : World} {P : Nat → Addr} {B : Nat} {F : Nat → Prop} {gs : Nat} {st : StoreD}
theorem putX (id : List Int) (off : Int) (bs : List Int) (Ab : Option Addr) (q cb : Nat) (hE : ErrsAt w P B) (h : Sto w B F gs st) (hG : Good st) (hid' : id.length = 32)
    (ho : -9223372036854775808 ≤ off ∧ off < 9223372036854775808) (hq : bs.length = q) (hq2 : q ≤ 1000000) (hqc : q ≤ cb) (hAb : Ab = none → cb = 0) (hrd : Rd w Ab .u8 bs) (hsep : ∀ a, Ab = some a → bs ≠ [] → ¬ F a.block) :
    Calls Tryd.prog 19 #[.pointer (some ⟨gs, 0, none⟩), .agg (ints .u8 id).toArray, .int .i64 off, .slice Ab q cb] w fun e w' => e = .returned (.tuple #[.int .i64 (putOf id off bs st.l).1, erV P (putOf id off bs st.l).2]) ∧ ∃ F', Sto w' B F' gs { st with l := putL id off bs st.l } ∧ Sub F' F w ∧ Upd F w w' ∧ Below B w w' := by
  have h0 := h
  obtain ⟨⟨v, vs, F2, h1⟩, h2, h3⟩ := h
  exact (put_calls id off bs Ab q cb hE h3 h2 h1 hG hid' ho hq hq2 hqc hAb hrd hsep).mono fun e w' ⟨he, hb⟩ => ⟨he, hb.sto h0⟩
set_option maxHeartbeats 1000000 in
set_option maxRecDepth 100000 in
/-- A blob that is none is not committed. -/
theorem commit_none (id : List Int) (hE : ErrsAt w P B) (h : Sto w B F gs st) (hid' : id.length = 32) (hlen : st.l.length ≤ 1000000) (hk : ¬ posOf id st.l < st.l.length) :
    Calls Tryd.prog 21 #[.pointer (some ⟨gs, 0, none⟩), .agg (ints .u8 id).toArray] w fun e w' => e = .returned (erV P (some 13)) ∧ ∃ F', Sto w' B F' gs st ∧ Sub F' F w ∧ Upd F w w' ∧ Below B w w' := by
  have h0 := hid h
  obtain ⟨⟨v, vs, F2, h1⟩, hF, hBw⟩ := h
  have HI := hid hid'
  have H := hid h1
  have HLEN := hid hlen
  have HT := hid (touch_none (id := id) (l := st.l) hk)
  have hsl := h1.star.length
  have hr := hid (show vs.getD (posOf id st.l) (.pointer none) = .pointer none by rw [List.getD_eq_getElem?_getD, List.getElem?_eq_none (by omega)]; rfl)
  clear hk hsl h1 hlen hid'
  go_enter Tryd.func21, Tryd.ntmps21
  go_wp2_with (first
    | (refine box_blk rfl 30 _ rfl _ rfl (ints .u8 id) rfl ?_; intro gb w1 hgb hbb hB1 hs1
       clear hgb hs1)
    | (refine load_blk rfl 30 _ rfl gb rfl 30 _ hbb 32 5 arrHash (by simp [ints, HI.out]) infoHash ?_)
    | (go_at_call 27; refine (named_calls id (H.out.below hB1) HI.out HLEN.out).mono ?_
       rintro e w2 ⟨he, ⟨F', F2', hst, hsub⟩, hup⟩
       rw [hr.out] at he
       subst he
       rw [HT.out] at hst
       have hu2 := (Upd.of_below hB1 F).trans hup (fun j _ hj => hj)
       have hsub2 : Sub F' F w := fun k hk => (hsub k hk).imp (fun h => h) (fun h => by have := hB1.size; omega)
       have e13 := (hE.below (hu2.below hBw hF)).errs.cell 13 (by omega)
       simp only [globs, List.getD_cons_zero, List.getD_cons_succ] at e13
       clear hbb)
    | fail)
  go_ret
  exact ⟨rfl, Becomes.sto h0.out ⟨F', v, vs, F2', hst, hsub2, hu2⟩⟩
end
end Go.Proofs.YtinpilfnnmkpoaaDoor
