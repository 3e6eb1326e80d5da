import Derived.Test.YtlikinglgegclaaDoorRows
import Derived.ProofKit
import Derived.LaidMore
import Derived.LaidLaws
import Derived.OpenShut
import Derived.Test.YtlikinglgegclaaDoorMgTO0
import Derived.Test.YtlikinglgegclaaDoorMgTO1
import Derived.Test.YtlikinglgegclaaDoorMgTO2
import Derived.Test.YtlikinglgegclaaDoorMgTO3
import Derived.Test.YtlikinglgegclaaDoorMgTO4
import Derived.Test.YtlikinglgegclaaDoorMgTO5
import Derived.Test.YtlikinglgegclaaDoorMgTO6
import Derived.Test.YtlikinglgegclaaDoorMgTO7
import Derived.Test.YtlikinglgegclaaDoorMgTO8
import Derived.Test.YtlikinglgegclaaDoorMgTO9
import Derived.Test.YtlikinglgegclaaDoorMgTO10
import Derived.Test.YtlikinglgegclaaDoorMgTO11
import Derived.Test.YtlikinglgegclaaDoorMgTO12
import Derived.Test.YtlikinglgegclaaDoorMgTO13
import Derived.Test.YtlikinglgegclaaDoorMgTO14
import Derived.Test.YtlikinglgegclaaDoorMgTO15
import Derived.Test.YtlikinglgegclaaDoorMgTO16
import Derived.Test.YtlikinglgegclaaDoorMgTO17
set_option linter.unusedSimpArgs false
set_option linter.unusedVariables false
open List (getElem_toArray getElem_cons_zero getElem_cons_succ)
/- What the listed variables hold: each an error of its own. -/
namespace Go.Proofs.YtlikinglgegclaaDoor
open Go.ChangeShapes Go.WideShapes Go.RowKit Go.Cour
/-- An error az errors.New makes it. -/
def errD {H : Type} (text : List UInt8) : DataW H := .iface "*errors.errorString" (.ptr (.agg [.lit (.string text)]))
def NamesAt : List (String × List UInt8) → List Nat → Prop
  | [], [] => True
  | x :: l, g :: gs => (Tryd.prog.globalNamed x.1 = some g ∧ (Tryd.prog.globals[g]?).map (·.type) = some 36) ∧ NamesAt l gs
  | _, _ => False
theorem nameES : "*" ++ "errors.errorString" = "*errors.errorString" := by decide
theorem rowES (u : TypeId) (h : Tryd.prog.typeName? 3 u = some "*errors.errorString") : u = 171 :=
  typeName_ptr_named (nm := "errors.errorString") (by rw [nameES]; kernel_rfl) (by kernel_rfl) (by decide) u (by rw [nameES]; exact h)
theorem cellsES0 : Tryd.prog.cellsOf 190 = 1 := by kernel_rfl
theorem cellsStr : Tryd.prog.cellsOf 9 = 1 := by kernel_rfl
set_option maxRecDepth 100000 in
theorem laid_errs {W : World} : ∀ (l : List (String × List UInt8)) (gs : List Nat) (ps : List MemPlace), NamesAt l gs → DataW.LaidVars Tryd.prog W (l.map fun x => (x.1, errD x.2)) ps →
    (∀ b off, MemPlace.cell b off ∈ ps → (∃ c t, W.heap[b]? = some (.cells c t (0, 0))) ∧ ∀ u v, W.cell? ⟨b, off, none⟩ = some (.iface u v) → Value.okWide Tryd.prog W .any 0 u v) →
    ∃ az : List Addr, az.length = l.length ∧ (∀ i a, az[i]? = some a → W.cell? ⟨gs.getD i 0, 0, none⟩ = some (errV a) ∧ MemPlace.cell a.block a.off ∈ ps) ∧ (ps.Nodup → az.Nodup)
  | [], gs, ps, _, _, _ => ⟨[], rfl, fun i a h => by simp at h, fun _ => List.nodup_nil⟩
  | x :: l, [], ps, hn, _, _ => hn.elim
  | x :: l, g :: gs, ps, hn, hl, hr => by
    obtain ⟨⟨hg, ht⟩, hn'⟩ := hn
    obtain ⟨g0, t0, cs0, f0, p0, q0, hg0, ht0, hv0, hd0, hq0, e0⟩ := hl
    obtain rfl := Option.some.inj (hg.symm.trans hg0)
    obtain rfl := Option.some.inj (ht.symm.trans ht0)
    subst e0
    obtain ⟨l0⟩ := cs0
    have ok0 : ∀ u v, l0 = [.iface u v] → Value.okWide Tryd.prog W .any 0 u v := fun u v e => by
      subst e
      exact (hr g 0 (by simp [MemPlace.row])).2 u v (by simpa using World.var?_cell hg0 hv0 0)
    obtain ⟨a0, s0, rfl, hc0, hs0, hz0, rfl⟩ := errorString_of_trod Tryd.underlying36 rowES Tryd.underlying171 Tryd.underlying190 rfl rfl Tryd.underlying9 cellsES0 cellsStr hd0 ok0
    obtain ⟨az, h1, h2, h3⟩ := laid_errs l gs q0 hn' hq0 (fun b off hm => hr b off (List.mem_append_right _ hm))
    refine ⟨a0 :: az, by simp [h1], fun i a hi => ?_, fun hnd => ?_⟩
    · cases i with
      | zero =>
        simp only [List.getElem?_cons_zero, Option.some.injEq] at hi
        subst hi
        exact ⟨by simpa [errV] using World.var?_cell hg0 hv0 0, by simp [MemPlace.row]⟩
      | succ i =>
        obtain ⟨h4, h5⟩ := h2 i a (by simpa using hi)
        exact ⟨by simpa using h4, List.mem_append_right _ h5⟩
    · have hnq := List.Nodup.sublist (List.sublist_append_right _ _) hnd
      refine List.nodup_cons.2 ⟨fun hm => ?_, h3 hnq⟩
      obtain ⟨i, hi⟩ := List.getElem?_of_mem hm
      have h5 := (h2 i a0 hi).2
      have h6 := (List.nodup_append.1 hnd).2.2 (MemPlace.cell a0.block a0.off) (by simp [MemPlace.row]) (MemPlace.cell a0.block a0.off) h5
      exact h6 rfl
def errTexts : List (String × List UInt8) := [("courier/api.ErrOff", [116, 104, 101, 114, 101, 32, 105, 115, 32, 110, 111, 32, 112, 111, 119, 101, 114]), ("courier/api.ErrRange", [97, 32, 110, 117, 109, 98, 101, 114, 32, 111, 117, 116, 32, 111, 102, 32, 105, 116, 115, 32, 114, 97, 110, 103, 101]), ("courier/api.ErrShort", [98, 121, 116, 101, 115, 32, 116, 104, 97, 116, 32, 101, 110, 100, 32, 116, 111, 111, 32, 101, 97, 114, 108, 121]), ("courier/api.ErrTrail", [98, 121, 116, 101, 115, 32, 98, 101, 104, 105, 110, 100, 32, 116, 104, 101, 32, 101, 110, 100]), ("courier/api.ErrForm", [110, 111, 116, 32, 97, 115, 32, 105, 116, 32, 115, 104, 111, 117, 108, 100, 32, 98, 101]), ("courier/api.ErrPanic", [115, 111, 109, 101, 116, 104, 105, 110, 103, 32, 119, 101, 110, 116, 32, 119, 114, 111, 110, 103]), ("courier/api.ErrFull", [116, 104, 101, 114, 101, 32, 105, 115, 32, 110, 111, 32, 114, 111, 111, 109]), ("courier/api.ErrStore", [97, 32, 115, 116, 111, 114, 101, 32, 116, 104, 97, 116, 32, 99, 97, 110, 39, 116, 32, 98, 101]), ("courier/api.ErrTag", [110, 111, 116, 32, 115, 101, 97, 108, 101, 100, 32, 98, 121, 32, 116, 104, 97, 116, 32, 107, 101, 121]), ("courier/api.ErrGap", [116, 111, 111, 32, 109, 97, 110, 121, 32, 97, 114, 101, 32, 109, 105, 115, 115, 105, 110, 103]), ("courier/api.ErrOld", [116, 104, 97, 116, 32, 119, 97, 115, 32, 116, 104, 101, 114, 101, 32, 97, 108, 114, 101, 97, 100, 121]), ("courier/api.ErrKey", [110, 111, 32, 107, 101, 121, 32, 121, 101, 116]), ("courier/api.ErrRoot", [97, 110, 111, 116, 104, 101, 114, 32, 114, 111, 111, 116]), ("courier/api.ErrNone", [116, 104, 101, 114, 101, 32, 105, 115, 32, 110, 111, 110, 101]), ("courier/api.ErrOpen", [105, 116, 32, 105, 115, 32, 116, 104, 101, 114, 101, 32, 97, 108, 114, 101, 97, 100, 121]), ("courier/api.ErrDigest", [97, 110, 111, 116, 104, 101, 114, 32, 100, 105, 103, 101, 115, 116]), ("courier/api.ErrState", [110, 111, 116, 32, 110, 111, 119]), ("courier/api.ErrLimit", [109, 111, 114, 101, 32, 116, 104, 97, 110, 32, 109, 97, 121, 32, 98, 101]), ("courier/api.ErrClosed", [99, 108, 111, 115, 101, 100])]
theorem namesAt : NamesAt errTexts globs := ⟨⟨by kernel_rfl, by kernel_rfl⟩, ⟨by kernel_rfl, by kernel_rfl⟩, ⟨by kernel_rfl, by kernel_rfl⟩, ⟨by kernel_rfl, by kernel_rfl⟩, ⟨by kernel_rfl, by kernel_rfl⟩, ⟨by kernel_rfl, by kernel_rfl⟩, ⟨by kernel_rfl, by kernel_rfl⟩, ⟨by kernel_rfl, by kernel_rfl⟩, ⟨by kernel_rfl, by kernel_rfl⟩, ⟨by kernel_rfl, by kernel_rfl⟩, ⟨by kernel_rfl, by kernel_rfl⟩, ⟨by kernel_rfl, by kernel_rfl⟩, ⟨by kernel_rfl, by kernel_rfl⟩, ⟨by kernel_rfl, by kernel_rfl⟩, ⟨by kernel_rfl, by kernel_rfl⟩, ⟨by kernel_rfl, by kernel_rfl⟩, ⟨by kernel_rfl, by kernel_rfl⟩, ⟨by kernel_rfl, by kernel_rfl⟩, ⟨by kernel_rfl, by kernel_rfl⟩, trivial⟩
theorem errs_of_laid {W : World} (h : laidMet Tryd.prog (errTexts.map fun x => (x.1, errD x.2)) W) : ∃ P, Errs W P := by
  obtain ⟨ps, hv, hnd, hrows⟩ := h
  obtain ⟨az, h1, h2, h3⟩ := laid_errs errTexts globs ps namesAt hv hrows
  have hl : az.length = 19 := h1
  have hget : ∀ i, i < 19 → az[i]? = some (az.getD i ⟨0, 0, none⟩) := fun i hi => by
    rw [List.getD_eq_getElem?_getD, List.getElem?_eq_getElem (by omega)]; rfl
  refine ⟨fun i => az.getD i ⟨0, 0, none⟩, fun i hi => (h2 i _ (hget i hi)).1, fun i j hi hj he => ?_, fun i hi => (hrows _ _ (h2 i _ (hget i hi)).2).1⟩
  have h4 := hget i hi
  have h5 := hget j hj
  rw [he] at h4
  have hp := List.pairwise_iff_getElem.1 (h3 hnd)
  have hgi : az[i]? = some az[i] := List.getElem?_eq_getElem (by omega)
  have hgj : az[j]? = some az[j] := List.getElem?_eq_getElem (by omega)
  have heq : az[i] = az[j] := Option.some.inj (hgi.symm.trans (h4.trans (h5.symm.trans hgj)))
  rcases Nat.lt_trichotomy i j with hlt | rfl | hlt
  · exact absurd heq (hp i j (by omega) (by omega) hlt)
  · rfl
  · exact absurd heq.symm (hp j i (by omega) (by omega) hlt)
end Go.Proofs.YtlikinglgegclaaDoor
