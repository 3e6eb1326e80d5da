/- Slices of one's own: where they lie, a place of them written. -/
import Derived.Test.YtpmmmbilfblcpaaDoorFirst7
namespace Go.Proofs.YtpmmmbilfblcpaaDoor
open Go.RowKit Go.Cour
theorem nil_neq (w : World) : (binOp .neq 33 .nilIface .nilIface).run Tryd.prog w = .ok (.bool false) w := by
  obtain ⟨ms, hms⟩ := undErr
  have h : ∀ d : Nat, (Op.equalIn (d + 1) 33 .nilIface .nilIface).run Tryd.prog w = .ok true w := fun d => by simp [Op.equalIn, run_underlying hms]
  simp only [binOp]
  simp [Op.equal, Op.maxDepth, h 9999]
/-- An own slice that is not empty: where it lies; a place of it written. -/
theorem own_at {w : World} {base : Nat} {e : TypeId} {k : IntKind} {v : Value} {xs : List Int} (h : Own w base e k v xs) (hx : 0 < xs.length) :
    ∃ g cap, v = .slice (some ⟨g, 0, none⟩) xs.length cap ∧ base ≤ g ∧ (∀ i, i < xs.length → w.cell? ⟨g, i, none⟩ = some (.int k (rd xs i))) ∧ (∀ i, w.frozen? ⟨g, i, none⟩ = false) ∧
      ∀ i x, Own (w.setCell ⟨g, i, none⟩ (.int k x)) base e k v (xs.set i x) := by
  obtain ⟨h1, ⟨rfl, h2⟩ | ⟨g, cap, cur, rfl, hg, hh, hn, hm, hs, ht⟩⟩ := h
  · omega
  · refine ⟨g, cap, rfl, hg, fun i hi => ?_, fun i => by simp [World.frozen?, hh], fun i x => ⟨by simp, .inr ⟨g, cap, cur.setIfInBounds i (.int k x), by simp, hg, heap_setCell_same w g i cur e _ hh, by simpa using hn, hm, by simpa using hs, ?_⟩⟩⟩
    · have hc : w.cell? ⟨g, i, none⟩ = cur[i]? := cell_of_row w g i cur e (0, 0) hh
      rw [hc]
      have : (ints k xs)[i]? = cur[i]? := by
        rw [← ht, Nat.mul_one, List.getElem?_take, if_pos hi]; simp
      rw [← this, ints_get k xs i hi]
    · rw [← ints_set, ← ht, List.length_set, Array.toList_setIfInBounds, List.take_set]
theorem own_rd {w : World} {base : Nat} {e : TypeId} {k : IntKind} {A : Option Addr} {l c : Nat} {xs : List Int} (h : Own w base e k (.slice A l c) xs) : Rd w A k xs := by
  obtain ⟨A', c', hv, _, _, hr⟩ := h.slice
  injection hv with hv
  subst hv
  exact hr
theorem own_lt {w : World} {base : Nat} {e : TypeId} {k : IntKind} {v : Value} {xs : List Int} (h : Own w base e k v xs) (j : Nat) (hj : v.ownBlock = some j) : j < w.heap.size := by
  rcases h.2 with ⟨rfl, _⟩ | ⟨g, cap, cur, rfl, hg, hh, r⟩
  · simp [Value.ownBlock] at hj
  · have : g = j := by simpa [Value.ownBlock] using hj
    subst this
    exact (Array.getElem?_eq_some_iff.1 hh).1
theorem own_far {w : World} {base B g i : Nat} {e : TypeId} {k : IntKind} {v u : Value} {xs : List Int} (h : Own w base e k v xs) (hl : ∀ j, v.ownBlock = some j → j < B) (hg : B ≤ g) : Own (w.setCell ⟨g, i, none⟩ u) base e k v xs :=
  h.setOther (fun he => by have := hl g he.symm; omega) u
end Go.Proofs.YtpmmmbilfblcpaaDoor
