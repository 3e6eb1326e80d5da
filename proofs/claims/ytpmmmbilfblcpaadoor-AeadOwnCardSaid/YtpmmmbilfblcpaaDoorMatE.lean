/- The tag's numbers: what is summed; the lowest 128 bits. -/
import Derived.Test.YtpmmmbilfblcpaaDoorMatD
namespace Go.Proofs.YtpmmmbilfblcpaaDoor
open Go.RowKit Go.Cour
theorem addTo_raw (s0 s1 s2 s3 s4 p0 p1 p2 p3 p4 : Int) : addTo [s0, s1, s2, s3, s4] [p0, p1, p2, p3, p4] 5 = [u64 (s0 + p0), u64 (s1 + p1), u64 (s2 + p2), u64 (s3 + p3), u64 (s4 + p4)] := by kernel_rfl
/-- Parts added. -/
theorem addTo_val (s p : List Int) (hs : s.length = 5) (hp : p.length = 5) (h : ∀ i, i < 5 → 0 ≤ rd s i ∧ rd s i < 134217728) (k : ∀ i, i < 5 → 0 ≤ rd p i ∧ rd p i < 134217728) :
    val5 (addTo s p 5) = val5 s + val5 p ∧ (∀ i, i < 5 → 0 ≤ rd (addTo s p 5) i ∧ rd (addTo s p 5) i < 268435456) := by
  have h0 := h 0 (by omega)
  have h1 := h 1 (by omega)
  have h2 := h 2 (by omega)
  have h3 := h 3 (by omega)
  have h4 := h 4 (by omega)
  have k0 := k 0 (by omega)
  have k1 := k 1 (by omega)
  have k2 := k 2 (by omega)
  have k3 := k 3 (by omega)
  have k4 := k 4 (by omega)
  have e : addTo s p 5 = [rd s 0 + rd p 0, rd s 1 + rd p 1, rd s 2 + rd p 2, rd s 3 + rd p 3, rd s 4 + rd p 4] := by
    have e1 := addTo_raw (rd s 0) (rd s 1) (rd s 2) (rd s 3) (rd s 4) (rd p 0) (rd p 1) (rd p 2) (rd p 3) (rd p 4)
    rw [← list5 s hs, ← list5 p hp] at e1
    rw [e1, u64_in _ (by omega), u64_in _ (by omega), u64_in _ (by omega), u64_in _ (by omega), u64_in _ (by omega)]
  rw [e]
  refine ⟨?_, fun i hi => ?_⟩
  · show rd s 0 + rd p 0 + (rd s 1 + rd p 1) * 67108864 + (rd s 2 + rd p 2) * 4503599627370496 + (rd s 3 + rd p 3) * 302231454903657293676544 + (rd s 4 + rd p 4) * 20282409603651670423947251286016 = _
    unfold val5
    omega
  · have hh : i = 0 ∨ i = 1 ∨ i = 2 ∨ i = 3 ∨ i = 4 := by omega
    rcases hh with rfl | rfl | rfl | rfl | rfl
    · show 0 ≤ rd s 0 + rd p 0 ∧ rd s 0 + rd p 0 < 268435456; omega
    · show 0 ≤ rd s 1 + rd p 1 ∧ rd s 1 + rd p 1 < 268435456; omega
    · show 0 ≤ rd s 2 + rd p 2 ∧ rd s 2 + rd p 2 < 268435456; omega
    · show 0 ≤ rd s 3 + rd p 3 ∧ rd s 3 + rd p 3 < 268435456; omega
    · show 0 ≤ rd s 4 + rd p 4 ∧ rd s 4 + rd p 4 < 268435456; omega
theorem Near.in {a : List Int} (h : Near a) : ∀ i, i < 5 → 0 ≤ rd a i ∧ rd a i < 134217728 := fun i hi => by
  by_cases h0 : i = 0
  · subst h0; have := h.lo; omega
  · have := h.hi i (by omega) hi; omega
/-- A block: bytes, a one behind. -/
theorem rd_app (xs ys : List Int) (i : Nat) : rd (xs ++ ys) i = if i < xs.length then rd xs i else rd ys (i - xs.length) := by
  unfold rd
  rw [List.getD_eq_getElem?_getD, List.getElem?_append]
  split <;> rw [List.getD_eq_getElem?_getD]
theorem rd_rep0 (n i : Nat) : rd (List.replicate n 0) i = 0 := by
  unfold rd
  rw [List.getD_eq_getElem?_getD, List.getElem?_replicate]
  split <;> rfl
theorem rd_blockOf (ys : List Int) (i : Nat) (hi : i < 17) : rd (blockOf ys) i = if i = min ys.length 16 then 1 else if i < min ys.length 16 then rd ys i else 0 := by
  unfold blockOf
  have hm : min ys.length 16 ≤ 16 := Nat.min_le_right _ _
  have hl : (ys.take (min ys.length 16)).length = min ys.length 16 := by rw [List.length_take]; omega
  rw [rd_set']
  have hlen : (ys.take (min ys.length 16) ++ (List.replicate 17 (0 : Int)).drop (min ys.length 16)).length = 17 := by rw [List.length_append, hl, List.length_drop, List.length_replicate]; omega
  rw [hlen]
  by_cases h : i = min ys.length 16
  · rw [if_pos ⟨h.symm, hi⟩, if_pos h]
  · rw [if_neg (fun hh => h hh.1.symm), if_neg h, rd_app, hl]
    by_cases h2 : i < min ys.length 16
    · rw [if_pos h2, if_pos h2, rd_take _ _ _ h2]
    · rw [if_neg h2, if_neg h2, rd_drop]
      exact rd_rep0 _ _
theorem blockOf_ok (ys : List Int) (h : ∀ i, 0 ≤ rd ys i ∧ rd ys i < 256) (i : Nat) : 0 ≤ rd (blockOf ys) i ∧ rd (blockOf ys) i < 256 := by
  by_cases hi : i < 17
  · rw [rd_blockOf ys i hi]
    have := h i
    split
    · omega
    · split <;> omega
  · unfold rd
    rw [List.getD_eq_getElem?_getD, List.getElem?_eq_none (by rw [blockOf_length]; omega)]
    simp
theorem blockOf_val (ys : List Int) (h : ∀ i, 0 ≤ rd ys i ∧ rd ys i < 256) : valB (blockOf ys) 17 < 680564733841876926926749214863536422912 := by
  have h1 := valB_in (blockOf ys) (blockOf_ok ys h) 16
  have h2 : rd (blockOf ys) 16 ≤ 1 := by
    rw [rd_blockOf ys 16 (by omega)]
    split
    · omega
    · split <;> omega
  have e : (2 : Int) ^ (8 * 16) = 340282366920938463463374607431768211456 := by decide
  rw [e] at h1
  have e2 : valB (blockOf ys) 17 = valB (blockOf ys) 16 + rd (blockOf ys) 16 * 2 ^ (8 * 16) := rfl
  rw [e2, e]
  omega
theorem parts_low (b : List Int) (h : ∀ i, 0 ≤ rd b i ∧ rd b i < 256) (hv : valB b 17 < 680564733841876926926749214863536422912) : ∀ i, i < 5 → 0 ≤ rd (parts b) i ∧ rd (parts b) i < 134217728 := fun i hi => by
  by_cases h4 : i = 4
  · subst h4
    have := parts_in4 b h
    omega
  · have := parts_in b h i (by omega)
    omega
theorem absorb_val (s p ys : List Int) (hs : Near s) (hp : p.length = 5) (hpi : ∀ i, i < 5 → 0 ≤ rd p i ∧ rd p i < 134217728) (h : ∀ i, 0 ≤ rd ys i ∧ rd ys i < 256) :
    (∃ o : Int, val5 (absorb s p ys) = (val5 s + valB (blockOf ys) 17) * val5 p - o * pP) ∧ Near (absorb s p ys) := by
  have hb := blockOf_ok ys h
  obtain ⟨h1, h2⟩ := addTo_val s (parts (blockOf ys)) hs.len (partsTo_length _ _) hs.in (parts_low _ hb (blockOf_val ys h))
  have h3 := times_val (addTo s (parts (blockOf ys)) 5) p (by rw [addTo_length]; exact hs.len) hp h2 hpi
  rw [h1, parts_val _ hb] at h3
  exact h3
/-- What is summed, by numbers. -/
def sumN (R : Int) (bs : List Int) : Nat → Int
  | 0 => 0
  | n + 1 => (sumN R bs n + valB (blockOf (bs.drop (16 * n))) 17) * R % pP
theorem sumTo_val (p bs : List Int) (hp : p.length = 5) (hpi : ∀ i, i < 5 → 0 ≤ rd p i ∧ rd p i < 134217728) (h : ∀ i, 0 ≤ rd bs i ∧ rd bs i < 256) :
    ∀ n, Near (sumTo p bs n) ∧ val5 (sumTo p bs n) % pP = sumN (val5 p) bs n
  | 0 => by
    rw [sumTo_zero]
    exact ⟨⟨by simp, by decide, fun i _ _ => by rw [rd_rep0]; omega⟩, by show val5 (List.replicate 5 0) % pP = 0; decide⟩
  | n + 1 => by
    obtain ⟨ih1, ih2⟩ := sumTo_val p bs hp hpi h n
    rw [sumTo_succ]
    obtain ⟨⟨o, ho⟩, hn⟩ := absorb_val (sumTo p bs n) p (bs.drop (16 * n)) ih1 hp hpi (fun i => by rw [rd_drop]; exact h _)
    refine ⟨hn, ?_⟩
    unfold sumN
    rw [ho, ← ih2]
    generalize val5 (sumTo p bs n) = V at *
    generalize valB (blockOf (bs.drop (16 * n))) 17 = C at *
    generalize val5 p = R at *
    have hV := Int.emod_add_mul_ediv V pP
    have e : (V + C) * R - o * pP = (V % pP + C) * R + pP * (V / pP * R - o) := by
      generalize V % pP = r at *
      generalize V / pP = q at *
      rw [← hV]
      grind
    rw [e, Int.add_mul_emod_self_left]
end Go.Proofs.YtpmmmbilfblcpaaDoor
