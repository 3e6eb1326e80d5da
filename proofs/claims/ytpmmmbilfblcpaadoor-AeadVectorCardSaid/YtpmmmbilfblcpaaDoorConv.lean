/- A text's bytes; bytes by a list that is known. -/
import Derived.Test.YtpmmmbilfblcpaaDoorArr
import Derived.Lib.ConvBytes
namespace Go.Cour
open Go.RowKit
/-- A text's bytes, as numbers. -/
def textInts (s : ByteArray) : List Int := s.data.toList.map fun b => (b.toNat : Int)
theorem textInts_length (s : ByteArray) : (textInts s).length = s.size := by simp [textInts]
/-- []byte(text). -/
theorem conv_bytes {P : Program} {ops : Array Oper} {rest : List Oper} {o : Oper} {a : Act} {w : World} {Q : Exit → Act → World → Prop} (hgd : o.guard = none) (src dst e : TypeId) (x : Operand) (ho : o.op = .convert src dst x) {u : TypeDesc}
    (hs : P.underlying src = some u) (hd : P.underlying dst = some (.slice e)) (he : P.underlying e = some (.int .u8)) (s : ByteArray) (hx : a.eval x = .string s)
    (h : ∀ (g cap : Nat) (w' : World), w.heap.size = g → Rd w' (some ⟨g, 0, none⟩) .u8 (textInts s) → Below w.heap.size w w' → wpList P ops Q rest (a.put o.dst (.slice (some ⟨g, 0, none⟩) s.size cap)) w') :
    wpList P ops Q (o :: rest) a w := by
  have hsz : (Lib.bytesWorld w e s).heap.size = w.heap.size + 1 := by
    simp [Lib.bytesWorld, World.freeze, World.alloc, World.drew, -World.alloc_eq, -World.drew_eq]
  have hB : Below w.heap.size w (Lib.bytesWorld w e s) := by
    refine ⟨?_, ?_, ?_, by omega, fun k hk => Lib.bytesWorld_at_old w e s k hk⟩
    · simp [Lib.bytesWorld, World.freeze, World.alloc, World.drew, -World.alloc_eq, -World.drew_eq]
    · simp [Lib.bytesWorld, World.freeze, World.alloc, World.drew, -World.alloc_eq, -World.drew_eq]
    · simp [Lib.bytesWorld, World.freeze, World.alloc, World.drew, -World.alloc_eq, -World.drew_eq]
  have hR : Rd (Lib.bytesWorld w e s) (some ⟨w.heap.size, 0, none⟩) .u8 (textInts s) := by
    refine .inr ⟨w.heap.size, 0, rfl, fun i hi => ?_⟩
    rw [textInts_length] at hi
    have hn := Lib.bytesWorld_at_new w e s
    have hil : i < s.data.toList.length := by simpa using hi
    have hi2 : i < s.data.size := by simpa using hi
    simp only [World.cell?, hn, Nat.zero_add, Option.isSome_none, Bool.false_eq_true, if_false]
    simp [Lib.bytesCells, rd, textInts, Array.getElem?_append]
    rw [if_pos hi, Array.getElem?_eq_getElem hi2]
    rfl
  have h1 := h w.heap.size (grownCap w s.size 0 e) _ rfl hR hB
  refine wpList_plain hgd fun K hK => ?_
  unfold Oper.wp execOp
  simp [ho, hx, Lib.run_convert_string_bytes w src dst e s hs hd he]
  exact hK _ _ h1
end Go.Cour
