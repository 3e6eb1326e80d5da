/-
  No cell of these rows narrows 'for every input' (looked for: loops, veiled, ifaces, maps, wideKeys, modest, calm, conditions, laid).
  DERIVED. THE GIVEN ROWS OF THIS SEAT. 5 by the template 'for every input the law returns true; each argument reads behind the call as it read before'; 0 by the template 'total and deterministic' (their statements: YtofpmigifimfoaaTotals.lean).
  GIVEN WITH THE SEED: the statements are not yours to turn. If you find one false, say at which input.
  Laid BY PROGRAM, IN A SANDBOX (cutbox-rows.mjs): the forced cells as the released guide's own fill.sh prints them over the translation f8e363d861392bba… (all of the seat's roots in one cut). By AI agents, Wed Nov 11 2026. No macro, syntax, notation, axiom, sorry.
-/
import Derived.Test.YtofpmigifimfoaaChecked
import GoSem.Claim
import GoSem.ClaimJoined
import GoSem.ClaimMapViews
import Derived.JoinedTies
import Derived.KernelRfl
namespace Go.Proofs.Ytofpmigifimfoaa
/- THE CELL 'sum', in the pinned program and in every row, IS THE sha256 OF THE DUMP (.gsa) THAT YtofpmigifimfoaaProg.lean LOADS. Nothing in Lean hashes anything: it is a label: what it is worth is what the hold of that sum in a sandbox is worth. -/
noncomputable def Try.pinned : Pinned := { name := "ytofpmigifimfoaa", sum := "f8e363d861392bba300b2a8039beddd9f053b558041ed15a7a7485192406386a", checked := Try.checked }
namespace Rows
def none {H : Type} : Left H := { results := [], args := [] }

/-- 'courierlaw23.PacePlays': WHATEVER THE INPUT: true; the input reads as it did. -/
def pacePlaysSpec : ChangeSpec := { name := "pacePlays", fn := fun _ => fun
  | [d1, d2, d3] => { results := [.lit (.bool true)], args := [d1, d2, d3] }
  | _ => none }
def pacePlaysRow : OpenClaim := { program := "ytofpmigifimfoaa", sum := "f8e363d861392bba300b2a8039beddd9f053b558041ed15a7a7485192406386a", func := "courier/courierlaw23.PacePlays", spec := "pacePlays", inPlace := ["math.Float64bits", "math.Float64frombits", "math.archCeil", "math.archFloor", "math.archTrunc"], apart := false }
def PacePlaysSaid : Prop := pacePlaysRow.holds Try.pinned (OpenSpec.ofChange pacePlaysSpec)

/-- ITS FALSE NEIGHBOUR: 'it returns false'. Refute it at one input. -/
def pacePlaysWrong : ChangeSpec := { name := "pacePlays", fn := fun _ => fun
  | [d1, d2, d3] => { results := [.lit (.bool false)], args := [d1, d2, d3] }
  | _ => none }
def PacePlaysWrongFalsely : Prop := pacePlaysRow.holds Try.pinned (OpenSpec.ofChange pacePlaysWrong)

/-- 'courierlaw23.PaceRuns': WHATEVER THE INPUT: true; the input reads as it did. -/
def paceRunsSpec : ChangeSpec := { name := "paceRuns", fn := fun _ => fun
  | [d] => { results := [.lit (.bool true)], args := [d] }
  | _ => none }
def paceRunsRow : OpenClaim := { program := "ytofpmigifimfoaa", sum := "f8e363d861392bba300b2a8039beddd9f053b558041ed15a7a7485192406386a", func := "courier/courierlaw23.PaceRuns", spec := "paceRuns", inPlace := ["math.Float64bits", "math.Float64frombits", "math.archCeil", "math.archFloor", "math.archTrunc"], apart := false }
def PaceRunsSaid : Prop := paceRunsRow.holds Try.pinned (OpenSpec.ofChange paceRunsSpec)

/-- ITS FALSE NEIGHBOUR: 'it returns false'. Refute it at one input. -/
def paceRunsWrong : ChangeSpec := { name := "paceRuns", fn := fun _ => fun
  | [d] => { results := [.lit (.bool false)], args := [d] }
  | _ => none }
def PaceRunsWrongFalsely : Prop := paceRunsRow.holds Try.pinned (OpenSpec.ofChange paceRunsWrong)

/-- 'courierlaw23.PaceSays': WHATEVER THE INPUT: true; the input reads as it did. -/
def paceSaysSpec : ChangeSpec := { name := "paceSays", fn := fun _ => fun
  | [d1, d2, d3, d4] => { results := [.lit (.bool true)], args := [d1, d2, d3, d4] }
  | _ => none }
def paceSaysRow : OpenClaim := { program := "ytofpmigifimfoaa", sum := "f8e363d861392bba300b2a8039beddd9f053b558041ed15a7a7485192406386a", func := "courier/courierlaw23.PaceSays", spec := "paceSays", inPlace := ["math.Float64bits", "math.Float64frombits", "math.archCeil", "math.archFloor", "math.archTrunc"], apart := false }
def PaceSaysSaid : Prop := paceSaysRow.holds Try.pinned (OpenSpec.ofChange paceSaysSpec)

/-- ITS FALSE NEIGHBOUR: 'it returns false'. Refute it at one input. -/
def paceSaysWrong : ChangeSpec := { name := "paceSays", fn := fun _ => fun
  | [d1, d2, d3, d4] => { results := [.lit (.bool false)], args := [d1, d2, d3, d4] }
  | _ => none }
def PaceSaysWrongFalsely : Prop := paceSaysRow.holds Try.pinned (OpenSpec.ofChange paceSaysWrong)

/-- 'courierlaw23.PaceEdges': WHATEVER THE INPUT: true; the input reads as it did. -/
def paceEdgesSpec : ChangeSpec := { name := "paceEdges", fn := fun _ => fun
  | [d1, d2, d3] => { results := [.lit (.bool true)], args := [d1, d2, d3] }
  | _ => none }
def paceEdgesRow : OpenClaim := { program := "ytofpmigifimfoaa", sum := "f8e363d861392bba300b2a8039beddd9f053b558041ed15a7a7485192406386a", func := "courier/courierlaw23.PaceEdges", spec := "paceEdges", inPlace := ["math.Float64bits", "math.Float64frombits", "math.archCeil", "math.archFloor", "math.archTrunc"], apart := false }
def PaceEdgesSaid : Prop := paceEdgesRow.holds Try.pinned (OpenSpec.ofChange paceEdgesSpec)

/-- ITS FALSE NEIGHBOUR: 'it returns false'. Refute it at one input. -/
def paceEdgesWrong : ChangeSpec := { name := "paceEdges", fn := fun _ => fun
  | [d1, d2, d3] => { results := [.lit (.bool false)], args := [d1, d2, d3] }
  | _ => none }
def PaceEdgesWrongFalsely : Prop := paceEdgesRow.holds Try.pinned (OpenSpec.ofChange paceEdgesWrong)

/-- 'courierlaw23.PaceLeft': WHATEVER THE INPUT: true; the input reads as it did. -/
def paceLeftSpec : ChangeSpec := { name := "paceLeft", fn := fun _ => fun
  | [d1, d2, d3] => { results := [.lit (.bool true)], args := [d1, d2, d3] }
  | _ => none }
def paceLeftRow : OpenClaim := { program := "ytofpmigifimfoaa", sum := "f8e363d861392bba300b2a8039beddd9f053b558041ed15a7a7485192406386a", func := "courier/courierlaw23.PaceLeft", spec := "paceLeft", inPlace := ["math.Float64bits", "math.Float64frombits", "math.archCeil", "math.archFloor", "math.archTrunc"], apart := false }
def PaceLeftSaid : Prop := paceLeftRow.holds Try.pinned (OpenSpec.ofChange paceLeftSpec)

/-- ITS FALSE NEIGHBOUR: 'it returns false'. Refute it at one input. -/
def paceLeftWrong : ChangeSpec := { name := "paceLeft", fn := fun _ => fun
  | [d1, d2, d3] => { results := [.lit (.bool false)], args := [d1, d2, d3] }
  | _ => none }
def PaceLeftWrongFalsely : Prop := paceLeftRow.holds Try.pinned (OpenSpec.ofChange paceLeftWrong)

/- THE SECOND FORM. 'bulk': how many values and letters a reading holds, each counted each time it is reached (what is shared counts as often as it is met; a slice's spare places count too). A statement '..UptoSaid' is the law's where the arguments, and the package variables that the reading takes, are together of bulk at most 1048576: NARROWER than '..Said'. Prove '..Said' where nothing that the law and all that it calls make is longer than what came in: it says more and counts as full. Else prove '..UptoSaid'. A law counts once. -/
mutual
def uptoBulk {H : Type} : DataW H → Nat
  | .lit (.string bytes) => bytes.length + 1
  | .lit _ => 1
  | .nil => 1
  | .ptr d => uptoBulk d + 1
  | .slice elems spare => uptoBulkAll elems + uptoBulkAll spare + 1
  | .agg parts => uptoBulkAll parts + 1
  | .iface _ d => uptoBulk d + 1
  | .map entries => uptoBulkEntries entries + 1
  | .held _ => 1
def uptoBulkAll {H : Type} : List (DataW H) → Nat
  | [] => 0
  | d :: r => uptoBulk d + uptoBulkAll r
def uptoBulkEntries {H : Type} : List (Lit × DataW H) → Nat
  | [] => 0
  | x :: r => uptoBulkEntry x + uptoBulkEntries r
def uptoBulkEntry {H : Type} : Lit × DataW H → Nat
  | (.string bytes, d) => bytes.length + uptoBulk d + 1
  | (_, d) => uptoBulk d + 1
 end
def uptoSmall : (H : Type) → List (DataW H) → Bool := fun _ ds => decide (uptoBulkAll ds ≤ 1048576)
def OpenSpec.upto (s : _root_.Go.ChangeSpec) : _root_.Go.OpenSpec := { _root_.Go.OpenSpec.ofChange s with cond := some uptoSmall }

/-- 'courierlaw23.PacePlays', WHERE WHAT IT READS IS OF BULK AT MOST 1048576: true; the input reads as it did. -/
def pacePlaysUptoRow : OpenClaim := { program := "ytofpmigifimfoaa", sum := "f8e363d861392bba300b2a8039beddd9f053b558041ed15a7a7485192406386a", func := "courier/courierlaw23.PacePlays", spec := "pacePlays", inPlace := ["math.Float64bits", "math.Float64frombits", "math.archCeil", "math.archFloor", "math.archTrunc"], apart := false, narrowed := true }
def PacePlaysUptoSaid : Prop := pacePlaysUptoRow.holds Try.pinned (OpenSpec.upto pacePlaysSpec)

/-- 'courierlaw23.PaceRuns', WHERE WHAT IT READS IS OF BULK AT MOST 1048576: true; the input reads as it did. -/
def paceRunsUptoRow : OpenClaim := { program := "ytofpmigifimfoaa", sum := "f8e363d861392bba300b2a8039beddd9f053b558041ed15a7a7485192406386a", func := "courier/courierlaw23.PaceRuns", spec := "paceRuns", inPlace := ["math.Float64bits", "math.Float64frombits", "math.archCeil", "math.archFloor", "math.archTrunc"], apart := false, narrowed := true }
def PaceRunsUptoSaid : Prop := paceRunsUptoRow.holds Try.pinned (OpenSpec.upto paceRunsSpec)

/-- 'courierlaw23.PaceSays', WHERE WHAT IT READS IS OF BULK AT MOST 1048576: true; the input reads as it did. -/
def paceSaysUptoRow : OpenClaim := { program := "ytofpmigifimfoaa", sum := "f8e363d861392bba300b2a8039beddd9f053b558041ed15a7a7485192406386a", func := "courier/courierlaw23.PaceSays", spec := "paceSays", inPlace := ["math.Float64bits", "math.Float64frombits", "math.archCeil", "math.archFloor", "math.archTrunc"], apart := false, narrowed := true }
def PaceSaysUptoSaid : Prop := paceSaysUptoRow.holds Try.pinned (OpenSpec.upto paceSaysSpec)

/-- 'courierlaw23.PaceEdges', WHERE WHAT IT READS IS OF BULK AT MOST 1048576: true; the input reads as it did. -/
def paceEdgesUptoRow : OpenClaim := { program := "ytofpmigifimfoaa", sum := "f8e363d861392bba300b2a8039beddd9f053b558041ed15a7a7485192406386a", func := "courier/courierlaw23.PaceEdges", spec := "paceEdges", inPlace := ["math.Float64bits", "math.Float64frombits", "math.archCeil", "math.archFloor", "math.archTrunc"], apart := false, narrowed := true }
def PaceEdgesUptoSaid : Prop := paceEdgesUptoRow.holds Try.pinned (OpenSpec.upto paceEdgesSpec)

/-- 'courierlaw23.PaceLeft', WHERE WHAT IT READS IS OF BULK AT MOST 1048576: true; the input reads as it did. -/
def paceLeftUptoRow : OpenClaim := { program := "ytofpmigifimfoaa", sum := "f8e363d861392bba300b2a8039beddd9f053b558041ed15a7a7485192406386a", func := "courier/courierlaw23.PaceLeft", spec := "paceLeft", inPlace := ["math.Float64bits", "math.Float64frombits", "math.archCeil", "math.archFloor", "math.archTrunc"], apart := false, narrowed := true }
def PaceLeftUptoSaid : Prop := paceLeftUptoRow.holds Try.pinned (OpenSpec.upto paceLeftSpec)

end Rows
end Go.Proofs.Ytofpmigifimfoaa
