/-
  DERIVED. GIVEN WITH THE SEED: THE CARDS: each row of YtlikinglgegclaaGreatDoorRows.lean that lists a variable, with what it lists TIED to the program's text (the seventh form; the later family's looks); each row that meets fmt, with fmt's text TOLD by the authors' own Lean function (tested against real Go, not proved from fmt's source: count such statements apart). THE CARD IS WHAT COUNTS. Prove the row's statement (the work); the ties are given (YtlikinglgegclaaGreatDoorTie.lean); close each card by the builder's one call (the guide's Derived/Test/ToyasCard.lean, 'card_holds'). Laid BY PROGRAM, IN A SANDBOX (cutbox-door.mjs). By AI agents, Wed Nov 11 2026. No macro, syntax, notation, axiom, sorry.
-/
import Derived.Test.YtlikinglgegclaaGreatDoorRows
import GoSem.ClaimSeven
namespace Go.Proofs.YtlikinglgegclaaGreatDoor
namespace Rows

/-- THE TIED CARD OF 'courierlaw19.DescSays'. -/
def descSaysCard : Claim7 := { stood := { row := descSaysRow, standIns := [], harness := (true, "e2e46040e0e3ca6b80bdeace20c2f3579ceb406e91088c61cc8504fc2f8c4462"), looks := true }, kinds := [], alts := [], laidByText := true, laidKinds := [.sentinel, .sentinel, .sentinel, .sentinel, .sentinel, .sentinel, .sentinel, .sentinel, .sentinel, .sentinel, .sentinel, .sentinel, .sentinel, .sentinel, .sentinel, .sentinel, .sentinel, .sentinel, .sentinel], laidTests := true, laidLooks := .later }
def DescSaysCardSaid : Prop := Claim7.holds Tryz.pinned (.plain (OpenSpec.ofChange descSaysSpec)) descSaysCard

/-- THE SECOND FORM's CARD OF 'courierlaw19.DescSays'. -/
def descSaysUptoCard : Claim7 := { stood := { row := descSaysUptoRow, standIns := [], harness := (true, "e2e46040e0e3ca6b80bdeace20c2f3579ceb406e91088c61cc8504fc2f8c4462"), looks := true }, kinds := [], alts := [], laidByText := true, laidKinds := [.sentinel, .sentinel, .sentinel, .sentinel, .sentinel, .sentinel, .sentinel, .sentinel, .sentinel, .sentinel, .sentinel, .sentinel, .sentinel, .sentinel, .sentinel, .sentinel, .sentinel, .sentinel, .sentinel], laidTests := true, laidLooks := .later }
def DescSaysUptoCardSaid : Prop := Claim7.holds Tryz.pinned (.plain (OpenSpec.upto descSaysSpec)) descSaysUptoCard
end Rows
end Go.Proofs.YtlikinglgegclaaGreatDoor
