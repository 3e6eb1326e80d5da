/-
  DERIVED. GIVEN WITH THE SEED: THE CARDS: each row of YtenjpmegnjdobaaDoorRows.lean that lists a variable, with what it lists TIED to the program's text (the seventh form; the later family's looks); each row that meets fmt, with fmt's text TOLD by the authors' own Lean function (tested against real Go, not proved from fmt's source: count such statements apart). THE CARD IS WHAT COUNTS. Prove the row's statement (the work); the ties are given (YtenjpmegnjdobaaDoorTie.lean); close each card by the builder's one call (the guide's Derived/Test/ToyasCard.lean, 'card_holds'). Laid BY PROGRAM, IN A SANDBOX (cutbox-door.mjs). By AI agents, Wed Nov 11 2026. No macro, syntax, notation, axiom, sorry.
-/
import Derived.Test.YtenjpmegnjdobaaDoorRows
import GoSem.ClaimSeven
namespace Go.Proofs.YtenjpmegnjdobaaDoor
namespace Rows

/-- THE TIED CARD OF 'courierlaw16.StreamSays'. -/
def streamSaysCard : Claim7 := { stood := { row := streamSaysRow, standIns := [], harness := (true, "d4218c17f186977512c53c27e1b7ad070e9cad71bba7ce24b7a79ddd83f1a293"), looks := true }, kinds := [], alts := [], laidByText := true, laidKinds := [.sentinel, .sentinel, .sentinel, .sentinel, .sentinel, .sentinel, .sentinel, .sentinel, .sentinel, .sentinel, .sentinel, .sentinel, .sentinel, .sentinel, .sentinel, .sentinel, .sentinel, .sentinel, .sentinel], laidTests := true, laidLooks := .later }
def StreamSaysCardSaid : Prop := Claim7.holds Tryd.pinned (.plain (OpenSpec.ofChange streamSaysSpec)) streamSaysCard

/-- THE TIED CARD OF 'courierlaw16.StreamBack'. -/
def streamBackCard : Claim7 := { stood := { row := streamBackRow, standIns := [], harness := (true, "d4218c17f186977512c53c27e1b7ad070e9cad71bba7ce24b7a79ddd83f1a293"), looks := true }, kinds := [], alts := [], laidByText := true, laidKinds := [.sentinel, .sentinel, .sentinel, .sentinel, .sentinel, .sentinel, .sentinel, .sentinel, .sentinel, .sentinel, .sentinel, .sentinel, .sentinel, .sentinel, .sentinel, .sentinel, .sentinel, .sentinel, .sentinel], laidTests := true, laidLooks := .later }
def StreamBackCardSaid : Prop := Claim7.holds Tryd.pinned (.plain (OpenSpec.ofChange streamBackSpec)) streamBackCard

/-- THE SECOND FORM's CARD OF 'courierlaw16.StreamSays'. -/
def streamSaysUptoCard : Claim7 := { stood := { row := streamSaysUptoRow, standIns := [], harness := (true, "d4218c17f186977512c53c27e1b7ad070e9cad71bba7ce24b7a79ddd83f1a293"), looks := true }, kinds := [], alts := [], laidByText := true, laidKinds := [.sentinel, .sentinel, .sentinel, .sentinel, .sentinel, .sentinel, .sentinel, .sentinel, .sentinel, .sentinel, .sentinel, .sentinel, .sentinel, .sentinel, .sentinel, .sentinel, .sentinel, .sentinel, .sentinel], laidTests := true, laidLooks := .later }
def StreamSaysUptoCardSaid : Prop := Claim7.holds Tryd.pinned (.plain (OpenSpec.upto streamSaysSpec)) streamSaysUptoCard

/-- THE SECOND FORM's CARD OF 'courierlaw16.StreamBack'. -/
def streamBackUptoCard : Claim7 := { stood := { row := streamBackUptoRow, standIns := [], harness := (true, "d4218c17f186977512c53c27e1b7ad070e9cad71bba7ce24b7a79ddd83f1a293"), looks := true }, kinds := [], alts := [], laidByText := true, laidKinds := [.sentinel, .sentinel, .sentinel, .sentinel, .sentinel, .sentinel, .sentinel, .sentinel, .sentinel, .sentinel, .sentinel, .sentinel, .sentinel, .sentinel, .sentinel, .sentinel, .sentinel, .sentinel, .sentinel], laidTests := true, laidLooks := .later }
def StreamBackUptoCardSaid : Prop := Claim7.holds Tryd.pinned (.plain (OpenSpec.upto streamBackSpec)) streamBackUptoCard
end Rows
end Go.Proofs.YtenjpmegnjdobaaDoor
