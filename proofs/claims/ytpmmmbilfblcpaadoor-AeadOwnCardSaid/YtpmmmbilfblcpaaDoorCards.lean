/-
  DERIVED. GIVEN WITH THE SEED: THE CARDS: each row of YtpmmmbilfblcpaaDoorRows.lean that lists a variable, with what it lists TIED to the program's text (the seventh form; the later family's looks); each row that meets fmt, with fmt's text TOLD by the authors' own Lean function (tested against real Go, not proved from fmt's source: count such statements apart). THE CARD IS WHAT COUNTS. Prove the row's statement (the work); the ties are given (YtpmmmbilfblcpaaDoorTie.lean); close each card by the builder's one call (the guide's Derived/Test/ToyasCard.lean, 'card_holds'). Laid BY PROGRAM, IN A SANDBOX (cutbox-door.mjs). By AI agents, Wed Nov 11 2026. No macro, syntax, notation, axiom, sorry.
-/
import Derived.Test.YtpmmmbilfblcpaaDoorRows
import GoSem.ClaimSeven
namespace Go.Proofs.YtpmmmbilfblcpaaDoor
namespace Rows

/-- THE TIED CARD OF 'courierlaw7.AeadSays'. -/
def aeadSaysCard : Claim7 := { stood := { row := aeadSaysRow, standIns := [], harness := (true, "271fe698abbc3fd72dd71beba9731988a87b848287ddd5d2e53942acf511b336"), looks := true }, kinds := [], alts := [], laidByText := true, laidKinds := [.sentinel, .sentinel, .sentinel, .sentinel, .sentinel, .sentinel, .sentinel, .sentinel, .sentinel, .sentinel, .sentinel, .sentinel, .sentinel, .sentinel, .sentinel, .sentinel, .sentinel, .sentinel, .sentinel], laidTests := true, laidLooks := .later }
def AeadSaysCardSaid : Prop := Claim7.holds Tryd.pinned (.plain (OpenSpec.ofChange aeadSaysSpec)) aeadSaysCard

/-- THE TIED CARD OF 'courierlaw7.AeadBack'. -/
def aeadBackCard : Claim7 := { stood := { row := aeadBackRow, standIns := [], harness := (true, "271fe698abbc3fd72dd71beba9731988a87b848287ddd5d2e53942acf511b336"), looks := true }, kinds := [], alts := [], laidByText := true, laidKinds := [.sentinel, .sentinel, .sentinel, .sentinel, .sentinel, .sentinel, .sentinel, .sentinel, .sentinel, .sentinel, .sentinel, .sentinel, .sentinel, .sentinel, .sentinel, .sentinel, .sentinel, .sentinel, .sentinel], laidTests := true, laidLooks := .later }
def AeadBackCardSaid : Prop := Claim7.holds Tryd.pinned (.plain (OpenSpec.ofChange aeadBackSpec)) aeadBackCard

/-- THE TIED CARD OF 'courierlaw7.AeadVector'. -/
def aeadVectorCard : Claim7 := { stood := { row := aeadVectorRow, standIns := [], harness := (true, "271fe698abbc3fd72dd71beba9731988a87b848287ddd5d2e53942acf511b336"), looks := true }, kinds := [], alts := [], laidByText := true, laidKinds := [.sentinel, .sentinel, .sentinel, .sentinel, .sentinel, .sentinel, .sentinel, .sentinel, .sentinel, .sentinel, .sentinel, .sentinel, .sentinel, .sentinel, .sentinel, .sentinel, .sentinel, .sentinel, .sentinel], laidTests := true, laidLooks := .later }
def AeadVectorCardSaid : Prop := Claim7.holds Tryd.pinned (.plain (OpenSpec.ofChange aeadVectorSpec)) aeadVectorCard

/-- THE TIED CARD OF 'courierlaw7.AeadParts'. -/
def aeadPartsCard : Claim7 := { stood := { row := aeadPartsRow, standIns := [], harness := (true, "271fe698abbc3fd72dd71beba9731988a87b848287ddd5d2e53942acf511b336"), looks := true }, kinds := [], alts := [], laidByText := true, laidKinds := [.sentinel, .sentinel, .sentinel, .sentinel, .sentinel, .sentinel, .sentinel, .sentinel, .sentinel, .sentinel, .sentinel, .sentinel, .sentinel, .sentinel, .sentinel, .sentinel, .sentinel, .sentinel, .sentinel], laidTests := true, laidLooks := .later }
def AeadPartsCardSaid : Prop := Claim7.holds Tryd.pinned (.plain (OpenSpec.ofChange aeadPartsSpec)) aeadPartsCard

/-- THE TIED CARD OF 'courierlaw7.AeadOwn'. -/
def aeadOwnCard : Claim7 := { stood := { row := aeadOwnRow, standIns := [], harness := (true, "271fe698abbc3fd72dd71beba9731988a87b848287ddd5d2e53942acf511b336"), looks := true }, kinds := [], alts := [], laidByText := true, laidKinds := [.sentinel, .sentinel, .sentinel, .sentinel, .sentinel, .sentinel, .sentinel, .sentinel, .sentinel, .sentinel, .sentinel, .sentinel, .sentinel, .sentinel, .sentinel, .sentinel, .sentinel, .sentinel, .sentinel], laidTests := true, laidLooks := .later }
def AeadOwnCardSaid : Prop := Claim7.holds Tryd.pinned (.plain (OpenSpec.ofChange aeadOwnSpec)) aeadOwnCard

/-- THE TIED CARD OF 'courierlaw16.StreamSays'. -/
def streamSaysCard : Claim7 := { stood := { row := streamSaysRow, standIns := [], harness := (true, "271fe698abbc3fd72dd71beba9731988a87b848287ddd5d2e53942acf511b336"), looks := true }, kinds := [], alts := [], laidByText := true, laidKinds := [.sentinel, .sentinel, .sentinel, .sentinel, .sentinel, .sentinel, .sentinel, .sentinel, .sentinel, .sentinel, .sentinel, .sentinel, .sentinel, .sentinel, .sentinel, .sentinel, .sentinel, .sentinel, .sentinel], laidTests := true, laidLooks := .later }
def StreamSaysCardSaid : Prop := Claim7.holds Tryd.pinned (.plain (OpenSpec.ofChange streamSaysSpec)) streamSaysCard

/-- THE TIED CARD OF 'courierlaw16.StreamBack'. -/
def streamBackCard : Claim7 := { stood := { row := streamBackRow, standIns := [], harness := (true, "271fe698abbc3fd72dd71beba9731988a87b848287ddd5d2e53942acf511b336"), looks := true }, kinds := [], alts := [], laidByText := true, laidKinds := [.sentinel, .sentinel, .sentinel, .sentinel, .sentinel, .sentinel, .sentinel, .sentinel, .sentinel, .sentinel, .sentinel, .sentinel, .sentinel, .sentinel, .sentinel, .sentinel, .sentinel, .sentinel, .sentinel], laidTests := true, laidLooks := .later }
def StreamBackCardSaid : Prop := Claim7.holds Tryd.pinned (.plain (OpenSpec.ofChange streamBackSpec)) streamBackCard

/-- THE TIED CARD OF 'courierlaw16.StreamAgain'. -/
def streamAgainCard : Claim7 := { stood := { row := streamAgainRow, standIns := [], harness := (true, "271fe698abbc3fd72dd71beba9731988a87b848287ddd5d2e53942acf511b336"), looks := true }, kinds := [], alts := [], laidByText := true, laidKinds := [.sentinel, .sentinel], laidTests := true, laidLooks := .later }
def StreamAgainCardSaid : Prop := Claim7.holds Tryd.pinned (.plain (OpenSpec.ofChange streamAgainSpec)) streamAgainCard

/-- THE SECOND FORM's CARD OF 'courierlaw7.AeadSays'. -/
def aeadSaysUptoCard : Claim7 := { stood := { row := aeadSaysUptoRow, standIns := [], harness := (true, "271fe698abbc3fd72dd71beba9731988a87b848287ddd5d2e53942acf511b336"), looks := true }, kinds := [], alts := [], laidByText := true, laidKinds := [.sentinel, .sentinel, .sentinel, .sentinel, .sentinel, .sentinel, .sentinel, .sentinel, .sentinel, .sentinel, .sentinel, .sentinel, .sentinel, .sentinel, .sentinel, .sentinel, .sentinel, .sentinel, .sentinel], laidTests := true, laidLooks := .later }
def AeadSaysUptoCardSaid : Prop := Claim7.holds Tryd.pinned (.plain (OpenSpec.upto aeadSaysSpec)) aeadSaysUptoCard

/-- THE SECOND FORM's CARD OF 'courierlaw7.AeadBack'. -/
def aeadBackUptoCard : Claim7 := { stood := { row := aeadBackUptoRow, standIns := [], harness := (true, "271fe698abbc3fd72dd71beba9731988a87b848287ddd5d2e53942acf511b336"), looks := true }, kinds := [], alts := [], laidByText := true, laidKinds := [.sentinel, .sentinel, .sentinel, .sentinel, .sentinel, .sentinel, .sentinel, .sentinel, .sentinel, .sentinel, .sentinel, .sentinel, .sentinel, .sentinel, .sentinel, .sentinel, .sentinel, .sentinel, .sentinel], laidTests := true, laidLooks := .later }
def AeadBackUptoCardSaid : Prop := Claim7.holds Tryd.pinned (.plain (OpenSpec.upto aeadBackSpec)) aeadBackUptoCard

/-- THE SECOND FORM's CARD OF 'courierlaw7.AeadVector'. -/
def aeadVectorUptoCard : Claim7 := { stood := { row := aeadVectorUptoRow, standIns := [], harness := (true, "271fe698abbc3fd72dd71beba9731988a87b848287ddd5d2e53942acf511b336"), looks := true }, kinds := [], alts := [], laidByText := true, laidKinds := [.sentinel, .sentinel, .sentinel, .sentinel, .sentinel, .sentinel, .sentinel, .sentinel, .sentinel, .sentinel, .sentinel, .sentinel, .sentinel, .sentinel, .sentinel, .sentinel, .sentinel, .sentinel, .sentinel], laidTests := true, laidLooks := .later }
def AeadVectorUptoCardSaid : Prop := Claim7.holds Tryd.pinned (.plain (OpenSpec.upto aeadVectorSpec)) aeadVectorUptoCard

/-- THE SECOND FORM's CARD OF 'courierlaw7.AeadParts'. -/
def aeadPartsUptoCard : Claim7 := { stood := { row := aeadPartsUptoRow, standIns := [], harness := (true, "271fe698abbc3fd72dd71beba9731988a87b848287ddd5d2e53942acf511b336"), looks := true }, kinds := [], alts := [], laidByText := true, laidKinds := [.sentinel, .sentinel, .sentinel, .sentinel, .sentinel, .sentinel, .sentinel, .sentinel, .sentinel, .sentinel, .sentinel, .sentinel, .sentinel, .sentinel, .sentinel, .sentinel, .sentinel, .sentinel, .sentinel], laidTests := true, laidLooks := .later }
def AeadPartsUptoCardSaid : Prop := Claim7.holds Tryd.pinned (.plain (OpenSpec.upto aeadPartsSpec)) aeadPartsUptoCard

/-- THE SECOND FORM's CARD OF 'courierlaw7.AeadOwn'. -/
def aeadOwnUptoCard : Claim7 := { stood := { row := aeadOwnUptoRow, standIns := [], harness := (true, "271fe698abbc3fd72dd71beba9731988a87b848287ddd5d2e53942acf511b336"), looks := true }, kinds := [], alts := [], laidByText := true, laidKinds := [.sentinel, .sentinel, .sentinel, .sentinel, .sentinel, .sentinel, .sentinel, .sentinel, .sentinel, .sentinel, .sentinel, .sentinel, .sentinel, .sentinel, .sentinel, .sentinel, .sentinel, .sentinel, .sentinel], laidTests := true, laidLooks := .later }
def AeadOwnUptoCardSaid : Prop := Claim7.holds Tryd.pinned (.plain (OpenSpec.upto aeadOwnSpec)) aeadOwnUptoCard

/-- THE SECOND FORM's CARD OF 'courierlaw16.StreamSays'. -/
def streamSaysUptoCard : Claim7 := { stood := { row := streamSaysUptoRow, standIns := [], harness := (true, "271fe698abbc3fd72dd71beba9731988a87b848287ddd5d2e53942acf511b336"), looks := true }, kinds := [], alts := [], laidByText := true, laidKinds := [.sentinel, .sentinel, .sentinel, .sentinel, .sentinel, .sentinel, .sentinel, .sentinel, .sentinel, .sentinel, .sentinel, .sentinel, .sentinel, .sentinel, .sentinel, .sentinel, .sentinel, .sentinel, .sentinel], laidTests := true, laidLooks := .later }
def StreamSaysUptoCardSaid : Prop := Claim7.holds Tryd.pinned (.plain (OpenSpec.upto streamSaysSpec)) streamSaysUptoCard

/-- THE SECOND FORM's CARD OF 'courierlaw16.StreamBack'. -/
def streamBackUptoCard : Claim7 := { stood := { row := streamBackUptoRow, standIns := [], harness := (true, "271fe698abbc3fd72dd71beba9731988a87b848287ddd5d2e53942acf511b336"), looks := true }, kinds := [], alts := [], laidByText := true, laidKinds := [.sentinel, .sentinel, .sentinel, .sentinel, .sentinel, .sentinel, .sentinel, .sentinel, .sentinel, .sentinel, .sentinel, .sentinel, .sentinel, .sentinel, .sentinel, .sentinel, .sentinel, .sentinel, .sentinel], laidTests := true, laidLooks := .later }
def StreamBackUptoCardSaid : Prop := Claim7.holds Tryd.pinned (.plain (OpenSpec.upto streamBackSpec)) streamBackUptoCard

/-- THE SECOND FORM's CARD OF 'courierlaw16.StreamAgain'. -/
def streamAgainUptoCard : Claim7 := { stood := { row := streamAgainUptoRow, standIns := [], harness := (true, "271fe698abbc3fd72dd71beba9731988a87b848287ddd5d2e53942acf511b336"), looks := true }, kinds := [], alts := [], laidByText := true, laidKinds := [.sentinel, .sentinel], laidTests := true, laidLooks := .later }
def StreamAgainUptoCardSaid : Prop := Claim7.holds Tryd.pinned (.plain (OpenSpec.upto streamAgainSpec)) streamAgainUptoCard
end Rows
end Go.Proofs.YtpmmmbilfblcpaaDoor
