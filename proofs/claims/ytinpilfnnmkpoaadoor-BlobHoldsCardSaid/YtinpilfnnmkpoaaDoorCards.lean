/-
  DERIVED. GIVEN WITH THE SEED: THE CARDS: each row of YtinpilfnnmkpoaaDoorRows.lean that lists a variable, with what it lists TIED to the program's text (the seventh form; the later family's looks); each row that meets fmt, with fmt's text TOLD by the authors' own Lean function (tested against real Go, not proved from fmt's source: count such statements apart). THE CARD IS WHAT COUNTS. Prove the row's statement (the work); the ties are given (YtinpilfnnmkpoaaDoorTie.lean); close each card by the builder's one call (the guide's Derived/Test/ToyasCard.lean, 'card_holds'). Laid BY PROGRAM, IN A SANDBOX (cutbox-door.mjs). By AI agents, Wed Nov 11 2026. No macro, syntax, notation, axiom, sorry.
-/
import Derived.Test.YtinpilfnnmkpoaaDoorRows
import GoSem.ClaimSeven
namespace Go.Proofs.YtinpilfnnmkpoaaDoor
namespace Rows

/-- THE TIED CARD OF 'courierlaw20.BlobRoom'. -/
def blobRoomCard : Claim7 := { stood := { row := blobRoomRow, standIns := [], harness := (true, "540850c05e08f05266468ce93f8ed921fddda8df151ab5bee8c20368068f6d06"), looks := true }, kinds := [], alts := [], laidByText := true, laidKinds := [.sentinel, .sentinel, .sentinel, .sentinel, .sentinel, .sentinel, .sentinel, .sentinel, .sentinel, .sentinel, .sentinel, .sentinel, .sentinel, .sentinel, .sentinel, .sentinel, .sentinel, .sentinel, .sentinel], laidTests := true, laidLooks := .later }
def BlobRoomCardSaid : Prop := Claim7.holds Tryd.pinned (.plain (OpenSpec.ofChange blobRoomSpec)) blobRoomCard

/-- THE TIED CARD OF 'courierlaw20.BlobHolds'. -/
def blobHoldsCard : Claim7 := { stood := { row := blobHoldsRow, standIns := [], harness := (true, "540850c05e08f05266468ce93f8ed921fddda8df151ab5bee8c20368068f6d06"), looks := true }, kinds := [], alts := [], laidByText := true, laidKinds := [.sentinel, .sentinel, .sentinel, .sentinel, .sentinel, .sentinel, .sentinel, .sentinel, .sentinel, .sentinel, .sentinel, .sentinel, .sentinel, .sentinel, .sentinel, .sentinel, .sentinel, .sentinel, .sentinel], laidTests := true, laidLooks := .later }
def BlobHoldsCardSaid : Prop := Claim7.holds Tryd.pinned (.plain (OpenSpec.ofChange blobHoldsSpec)) blobHoldsCard

/-- THE TIED CARD OF 'courierlaw20.BlobErrors'. -/
def blobErrorsCard : Claim7 := { stood := { row := blobErrorsRow, standIns := [], harness := (true, "540850c05e08f05266468ce93f8ed921fddda8df151ab5bee8c20368068f6d06"), looks := true }, kinds := [], alts := [], laidByText := true, laidKinds := [.sentinel, .sentinel, .sentinel, .sentinel, .sentinel, .sentinel, .sentinel, .sentinel, .sentinel, .sentinel, .sentinel, .sentinel, .sentinel, .sentinel, .sentinel, .sentinel, .sentinel, .sentinel, .sentinel], laidTests := true, laidLooks := .later }
def BlobErrorsCardSaid : Prop := Claim7.holds Tryd.pinned (.plain (OpenSpec.ofChange blobErrorsSpec)) blobErrorsCard

/-- THE TIED CARD OF 'courierlaw20.BlobOwn'. -/
def blobOwnCard : Claim7 := { stood := { row := blobOwnRow, standIns := [], harness := (true, "540850c05e08f05266468ce93f8ed921fddda8df151ab5bee8c20368068f6d06"), looks := true }, kinds := [], alts := [], laidByText := true, laidKinds := [.sentinel, .sentinel, .sentinel, .sentinel, .sentinel, .sentinel, .sentinel, .sentinel, .sentinel, .sentinel, .sentinel, .sentinel, .sentinel, .sentinel, .sentinel, .sentinel, .sentinel, .sentinel, .sentinel], laidTests := true, laidLooks := .later }
def BlobOwnCardSaid : Prop := Claim7.holds Tryd.pinned (.plain (OpenSpec.ofChange blobOwnSpec)) blobOwnCard

/-- THE TIED CARD OF 'courierlaw20.BlobSpoils'. -/
def blobSpoilsCard : Claim7 := { stood := { row := blobSpoilsRow, standIns := [], harness := (true, "540850c05e08f05266468ce93f8ed921fddda8df151ab5bee8c20368068f6d06"), looks := true }, kinds := [], alts := [], laidByText := true, laidKinds := [.sentinel, .sentinel, .sentinel, .sentinel, .sentinel, .sentinel, .sentinel, .sentinel, .sentinel, .sentinel, .sentinel, .sentinel, .sentinel, .sentinel, .sentinel, .sentinel, .sentinel, .sentinel, .sentinel], laidTests := true, laidLooks := .later }
def BlobSpoilsCardSaid : Prop := Claim7.holds Tryd.pinned (.plain (OpenSpec.ofChange blobSpoilsSpec)) blobSpoilsCard

/-- THE SECOND FORM's CARD OF 'courierlaw20.BlobRoom'. -/
def blobRoomUptoCard : Claim7 := { stood := { row := blobRoomUptoRow, standIns := [], harness := (true, "540850c05e08f05266468ce93f8ed921fddda8df151ab5bee8c20368068f6d06"), looks := true }, kinds := [], alts := [], laidByText := true, laidKinds := [.sentinel, .sentinel, .sentinel, .sentinel, .sentinel, .sentinel, .sentinel, .sentinel, .sentinel, .sentinel, .sentinel, .sentinel, .sentinel, .sentinel, .sentinel, .sentinel, .sentinel, .sentinel, .sentinel], laidTests := true, laidLooks := .later }
def BlobRoomUptoCardSaid : Prop := Claim7.holds Tryd.pinned (.plain (OpenSpec.upto blobRoomSpec)) blobRoomUptoCard

/-- THE SECOND FORM's CARD OF 'courierlaw20.BlobHolds'. -/
def blobHoldsUptoCard : Claim7 := { stood := { row := blobHoldsUptoRow, standIns := [], harness := (true, "540850c05e08f05266468ce93f8ed921fddda8df151ab5bee8c20368068f6d06"), looks := true }, kinds := [], alts := [], laidByText := true, laidKinds := [.sentinel, .sentinel, .sentinel, .sentinel, .sentinel, .sentinel, .sentinel, .sentinel, .sentinel, .sentinel, .sentinel, .sentinel, .sentinel, .sentinel, .sentinel, .sentinel, .sentinel, .sentinel, .sentinel], laidTests := true, laidLooks := .later }
def BlobHoldsUptoCardSaid : Prop := Claim7.holds Tryd.pinned (.plain (OpenSpec.upto blobHoldsSpec)) blobHoldsUptoCard

/-- THE SECOND FORM's CARD OF 'courierlaw20.BlobErrors'. -/
def blobErrorsUptoCard : Claim7 := { stood := { row := blobErrorsUptoRow, standIns := [], harness := (true, "540850c05e08f05266468ce93f8ed921fddda8df151ab5bee8c20368068f6d06"), looks := true }, kinds := [], alts := [], laidByText := true, laidKinds := [.sentinel, .sentinel, .sentinel, .sentinel, .sentinel, .sentinel, .sentinel, .sentinel, .sentinel, .sentinel, .sentinel, .sentinel, .sentinel, .sentinel, .sentinel, .sentinel, .sentinel, .sentinel, .sentinel], laidTests := true, laidLooks := .later }
def BlobErrorsUptoCardSaid : Prop := Claim7.holds Tryd.pinned (.plain (OpenSpec.upto blobErrorsSpec)) blobErrorsUptoCard

/-- THE SECOND FORM's CARD OF 'courierlaw20.BlobOwn'. -/
def blobOwnUptoCard : Claim7 := { stood := { row := blobOwnUptoRow, standIns := [], harness := (true, "540850c05e08f05266468ce93f8ed921fddda8df151ab5bee8c20368068f6d06"), looks := true }, kinds := [], alts := [], laidByText := true, laidKinds := [.sentinel, .sentinel, .sentinel, .sentinel, .sentinel, .sentinel, .sentinel, .sentinel, .sentinel, .sentinel, .sentinel, .sentinel, .sentinel, .sentinel, .sentinel, .sentinel, .sentinel, .sentinel, .sentinel], laidTests := true, laidLooks := .later }
def BlobOwnUptoCardSaid : Prop := Claim7.holds Tryd.pinned (.plain (OpenSpec.upto blobOwnSpec)) blobOwnUptoCard

/-- THE SECOND FORM's CARD OF 'courierlaw20.BlobSpoils'. -/
def blobSpoilsUptoCard : Claim7 := { stood := { row := blobSpoilsUptoRow, standIns := [], harness := (true, "540850c05e08f05266468ce93f8ed921fddda8df151ab5bee8c20368068f6d06"), looks := true }, kinds := [], alts := [], laidByText := true, laidKinds := [.sentinel, .sentinel, .sentinel, .sentinel, .sentinel, .sentinel, .sentinel, .sentinel, .sentinel, .sentinel, .sentinel, .sentinel, .sentinel, .sentinel, .sentinel, .sentinel, .sentinel, .sentinel, .sentinel], laidTests := true, laidLooks := .later }
def BlobSpoilsUptoCardSaid : Prop := Claim7.holds Tryd.pinned (.plain (OpenSpec.upto blobSpoilsSpec)) blobSpoilsUptoCard
end Rows
end Go.Proofs.YtinpilfnnmkpoaaDoor
