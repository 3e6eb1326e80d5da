/-
  DERIVED. GIVEN WITH THE SEED: THE PROGRAM's TIES (one call each: nine closed facts by the kernel) AND EACH ROW's TIE, after the 31st guide's Derived/Test/Toyas{Tie, Card}.lean. No idea stands in it: it is a product of the set-up. Laid BY PROGRAM, IN A SANDBOX (cutbox-door.mjs). By AI agents, Wed Nov 11 2026. No macro, syntax, notation, axiom, sorry.
-/
import Derived.Test.YtpmmmbilfblcpaaDoorRows
import Derived.LaidByTextLater
import Derived.SevenTiedAt
import Derived.LaidSub
import Derived.LaidOnce
namespace Go.Proofs.YtpmmmbilfblcpaaDoor
open Go
set_option maxRecDepth 100000
theorem seatTie1 : Tryd.prog.laidByTextLater [("courier/api.ErrOff", Rows.laid_courier_api_ErrOff), ("courier/api.ErrRange", Rows.laid_courier_api_ErrRange), ("courier/api.ErrShort", Rows.laid_courier_api_ErrShort), ("courier/api.ErrTrail", Rows.laid_courier_api_ErrTrail), ("courier/api.ErrForm", Rows.laid_courier_api_ErrForm), ("courier/api.ErrPanic", Rows.laid_courier_api_ErrPanic), ("courier/api.ErrFull", Rows.laid_courier_api_ErrFull), ("courier/api.ErrStore", Rows.laid_courier_api_ErrStore), ("courier/api.ErrTag", Rows.laid_courier_api_ErrTag), ("courier/api.ErrGap", Rows.laid_courier_api_ErrGap), ("courier/api.ErrOld", Rows.laid_courier_api_ErrOld), ("courier/api.ErrKey", Rows.laid_courier_api_ErrKey), ("courier/api.ErrRoot", Rows.laid_courier_api_ErrRoot), ("courier/api.ErrNone", Rows.laid_courier_api_ErrNone), ("courier/api.ErrOpen", Rows.laid_courier_api_ErrOpen), ("courier/api.ErrDigest", Rows.laid_courier_api_ErrDigest), ("courier/api.ErrState", Rows.laid_courier_api_ErrState), ("courier/api.ErrLimit", Rows.laid_courier_api_ErrLimit), ("courier/api.ErrClosed", Rows.laid_courier_api_ErrClosed)] [.sentinel, .sentinel, .sentinel, .sentinel, .sentinel, .sentinel, .sentinel, .sentinel, .sentinel, .sentinel, .sentinel, .sentinel, .sentinel, .sentinel, .sentinel, .sentinel, .sentinel, .sentinel, .sentinel] true :=
  Program.laidByTextLater_by_one 370 8 2 (by kernel_rfl) (by kernel_rfl) (by kernel_rfl) (by kernel_rfl) (by kernel_rfl) (by kernel_rfl) (fun _ _ => by kernel_rfl)
theorem noOwnUnsafe : Tryd.pinned.checked.prog.headLifts.contains "ownunsafe" = false := by kernel_rfl
theorem tie : Tryd.prog.laidByTextLater [("courier/api.ErrOff", Rows.laid_courier_api_ErrOff), ("courier/api.ErrRange", Rows.laid_courier_api_ErrRange), ("courier/api.ErrShort", Rows.laid_courier_api_ErrShort), ("courier/api.ErrTrail", Rows.laid_courier_api_ErrTrail), ("courier/api.ErrForm", Rows.laid_courier_api_ErrForm), ("courier/api.ErrPanic", Rows.laid_courier_api_ErrPanic), ("courier/api.ErrFull", Rows.laid_courier_api_ErrFull), ("courier/api.ErrStore", Rows.laid_courier_api_ErrStore), ("courier/api.ErrTag", Rows.laid_courier_api_ErrTag), ("courier/api.ErrGap", Rows.laid_courier_api_ErrGap), ("courier/api.ErrOld", Rows.laid_courier_api_ErrOld), ("courier/api.ErrKey", Rows.laid_courier_api_ErrKey), ("courier/api.ErrRoot", Rows.laid_courier_api_ErrRoot), ("courier/api.ErrNone", Rows.laid_courier_api_ErrNone), ("courier/api.ErrOpen", Rows.laid_courier_api_ErrOpen), ("courier/api.ErrDigest", Rows.laid_courier_api_ErrDigest), ("courier/api.ErrState", Rows.laid_courier_api_ErrState), ("courier/api.ErrLimit", Rows.laid_courier_api_ErrLimit), ("courier/api.ErrClosed", Rows.laid_courier_api_ErrClosed)] [.sentinel, .sentinel, .sentinel, .sentinel, .sentinel, .sentinel, .sentinel, .sentinel, .sentinel, .sentinel, .sentinel, .sentinel, .sentinel, .sentinel, .sentinel, .sentinel, .sentinel, .sentinel, .sentinel] true :=
  Program.laidByTextLater.sub seatTie1 ["courier/api.ErrOff", "courier/api.ErrRange", "courier/api.ErrShort", "courier/api.ErrTrail", "courier/api.ErrForm", "courier/api.ErrPanic", "courier/api.ErrFull", "courier/api.ErrStore", "courier/api.ErrTag", "courier/api.ErrGap", "courier/api.ErrOld", "courier/api.ErrKey", "courier/api.ErrRoot", "courier/api.ErrNone", "courier/api.ErrOpen", "courier/api.ErrDigest", "courier/api.ErrState", "courier/api.ErrLimit", "courier/api.ErrClosed"] (by kernel_rfl) (by kernel_rfl)
theorem aeadSays_row_tie : Rows.aeadSaysRow.laidByTextAt .later Tryd.pinned [.sentinel, .sentinel, .sentinel, .sentinel, .sentinel, .sentinel, .sentinel, .sentinel, .sentinel, .sentinel, .sentinel, .sentinel, .sentinel, .sentinel, .sentinel, .sentinel, .sentinel, .sentinel, .sentinel] true :=
  OpenClaim.laidByTextAt_later rfl rfl tie noOwnUnsafe
theorem aeadBack_row_tie : Rows.aeadBackRow.laidByTextAt .later Tryd.pinned [.sentinel, .sentinel, .sentinel, .sentinel, .sentinel, .sentinel, .sentinel, .sentinel, .sentinel, .sentinel, .sentinel, .sentinel, .sentinel, .sentinel, .sentinel, .sentinel, .sentinel, .sentinel, .sentinel] true :=
  OpenClaim.laidByTextAt_later rfl rfl tie noOwnUnsafe
theorem aeadVector_row_tie : Rows.aeadVectorRow.laidByTextAt .later Tryd.pinned [.sentinel, .sentinel, .sentinel, .sentinel, .sentinel, .sentinel, .sentinel, .sentinel, .sentinel, .sentinel, .sentinel, .sentinel, .sentinel, .sentinel, .sentinel, .sentinel, .sentinel, .sentinel, .sentinel] true :=
  OpenClaim.laidByTextAt_later rfl rfl tie noOwnUnsafe
theorem aeadParts_row_tie : Rows.aeadPartsRow.laidByTextAt .later Tryd.pinned [.sentinel, .sentinel, .sentinel, .sentinel, .sentinel, .sentinel, .sentinel, .sentinel, .sentinel, .sentinel, .sentinel, .sentinel, .sentinel, .sentinel, .sentinel, .sentinel, .sentinel, .sentinel, .sentinel] true :=
  OpenClaim.laidByTextAt_later rfl rfl tie noOwnUnsafe
theorem aeadOwn_row_tie : Rows.aeadOwnRow.laidByTextAt .later Tryd.pinned [.sentinel, .sentinel, .sentinel, .sentinel, .sentinel, .sentinel, .sentinel, .sentinel, .sentinel, .sentinel, .sentinel, .sentinel, .sentinel, .sentinel, .sentinel, .sentinel, .sentinel, .sentinel, .sentinel] true :=
  OpenClaim.laidByTextAt_later rfl rfl tie noOwnUnsafe
theorem streamSays_row_tie : Rows.streamSaysRow.laidByTextAt .later Tryd.pinned [.sentinel, .sentinel, .sentinel, .sentinel, .sentinel, .sentinel, .sentinel, .sentinel, .sentinel, .sentinel, .sentinel, .sentinel, .sentinel, .sentinel, .sentinel, .sentinel, .sentinel, .sentinel, .sentinel] true :=
  OpenClaim.laidByTextAt_later rfl rfl tie noOwnUnsafe
theorem streamBack_row_tie : Rows.streamBackRow.laidByTextAt .later Tryd.pinned [.sentinel, .sentinel, .sentinel, .sentinel, .sentinel, .sentinel, .sentinel, .sentinel, .sentinel, .sentinel, .sentinel, .sentinel, .sentinel, .sentinel, .sentinel, .sentinel, .sentinel, .sentinel, .sentinel] true :=
  OpenClaim.laidByTextAt_later rfl rfl tie noOwnUnsafe
theorem tie2 : Tryd.prog.laidByTextLater [("courier/api.ErrShort", Rows.laid_courier_api_ErrShort), ("courier/api.ErrTag", Rows.laid_courier_api_ErrTag)] [.sentinel, .sentinel] true :=
  Program.laidByTextLater.sub seatTie1 ["courier/api.ErrShort", "courier/api.ErrTag"] (by kernel_rfl) (by kernel_rfl)
theorem streamAgain_row_tie : Rows.streamAgainRow.laidByTextAt .later Tryd.pinned [.sentinel, .sentinel] true :=
  OpenClaim.laidByTextAt_later rfl rfl tie2 noOwnUnsafe
theorem aeadSaysUpto_row_tie : Rows.aeadSaysUptoRow.laidByTextAt .later Tryd.pinned [.sentinel, .sentinel, .sentinel, .sentinel, .sentinel, .sentinel, .sentinel, .sentinel, .sentinel, .sentinel, .sentinel, .sentinel, .sentinel, .sentinel, .sentinel, .sentinel, .sentinel, .sentinel, .sentinel] true :=
  OpenClaim.laidByTextAt_later rfl rfl tie noOwnUnsafe
theorem aeadBackUpto_row_tie : Rows.aeadBackUptoRow.laidByTextAt .later Tryd.pinned [.sentinel, .sentinel, .sentinel, .sentinel, .sentinel, .sentinel, .sentinel, .sentinel, .sentinel, .sentinel, .sentinel, .sentinel, .sentinel, .sentinel, .sentinel, .sentinel, .sentinel, .sentinel, .sentinel] true :=
  OpenClaim.laidByTextAt_later rfl rfl tie noOwnUnsafe
theorem aeadVectorUpto_row_tie : Rows.aeadVectorUptoRow.laidByTextAt .later Tryd.pinned [.sentinel, .sentinel, .sentinel, .sentinel, .sentinel, .sentinel, .sentinel, .sentinel, .sentinel, .sentinel, .sentinel, .sentinel, .sentinel, .sentinel, .sentinel, .sentinel, .sentinel, .sentinel, .sentinel] true :=
  OpenClaim.laidByTextAt_later rfl rfl tie noOwnUnsafe
theorem aeadPartsUpto_row_tie : Rows.aeadPartsUptoRow.laidByTextAt .later Tryd.pinned [.sentinel, .sentinel, .sentinel, .sentinel, .sentinel, .sentinel, .sentinel, .sentinel, .sentinel, .sentinel, .sentinel, .sentinel, .sentinel, .sentinel, .sentinel, .sentinel, .sentinel, .sentinel, .sentinel] true :=
  OpenClaim.laidByTextAt_later rfl rfl tie noOwnUnsafe
theorem aeadOwnUpto_row_tie : Rows.aeadOwnUptoRow.laidByTextAt .later Tryd.pinned [.sentinel, .sentinel, .sentinel, .sentinel, .sentinel, .sentinel, .sentinel, .sentinel, .sentinel, .sentinel, .sentinel, .sentinel, .sentinel, .sentinel, .sentinel, .sentinel, .sentinel, .sentinel, .sentinel] true :=
  OpenClaim.laidByTextAt_later rfl rfl tie noOwnUnsafe
theorem streamSaysUpto_row_tie : Rows.streamSaysUptoRow.laidByTextAt .later Tryd.pinned [.sentinel, .sentinel, .sentinel, .sentinel, .sentinel, .sentinel, .sentinel, .sentinel, .sentinel, .sentinel, .sentinel, .sentinel, .sentinel, .sentinel, .sentinel, .sentinel, .sentinel, .sentinel, .sentinel] true :=
  OpenClaim.laidByTextAt_later rfl rfl tie noOwnUnsafe
theorem streamBackUpto_row_tie : Rows.streamBackUptoRow.laidByTextAt .later Tryd.pinned [.sentinel, .sentinel, .sentinel, .sentinel, .sentinel, .sentinel, .sentinel, .sentinel, .sentinel, .sentinel, .sentinel, .sentinel, .sentinel, .sentinel, .sentinel, .sentinel, .sentinel, .sentinel, .sentinel] true :=
  OpenClaim.laidByTextAt_later rfl rfl tie noOwnUnsafe
theorem streamAgainUpto_row_tie : Rows.streamAgainUptoRow.laidByTextAt .later Tryd.pinned [.sentinel, .sentinel] true :=
  OpenClaim.laidByTextAt_later rfl rfl tie2 noOwnUnsafe
end Go.Proofs.YtpmmmbilfblcpaaDoor
