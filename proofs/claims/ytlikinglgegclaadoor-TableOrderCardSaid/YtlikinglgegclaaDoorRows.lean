/-
  NARROWER THAN 'FOR EVERY INPUT', by the rows' own cells (each row's printed sentence says how): DescLays: laid · DescBack: laid · TableOrder: laid.
  DERIVED. THE GIVEN ROWS OF THIS SEAT. 3 by the template 'for every input the law returns true; each argument reads behind the call as it read before'; 0 by the template 'total and deterministic' (their statements: YtlikinglgegclaaDoorTotals.lean).
  GIVEN WITH THE SEED: the statements are not yours to turn. If you find one false, say at which input.
  Laid BY PROGRAM, IN A SANDBOX (cutbox-rows.mjs): the forced cells as the released guide's own fill.sh prints them over the translation 32f0c504ba4e5ff0… (all of the seat's roots in one cut). By AI agents, Wed Nov 11 2026. No macro, syntax, notation, axiom, sorry.
-/
import Derived.Test.YtlikinglgegclaaDoorChecked
import GoSem.Claim
import GoSem.ClaimJoined
import GoSem.ClaimMapViews
import Derived.JoinedTies
import Derived.KernelRfl
namespace Go.Proofs.YtlikinglgegclaaDoor
/- THE CELL 'sum', in the pinned program and in every row, IS THE sha256 OF THE DUMP (.gsa) THAT YtlikinglgegclaaDoorProg.lean LOADS. Nothing in Lean hashes anything: it is a label: what it is worth is what the hold of that sum in a sandbox is worth. -/
noncomputable def Tryd.pinned : Pinned := { name := "ytlikinglgegclaadoor", sum := "32f0c504ba4e5ff078fc476e483292a09ed368fa1e2cf2b47b5278a66bdba062", checked := Tryd.checked }
namespace Rows
def none {H : Type} : Left H := { results := [], args := [] }

/- WHAT THE LISTED PACKAGE-LEVEL VARIABLES READ AS WHEN THE CALL BEGINS. Each datum BY PROGRAM (the guide's laid-datum.mjs) off the statement by which the dump's own 'gosem.cut.vars' lays the variable. In a bare row this is a premise. The card (YtlikinglgegclaaDoorCards.lean) ties it to the program's text. -/
def laid_courier_api_ErrOff {H : Type} : DataW H := .iface "*errors.errorString" (.ptr (.agg [.lit (.string [116, 104, 101, 114, 101, 32, 105, 115, 32, 110, 111, 32, 112, 111, 119, 101, 114])]))
def laid_courier_api_ErrRange {H : Type} : DataW H := .iface "*errors.errorString" (.ptr (.agg [.lit (.string [97, 32, 110, 117, 109, 98, 101, 114, 32, 111, 117, 116, 32, 111, 102, 32, 105, 116, 115, 32, 114, 97, 110, 103, 101])]))
def laid_courier_api_ErrShort {H : Type} : DataW H := .iface "*errors.errorString" (.ptr (.agg [.lit (.string [98, 121, 116, 101, 115, 32, 116, 104, 97, 116, 32, 101, 110, 100, 32, 116, 111, 111, 32, 101, 97, 114, 108, 121])]))
def laid_courier_api_ErrTrail {H : Type} : DataW H := .iface "*errors.errorString" (.ptr (.agg [.lit (.string [98, 121, 116, 101, 115, 32, 98, 101, 104, 105, 110, 100, 32, 116, 104, 101, 32, 101, 110, 100])]))
def laid_courier_api_ErrForm {H : Type} : DataW H := .iface "*errors.errorString" (.ptr (.agg [.lit (.string [110, 111, 116, 32, 97, 115, 32, 105, 116, 32, 115, 104, 111, 117, 108, 100, 32, 98, 101])]))
def laid_courier_api_ErrPanic {H : Type} : DataW H := .iface "*errors.errorString" (.ptr (.agg [.lit (.string [115, 111, 109, 101, 116, 104, 105, 110, 103, 32, 119, 101, 110, 116, 32, 119, 114, 111, 110, 103])]))
def laid_courier_api_ErrFull {H : Type} : DataW H := .iface "*errors.errorString" (.ptr (.agg [.lit (.string [116, 104, 101, 114, 101, 32, 105, 115, 32, 110, 111, 32, 114, 111, 111, 109])]))
def laid_courier_api_ErrStore {H : Type} : DataW H := .iface "*errors.errorString" (.ptr (.agg [.lit (.string [97, 32, 115, 116, 111, 114, 101, 32, 116, 104, 97, 116, 32, 99, 97, 110, 39, 116, 32, 98, 101])]))
def laid_courier_api_ErrTag {H : Type} : DataW H := .iface "*errors.errorString" (.ptr (.agg [.lit (.string [110, 111, 116, 32, 115, 101, 97, 108, 101, 100, 32, 98, 121, 32, 116, 104, 97, 116, 32, 107, 101, 121])]))
def laid_courier_api_ErrGap {H : Type} : DataW H := .iface "*errors.errorString" (.ptr (.agg [.lit (.string [116, 111, 111, 32, 109, 97, 110, 121, 32, 97, 114, 101, 32, 109, 105, 115, 115, 105, 110, 103])]))
def laid_courier_api_ErrOld {H : Type} : DataW H := .iface "*errors.errorString" (.ptr (.agg [.lit (.string [116, 104, 97, 116, 32, 119, 97, 115, 32, 116, 104, 101, 114, 101, 32, 97, 108, 114, 101, 97, 100, 121])]))
def laid_courier_api_ErrKey {H : Type} : DataW H := .iface "*errors.errorString" (.ptr (.agg [.lit (.string [110, 111, 32, 107, 101, 121, 32, 121, 101, 116])]))
def laid_courier_api_ErrRoot {H : Type} : DataW H := .iface "*errors.errorString" (.ptr (.agg [.lit (.string [97, 110, 111, 116, 104, 101, 114, 32, 114, 111, 111, 116])]))
def laid_courier_api_ErrNone {H : Type} : DataW H := .iface "*errors.errorString" (.ptr (.agg [.lit (.string [116, 104, 101, 114, 101, 32, 105, 115, 32, 110, 111, 110, 101])]))
def laid_courier_api_ErrOpen {H : Type} : DataW H := .iface "*errors.errorString" (.ptr (.agg [.lit (.string [105, 116, 32, 105, 115, 32, 116, 104, 101, 114, 101, 32, 97, 108, 114, 101, 97, 100, 121])]))
def laid_courier_api_ErrDigest {H : Type} : DataW H := .iface "*errors.errorString" (.ptr (.agg [.lit (.string [97, 110, 111, 116, 104, 101, 114, 32, 100, 105, 103, 101, 115, 116])]))
def laid_courier_api_ErrState {H : Type} : DataW H := .iface "*errors.errorString" (.ptr (.agg [.lit (.string [110, 111, 116, 32, 110, 111, 119])]))
def laid_courier_api_ErrLimit {H : Type} : DataW H := .iface "*errors.errorString" (.ptr (.agg [.lit (.string [109, 111, 114, 101, 32, 116, 104, 97, 110, 32, 109, 97, 121, 32, 98, 101])]))
def laid_courier_api_ErrClosed {H : Type} : DataW H := .iface "*errors.errorString" (.ptr (.agg [.lit (.string [99, 108, 111, 115, 101, 100])]))

/-- 'courierlaw19.DescLays': WHATEVER THE INPUT: true; the input reads as it did. -/
def descLaysSpec : ChangeSpec := { name := "descLays", fn := fun _ => fun
  | [d1, d2, d3] => { results := [.lit (.bool true)], args := [d1, d2, d3] }
  | _ => none }
def descLaysRow : OpenClaim := { program := "ytlikinglgegclaadoor", sum := "32f0c504ba4e5ff078fc476e483292a09ed368fa1e2cf2b47b5278a66bdba062", func := "courier/courierlaw19.DescLays", spec := "descLays", recurses := true, named := ["courier/api.ErrRange", "courier/api.ErrOff", "courier/api.ErrShort", "courier/api.ErrTrail", "courier/api.ErrForm", "courier/api.ErrPanic", "courier/api.ErrFull", "courier/api.ErrStore", "courier/api.ErrTag", "courier/api.ErrGap", "courier/api.ErrOld", "courier/api.ErrKey", "courier/api.ErrRoot", "courier/api.ErrNone", "courier/api.ErrOpen", "courier/api.ErrDigest", "courier/api.ErrState", "courier/api.ErrLimit", "courier/api.ErrClosed"], apart := false, laid := [("courier/api.ErrOff", laid_courier_api_ErrOff), ("courier/api.ErrRange", laid_courier_api_ErrRange), ("courier/api.ErrShort", laid_courier_api_ErrShort), ("courier/api.ErrTrail", laid_courier_api_ErrTrail), ("courier/api.ErrForm", laid_courier_api_ErrForm), ("courier/api.ErrPanic", laid_courier_api_ErrPanic), ("courier/api.ErrFull", laid_courier_api_ErrFull), ("courier/api.ErrStore", laid_courier_api_ErrStore), ("courier/api.ErrTag", laid_courier_api_ErrTag), ("courier/api.ErrGap", laid_courier_api_ErrGap), ("courier/api.ErrOld", laid_courier_api_ErrOld), ("courier/api.ErrKey", laid_courier_api_ErrKey), ("courier/api.ErrRoot", laid_courier_api_ErrRoot), ("courier/api.ErrNone", laid_courier_api_ErrNone), ("courier/api.ErrOpen", laid_courier_api_ErrOpen), ("courier/api.ErrDigest", laid_courier_api_ErrDigest), ("courier/api.ErrState", laid_courier_api_ErrState), ("courier/api.ErrLimit", laid_courier_api_ErrLimit), ("courier/api.ErrClosed", laid_courier_api_ErrClosed)] }
def DescLaysSaid : Prop := descLaysRow.holds Tryd.pinned (OpenSpec.ofChange descLaysSpec)

/-- ITS FALSE NEIGHBOUR: 'it returns false'. Refute it at one input. -/
def descLaysWrong : ChangeSpec := { name := "descLays", fn := fun _ => fun
  | [d1, d2, d3] => { results := [.lit (.bool false)], args := [d1, d2, d3] }
  | _ => none }
def DescLaysWrongFalsely : Prop := descLaysRow.holds Tryd.pinned (OpenSpec.ofChange descLaysWrong)

/-- 'courierlaw19.DescBack': WHATEVER THE INPUT: true; the input reads as it did. -/
def descBackSpec : ChangeSpec := { name := "descBack", fn := fun _ => fun
  | [d1, d2, d3, d4] => { results := [.lit (.bool true)], args := [d1, d2, d3, d4] }
  | _ => none }
def descBackRow : OpenClaim := { program := "ytlikinglgegclaadoor", sum := "32f0c504ba4e5ff078fc476e483292a09ed368fa1e2cf2b47b5278a66bdba062", func := "courier/courierlaw19.DescBack", spec := "descBack", unfollowed := true, recurses := true, named := ["courier/api.ErrRange", "courier/api.ErrShort", "courier/api.ErrPanic", "courier/api.ErrTrail", "courier/api.ErrOff", "courier/api.ErrForm", "courier/api.ErrFull", "courier/api.ErrStore", "courier/api.ErrTag", "courier/api.ErrGap", "courier/api.ErrOld", "courier/api.ErrKey", "courier/api.ErrRoot", "courier/api.ErrNone", "courier/api.ErrOpen", "courier/api.ErrDigest", "courier/api.ErrState", "courier/api.ErrLimit", "courier/api.ErrClosed"], apart := false, laid := [("courier/api.ErrOff", laid_courier_api_ErrOff), ("courier/api.ErrRange", laid_courier_api_ErrRange), ("courier/api.ErrShort", laid_courier_api_ErrShort), ("courier/api.ErrTrail", laid_courier_api_ErrTrail), ("courier/api.ErrForm", laid_courier_api_ErrForm), ("courier/api.ErrPanic", laid_courier_api_ErrPanic), ("courier/api.ErrFull", laid_courier_api_ErrFull), ("courier/api.ErrStore", laid_courier_api_ErrStore), ("courier/api.ErrTag", laid_courier_api_ErrTag), ("courier/api.ErrGap", laid_courier_api_ErrGap), ("courier/api.ErrOld", laid_courier_api_ErrOld), ("courier/api.ErrKey", laid_courier_api_ErrKey), ("courier/api.ErrRoot", laid_courier_api_ErrRoot), ("courier/api.ErrNone", laid_courier_api_ErrNone), ("courier/api.ErrOpen", laid_courier_api_ErrOpen), ("courier/api.ErrDigest", laid_courier_api_ErrDigest), ("courier/api.ErrState", laid_courier_api_ErrState), ("courier/api.ErrLimit", laid_courier_api_ErrLimit), ("courier/api.ErrClosed", laid_courier_api_ErrClosed)] }
def DescBackSaid : Prop := descBackRow.holds Tryd.pinned (OpenSpec.ofChange descBackSpec)

/-- ITS FALSE NEIGHBOUR: 'it returns false'. Refute it at one input. -/
def descBackWrong : ChangeSpec := { name := "descBack", fn := fun _ => fun
  | [d1, d2, d3, d4] => { results := [.lit (.bool false)], args := [d1, d2, d3, d4] }
  | _ => none }
def DescBackWrongFalsely : Prop := descBackRow.holds Tryd.pinned (OpenSpec.ofChange descBackWrong)

/-- 'courierlaw26.TableOrder': WHATEVER THE INPUT: true; the input reads as it did. -/
def tableOrderSpec : ChangeSpec := { name := "tableOrder", fn := fun _ => fun
  | [d1, d2] => { results := [.lit (.bool true)], args := [d1, d2] }
  | _ => none }
def tableOrderRow : OpenClaim := { program := "ytlikinglgegclaadoor", sum := "32f0c504ba4e5ff078fc476e483292a09ed368fa1e2cf2b47b5278a66bdba062", func := "courier/courierlaw26.TableOrder", spec := "tableOrder", unfollowed := true, recurses := true, named := ["courier/api.ErrLimit", "courier/api.ErrOpen", "courier/api.ErrOff", "courier/api.ErrRange", "courier/api.ErrShort", "courier/api.ErrTrail", "courier/api.ErrForm", "courier/api.ErrPanic", "courier/api.ErrFull", "courier/api.ErrStore", "courier/api.ErrTag", "courier/api.ErrGap", "courier/api.ErrOld", "courier/api.ErrKey", "courier/api.ErrRoot", "courier/api.ErrNone", "courier/api.ErrDigest", "courier/api.ErrState", "courier/api.ErrClosed"], apart := false, laid := [("courier/api.ErrOff", laid_courier_api_ErrOff), ("courier/api.ErrRange", laid_courier_api_ErrRange), ("courier/api.ErrShort", laid_courier_api_ErrShort), ("courier/api.ErrTrail", laid_courier_api_ErrTrail), ("courier/api.ErrForm", laid_courier_api_ErrForm), ("courier/api.ErrPanic", laid_courier_api_ErrPanic), ("courier/api.ErrFull", laid_courier_api_ErrFull), ("courier/api.ErrStore", laid_courier_api_ErrStore), ("courier/api.ErrTag", laid_courier_api_ErrTag), ("courier/api.ErrGap", laid_courier_api_ErrGap), ("courier/api.ErrOld", laid_courier_api_ErrOld), ("courier/api.ErrKey", laid_courier_api_ErrKey), ("courier/api.ErrRoot", laid_courier_api_ErrRoot), ("courier/api.ErrNone", laid_courier_api_ErrNone), ("courier/api.ErrOpen", laid_courier_api_ErrOpen), ("courier/api.ErrDigest", laid_courier_api_ErrDigest), ("courier/api.ErrState", laid_courier_api_ErrState), ("courier/api.ErrLimit", laid_courier_api_ErrLimit), ("courier/api.ErrClosed", laid_courier_api_ErrClosed)] }
def TableOrderSaid : Prop := tableOrderRow.holds Tryd.pinned (OpenSpec.ofChange tableOrderSpec)

/-- ITS FALSE NEIGHBOUR: 'it returns false'. Refute it at one input. -/
def tableOrderWrong : ChangeSpec := { name := "tableOrder", fn := fun _ => fun
  | [d1, d2] => { results := [.lit (.bool false)], args := [d1, d2] }
  | _ => none }
def TableOrderWrongFalsely : Prop := tableOrderRow.holds Tryd.pinned (OpenSpec.ofChange tableOrderWrong)

/- THE SECOND FORM. 'bulk': how many values and letters a reading holds, each counted each time it is reached (what is shared counts as often as it is met; a slice's spare places count too). A statement '..UptoSaid' is the law's where the arguments, and the package variables that the reading takes, are together of bulk at most 1048576: NARROWER than '..Said'. Prove '..Said' where nothing that the law and all that it calls make is longer than what came in: it says more and counts as full. Else prove '..UptoSaid'. A law counts once. -/
mutual
def uptoBulk {H : Type} : DataW H → Nat
  | .lit (.string bytes) => bytes.length + 1
  | .lit _ => 1
  | .nil => 1
  | .ptr d => uptoBulk d + 1
  | .slice elems spare => uptoBulkAll elems + uptoBulkAll spare + 1
  | .agg parts => uptoBulkAll parts + 1
  | .iface _ d => uptoBulk d + 1
  | .map entries => uptoBulkEntries entries + 1
  | .held _ => 1
def uptoBulkAll {H : Type} : List (DataW H) → Nat
  | [] => 0
  | d :: r => uptoBulk d + uptoBulkAll r
def uptoBulkEntries {H : Type} : List (Lit × DataW H) → Nat
  | [] => 0
  | x :: r => uptoBulkEntry x + uptoBulkEntries r
def uptoBulkEntry {H : Type} : Lit × DataW H → Nat
  | (.string bytes, d) => bytes.length + uptoBulk d + 1
  | (_, d) => uptoBulk d + 1
 end
def uptoSmall : (H : Type) → List (DataW H) → Bool := fun _ ds => decide (uptoBulkAll ds ≤ 1048576)
def OpenSpec.upto (s : _root_.Go.ChangeSpec) : _root_.Go.OpenSpec := { _root_.Go.OpenSpec.ofChange s with cond := some uptoSmall }

/-- 'courierlaw19.DescLays', WHERE WHAT IT READS IS OF BULK AT MOST 1048576: true; the input reads as it did. -/
def descLaysUptoRow : OpenClaim := { program := "ytlikinglgegclaadoor", sum := "32f0c504ba4e5ff078fc476e483292a09ed368fa1e2cf2b47b5278a66bdba062", func := "courier/courierlaw19.DescLays", spec := "descLays", recurses := true, named := ["courier/api.ErrRange", "courier/api.ErrOff", "courier/api.ErrShort", "courier/api.ErrTrail", "courier/api.ErrForm", "courier/api.ErrPanic", "courier/api.ErrFull", "courier/api.ErrStore", "courier/api.ErrTag", "courier/api.ErrGap", "courier/api.ErrOld", "courier/api.ErrKey", "courier/api.ErrRoot", "courier/api.ErrNone", "courier/api.ErrOpen", "courier/api.ErrDigest", "courier/api.ErrState", "courier/api.ErrLimit", "courier/api.ErrClosed"], apart := false, laid := [("courier/api.ErrOff", laid_courier_api_ErrOff), ("courier/api.ErrRange", laid_courier_api_ErrRange), ("courier/api.ErrShort", laid_courier_api_ErrShort), ("courier/api.ErrTrail", laid_courier_api_ErrTrail), ("courier/api.ErrForm", laid_courier_api_ErrForm), ("courier/api.ErrPanic", laid_courier_api_ErrPanic), ("courier/api.ErrFull", laid_courier_api_ErrFull), ("courier/api.ErrStore", laid_courier_api_ErrStore), ("courier/api.ErrTag", laid_courier_api_ErrTag), ("courier/api.ErrGap", laid_courier_api_ErrGap), ("courier/api.ErrOld", laid_courier_api_ErrOld), ("courier/api.ErrKey", laid_courier_api_ErrKey), ("courier/api.ErrRoot", laid_courier_api_ErrRoot), ("courier/api.ErrNone", laid_courier_api_ErrNone), ("courier/api.ErrOpen", laid_courier_api_ErrOpen), ("courier/api.ErrDigest", laid_courier_api_ErrDigest), ("courier/api.ErrState", laid_courier_api_ErrState), ("courier/api.ErrLimit", laid_courier_api_ErrLimit), ("courier/api.ErrClosed", laid_courier_api_ErrClosed)], narrowed := true }
def DescLaysUptoSaid : Prop := descLaysUptoRow.holds Tryd.pinned (OpenSpec.upto descLaysSpec)

/-- 'courierlaw19.DescBack', WHERE WHAT IT READS IS OF BULK AT MOST 1048576: true; the input reads as it did. -/
def descBackUptoRow : OpenClaim := { program := "ytlikinglgegclaadoor", sum := "32f0c504ba4e5ff078fc476e483292a09ed368fa1e2cf2b47b5278a66bdba062", func := "courier/courierlaw19.DescBack", spec := "descBack", unfollowed := true, recurses := true, named := ["courier/api.ErrRange", "courier/api.ErrShort", "courier/api.ErrPanic", "courier/api.ErrTrail", "courier/api.ErrOff", "courier/api.ErrForm", "courier/api.ErrFull", "courier/api.ErrStore", "courier/api.ErrTag", "courier/api.ErrGap", "courier/api.ErrOld", "courier/api.ErrKey", "courier/api.ErrRoot", "courier/api.ErrNone", "courier/api.ErrOpen", "courier/api.ErrDigest", "courier/api.ErrState", "courier/api.ErrLimit", "courier/api.ErrClosed"], apart := false, laid := [("courier/api.ErrOff", laid_courier_api_ErrOff), ("courier/api.ErrRange", laid_courier_api_ErrRange), ("courier/api.ErrShort", laid_courier_api_ErrShort), ("courier/api.ErrTrail", laid_courier_api_ErrTrail), ("courier/api.ErrForm", laid_courier_api_ErrForm), ("courier/api.ErrPanic", laid_courier_api_ErrPanic), ("courier/api.ErrFull", laid_courier_api_ErrFull), ("courier/api.ErrStore", laid_courier_api_ErrStore), ("courier/api.ErrTag", laid_courier_api_ErrTag), ("courier/api.ErrGap", laid_courier_api_ErrGap), ("courier/api.ErrOld", laid_courier_api_ErrOld), ("courier/api.ErrKey", laid_courier_api_ErrKey), ("courier/api.ErrRoot", laid_courier_api_ErrRoot), ("courier/api.ErrNone", laid_courier_api_ErrNone), ("courier/api.ErrOpen", laid_courier_api_ErrOpen), ("courier/api.ErrDigest", laid_courier_api_ErrDigest), ("courier/api.ErrState", laid_courier_api_ErrState), ("courier/api.ErrLimit", laid_courier_api_ErrLimit), ("courier/api.ErrClosed", laid_courier_api_ErrClosed)], narrowed := true }
def DescBackUptoSaid : Prop := descBackUptoRow.holds Tryd.pinned (OpenSpec.upto descBackSpec)

/-- 'courierlaw26.TableOrder', WHERE WHAT IT READS IS OF BULK AT MOST 1048576: true; the input reads as it did. -/
def tableOrderUptoRow : OpenClaim := { program := "ytlikinglgegclaadoor", sum := "32f0c504ba4e5ff078fc476e483292a09ed368fa1e2cf2b47b5278a66bdba062", func := "courier/courierlaw26.TableOrder", spec := "tableOrder", unfollowed := true, recurses := true, named := ["courier/api.ErrLimit", "courier/api.ErrOpen", "courier/api.ErrOff", "courier/api.ErrRange", "courier/api.ErrShort", "courier/api.ErrTrail", "courier/api.ErrForm", "courier/api.ErrPanic", "courier/api.ErrFull", "courier/api.ErrStore", "courier/api.ErrTag", "courier/api.ErrGap", "courier/api.ErrOld", "courier/api.ErrKey", "courier/api.ErrRoot", "courier/api.ErrNone", "courier/api.ErrDigest", "courier/api.ErrState", "courier/api.ErrClosed"], apart := false, laid := [("courier/api.ErrOff", laid_courier_api_ErrOff), ("courier/api.ErrRange", laid_courier_api_ErrRange), ("courier/api.ErrShort", laid_courier_api_ErrShort), ("courier/api.ErrTrail", laid_courier_api_ErrTrail), ("courier/api.ErrForm", laid_courier_api_ErrForm), ("courier/api.ErrPanic", laid_courier_api_ErrPanic), ("courier/api.ErrFull", laid_courier_api_ErrFull), ("courier/api.ErrStore", laid_courier_api_ErrStore), ("courier/api.ErrTag", laid_courier_api_ErrTag), ("courier/api.ErrGap", laid_courier_api_ErrGap), ("courier/api.ErrOld", laid_courier_api_ErrOld), ("courier/api.ErrKey", laid_courier_api_ErrKey), ("courier/api.ErrRoot", laid_courier_api_ErrRoot), ("courier/api.ErrNone", laid_courier_api_ErrNone), ("courier/api.ErrOpen", laid_courier_api_ErrOpen), ("courier/api.ErrDigest", laid_courier_api_ErrDigest), ("courier/api.ErrState", laid_courier_api_ErrState), ("courier/api.ErrLimit", laid_courier_api_ErrLimit), ("courier/api.ErrClosed", laid_courier_api_ErrClosed)], narrowed := true }
def TableOrderUptoSaid : Prop := tableOrderUptoRow.holds Tryd.pinned (OpenSpec.upto tableOrderSpec)

end Rows
end Go.Proofs.YtlikinglgegclaaDoor
