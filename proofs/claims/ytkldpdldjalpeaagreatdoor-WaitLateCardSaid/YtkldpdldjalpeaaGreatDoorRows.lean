/-
  NARROWER THAN 'FOR EVERY INPUT', by the rows' own cells (each row's printed sentence says how): WaitLost: laid · WaitRooms: laid · WaitLate: laid.
  DERIVED. THE GIVEN ROWS OF THIS SEAT. 3 by the template 'for every input the law returns true; each argument reads behind the call as it read before'; 0 by the template 'total and deterministic' (their statements: YtkldpdldjalpeaaGreatDoorTotals.lean).
  GIVEN WITH THE SEED: the statements are not yours to turn. If you find one false, say at which input.
  Laid BY PROGRAM, IN A SANDBOX (cutbox-rows.mjs): the forced cells as the released guide's own fill.sh prints them over the translation a5e75f431a670279… (all of the seat's roots in one cut). By AI agents, Wed Nov 11 2026. No macro, syntax, notation, axiom, sorry.
-/
import Derived.Test.YtkldpdldjalpeaaGreatDoorChecked
import GoSem.Claim
import GoSem.ClaimJoined
import GoSem.ClaimMapViews
import Derived.JoinedTies
import Derived.KernelRfl
namespace Go.Proofs.YtkldpdldjalpeaaGreatDoor
/- THE CELL 'sum', in the pinned program and in every row, IS THE sha256 OF THE DUMP (.gsa) THAT YtkldpdldjalpeaaGreatDoorProg.lean LOADS. Nothing in Lean hashes anything: it is a label: what it is worth is what the hold of that sum in a sandbox is worth. -/
noncomputable def Tryz.pinned : Pinned := { name := "ytkldpdldjalpeaagreatdoor", sum := "a5e75f431a670279c4c951939edcc30dfb5fa8d5fe5e5d04e76122f2475540a8", checked := Tryz.checked }
namespace Rows
def none {H : Type} : Left H := { results := [], args := [] }

/- WHAT THE LISTED PACKAGE-LEVEL VARIABLES READ AS WHEN THE CALL BEGINS. Each datum BY PROGRAM (the guide's laid-datum.mjs) off the statement by which the dump's own 'gosem.cut.vars' lays the variable. In a bare row this is a premise. The card (YtkldpdldjalpeaaGreatDoorCards.lean) ties it to the program's text. -/
def laid_errors_errorType {H : Type} : DataW H := .iface "internal/reflectlite.rtype" (.agg [.ptr (.lit (.string [101, 114, 114, 111, 114]))])

/-- 'concordlaw15.WaitLost': WHATEVER THE INPUT: true; the input reads as it did. -/
def waitLostSpec : ChangeSpec := { name := "waitLost", fn := fun _ => fun
  | [d1, d2, d3] => { results := [.lit (.bool true)], args := [d1, d2, d3] }
  | _ => none }
def waitLostRow : OpenClaim := { program := "ytkldpdldjalpeaagreatdoor", sum := "a5e75f431a670279c4c951939edcc30dfb5fa8d5fe5e5d04e76122f2475540a8", func := "concord/concordlaw15.WaitLost", spec := "waitLost", inPlace := ["internal/reflectlite.TypeOf", "internal/reflectlite.ValueOf", "(internal/reflectlite.Value).Type", "(internal/reflectlite.Value).IsNil", "(internal/reflectlite.Value).Elem", "(internal/reflectlite.Value).Set"], unfollowed := true, recurses := true, named := ["errors.errorType"], apart := false, laid := [("errors.errorType", laid_errors_errorType)] }
def WaitLostSaid : Prop := waitLostRow.holds Tryz.pinned (OpenSpec.ofChange waitLostSpec)

/-- ITS FALSE NEIGHBOUR: 'it returns false'. Refute it at one input. -/
def waitLostWrong : ChangeSpec := { name := "waitLost", fn := fun _ => fun
  | [d1, d2, d3] => { results := [.lit (.bool false)], args := [d1, d2, d3] }
  | _ => none }
def WaitLostWrongFalsely : Prop := waitLostRow.holds Tryz.pinned (OpenSpec.ofChange waitLostWrong)

/-- 'concordlaw15.WaitRooms': WHATEVER THE INPUT: true; the input reads as it did. -/
def waitRoomsSpec : ChangeSpec := { name := "waitRooms", fn := fun _ => fun
  | [d1, d2] => { results := [.lit (.bool true)], args := [d1, d2] }
  | _ => none }
def waitRoomsRow : OpenClaim := { program := "ytkldpdldjalpeaagreatdoor", sum := "a5e75f431a670279c4c951939edcc30dfb5fa8d5fe5e5d04e76122f2475540a8", func := "concord/concordlaw15.WaitRooms", spec := "waitRooms", inPlace := ["internal/reflectlite.TypeOf", "internal/reflectlite.ValueOf", "(internal/reflectlite.Value).Type", "(internal/reflectlite.Value).IsNil", "(internal/reflectlite.Value).Elem", "(internal/reflectlite.Value).Set"], unfollowed := true, recurses := true, named := ["errors.errorType"], apart := false, laid := [("errors.errorType", laid_errors_errorType)] }
def WaitRoomsSaid : Prop := waitRoomsRow.holds Tryz.pinned (OpenSpec.ofChange waitRoomsSpec)

/-- ITS FALSE NEIGHBOUR: 'it returns false'. Refute it at one input. -/
def waitRoomsWrong : ChangeSpec := { name := "waitRooms", fn := fun _ => fun
  | [d1, d2] => { results := [.lit (.bool false)], args := [d1, d2] }
  | _ => none }
def WaitRoomsWrongFalsely : Prop := waitRoomsRow.holds Tryz.pinned (OpenSpec.ofChange waitRoomsWrong)

/-- 'concordlaw15.WaitLate': WHATEVER THE INPUT: true; the input reads as it did. -/
def waitLateSpec : ChangeSpec := { name := "waitLate", fn := fun _ => fun
  | [d1, d2] => { results := [.lit (.bool true)], args := [d1, d2] }
  | _ => none }
def waitLateRow : OpenClaim := { program := "ytkldpdldjalpeaagreatdoor", sum := "a5e75f431a670279c4c951939edcc30dfb5fa8d5fe5e5d04e76122f2475540a8", func := "concord/concordlaw15.WaitLate", spec := "waitLate", inPlace := ["internal/reflectlite.TypeOf", "internal/reflectlite.ValueOf", "(internal/reflectlite.Value).Type", "(internal/reflectlite.Value).IsNil", "(internal/reflectlite.Value).Elem", "(internal/reflectlite.Value).Set"], unfollowed := true, recurses := true, named := ["errors.errorType"], apart := false, laid := [("errors.errorType", laid_errors_errorType)] }
def WaitLateSaid : Prop := waitLateRow.holds Tryz.pinned (OpenSpec.ofChange waitLateSpec)

/-- ITS FALSE NEIGHBOUR: 'it returns false'. Refute it at one input. -/
def waitLateWrong : ChangeSpec := { name := "waitLate", fn := fun _ => fun
  | [d1, d2] => { results := [.lit (.bool false)], args := [d1, d2] }
  | _ => none }
def WaitLateWrongFalsely : Prop := waitLateRow.holds Tryz.pinned (OpenSpec.ofChange waitLateWrong)

/- THE SECOND FORM. 'bulk': how many values and letters a reading holds, each counted each time it is reached (what is shared counts as often as it is met; a slice's spare places count too). A statement '..UptoSaid' is the law's where the arguments, and the package variables that the reading takes, are together of bulk at most 1048576: NARROWER than '..Said'. Prove '..Said' where nothing that the law and all that it calls make is longer than what came in: it says more and counts as full. Else prove '..UptoSaid'. A law counts once. -/
mutual
def uptoBulk {H : Type} : DataW H → Nat
  | .lit (.string bytes) => bytes.length + 1
  | .lit _ => 1
  | .nil => 1
  | .ptr d => uptoBulk d + 1
  | .slice elems spare => uptoBulkAll elems + uptoBulkAll spare + 1
  | .agg parts => uptoBulkAll parts + 1
  | .iface _ d => uptoBulk d + 1
  | .map entries => uptoBulkEntries entries + 1
  | .held _ => 1
def uptoBulkAll {H : Type} : List (DataW H) → Nat
  | [] => 0
  | d :: r => uptoBulk d + uptoBulkAll r
def uptoBulkEntries {H : Type} : List (Lit × DataW H) → Nat
  | [] => 0
  | x :: r => uptoBulkEntry x + uptoBulkEntries r
def uptoBulkEntry {H : Type} : Lit × DataW H → Nat
  | (.string bytes, d) => bytes.length + uptoBulk d + 1
  | (_, d) => uptoBulk d + 1
 end
def uptoSmall : (H : Type) → List (DataW H) → Bool := fun _ ds => decide (uptoBulkAll ds ≤ 1048576)
def OpenSpec.upto (s : _root_.Go.ChangeSpec) : _root_.Go.OpenSpec := { _root_.Go.OpenSpec.ofChange s with cond := some uptoSmall }

/-- 'concordlaw15.WaitLost', WHERE WHAT IT READS IS OF BULK AT MOST 1048576: true; the input reads as it did. -/
def waitLostUptoRow : OpenClaim := { program := "ytkldpdldjalpeaagreatdoor", sum := "a5e75f431a670279c4c951939edcc30dfb5fa8d5fe5e5d04e76122f2475540a8", func := "concord/concordlaw15.WaitLost", spec := "waitLost", inPlace := ["internal/reflectlite.TypeOf", "internal/reflectlite.ValueOf", "(internal/reflectlite.Value).Type", "(internal/reflectlite.Value).IsNil", "(internal/reflectlite.Value).Elem", "(internal/reflectlite.Value).Set"], unfollowed := true, recurses := true, named := ["errors.errorType"], apart := false, laid := [("errors.errorType", laid_errors_errorType)], narrowed := true }
def WaitLostUptoSaid : Prop := waitLostUptoRow.holds Tryz.pinned (OpenSpec.upto waitLostSpec)

/-- 'concordlaw15.WaitRooms', WHERE WHAT IT READS IS OF BULK AT MOST 1048576: true; the input reads as it did. -/
def waitRoomsUptoRow : OpenClaim := { program := "ytkldpdldjalpeaagreatdoor", sum := "a5e75f431a670279c4c951939edcc30dfb5fa8d5fe5e5d04e76122f2475540a8", func := "concord/concordlaw15.WaitRooms", spec := "waitRooms", inPlace := ["internal/reflectlite.TypeOf", "internal/reflectlite.ValueOf", "(internal/reflectlite.Value).Type", "(internal/reflectlite.Value).IsNil", "(internal/reflectlite.Value).Elem", "(internal/reflectlite.Value).Set"], unfollowed := true, recurses := true, named := ["errors.errorType"], apart := false, laid := [("errors.errorType", laid_errors_errorType)], narrowed := true }
def WaitRoomsUptoSaid : Prop := waitRoomsUptoRow.holds Tryz.pinned (OpenSpec.upto waitRoomsSpec)

/-- 'concordlaw15.WaitLate', WHERE WHAT IT READS IS OF BULK AT MOST 1048576: true; the input reads as it did. -/
def waitLateUptoRow : OpenClaim := { program := "ytkldpdldjalpeaagreatdoor", sum := "a5e75f431a670279c4c951939edcc30dfb5fa8d5fe5e5d04e76122f2475540a8", func := "concord/concordlaw15.WaitLate", spec := "waitLate", inPlace := ["internal/reflectlite.TypeOf", "internal/reflectlite.ValueOf", "(internal/reflectlite.Value).Type", "(internal/reflectlite.Value).IsNil", "(internal/reflectlite.Value).Elem", "(internal/reflectlite.Value).Set"], unfollowed := true, recurses := true, named := ["errors.errorType"], apart := false, laid := [("errors.errorType", laid_errors_errorType)], narrowed := true }
def WaitLateUptoSaid : Prop := waitLateUptoRow.holds Tryz.pinned (OpenSpec.upto waitLateSpec)

end Rows
end Go.Proofs.YtkldpdldjalpeaaGreatDoor
