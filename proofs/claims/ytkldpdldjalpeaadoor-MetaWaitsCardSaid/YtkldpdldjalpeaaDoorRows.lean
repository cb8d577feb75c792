/-
  NARROWER THAN 'FOR EVERY INPUT', by the rows' own cells (each row's printed sentence says how): MetaWhole: laid · MetaOne: laid · MetaTicks: laid · MetaWaits: laid.
  DERIVED. THE GIVEN ROWS OF THIS SEAT. 4 by the template 'for every input the law returns true; each argument reads behind the call as it read before'; 0 by the template 'total and deterministic' (their statements: YtkldpdldjalpeaaDoorTotals.lean).
  GIVEN WITH THE SEED: the statements are not yours to turn. If you find one false, say at which input.
  Laid BY PROGRAM, IN A SANDBOX (cutbox-rows.mjs): the forced cells as the released guide's own fill.sh prints them over the translation 04431eb83135cbed… (all of the seat's roots in one cut). By AI agents, Wed Nov 11 2026. No macro, syntax, notation, axiom, sorry.
-/
import Derived.Test.YtkldpdldjalpeaaDoorChecked
import GoSem.Claim
import GoSem.ClaimJoined
import GoSem.ClaimMapViews
import Derived.JoinedTies
import Derived.KernelRfl
namespace Go.Proofs.YtkldpdldjalpeaaDoor
/- THE CELL 'sum', in the pinned program and in every row, IS THE sha256 OF THE DUMP (.gsa) THAT YtkldpdldjalpeaaDoorProg.lean LOADS. Nothing in Lean hashes anything: it is a label: what it is worth is what the hold of that sum in a sandbox is worth. -/
noncomputable def Tryd.pinned : Pinned := { name := "ytkldpdldjalpeaadoor", sum := "04431eb83135cbedb8849c7e8ad7b650f45b22f8dbeb5d8d3c76cfbfe3e95bb9", checked := Tryd.checked }
namespace Rows
def none {H : Type} : Left H := { results := [], args := [] }

/- WHAT THE LISTED PACKAGE-LEVEL VARIABLES READ AS WHEN THE CALL BEGINS. Each datum BY PROGRAM (the guide's laid-datum.mjs) off the statement by which the dump's own 'gosem.cut.vars' lays the variable. In a bare row this is a premise. The card (YtkldpdldjalpeaaDoorCards.lean) ties it to the program's text. -/
def laid_errors_errorType {H : Type} : DataW H := .iface "internal/reflectlite.rtype" (.agg [.ptr (.lit (.string [101, 114, 114, 111, 114]))])

/-- 'concordlaw06.MetaWhole': WHATEVER THE INPUT: true; the input reads as it did. -/
def metaWholeSpec : ChangeSpec := { name := "metaWhole", fn := fun _ => fun
  | [d1, d2, d3] => { results := [.lit (.bool true)], args := [d1, d2, d3] }
  | _ => none }
def metaWholeRow : OpenClaim := { program := "ytkldpdldjalpeaadoor", sum := "04431eb83135cbedb8849c7e8ad7b650f45b22f8dbeb5d8d3c76cfbfe3e95bb9", func := "concord/concordlaw06.MetaWhole", spec := "metaWhole", inPlace := ["internal/reflectlite.TypeOf", "internal/reflectlite.ValueOf", "(internal/reflectlite.Value).Type", "(internal/reflectlite.Value).IsNil", "(internal/reflectlite.Value).Elem", "(internal/reflectlite.Value).Set"], unfollowed := true, recurses := true, named := ["errors.errorType"], apart := false, laid := [("errors.errorType", laid_errors_errorType)] }
def MetaWholeSaid : Prop := metaWholeRow.holds Tryd.pinned (OpenSpec.ofChange metaWholeSpec)

/-- ITS FALSE NEIGHBOUR: 'it returns false'. Refute it at one input. -/
def metaWholeWrong : ChangeSpec := { name := "metaWhole", fn := fun _ => fun
  | [d1, d2, d3] => { results := [.lit (.bool false)], args := [d1, d2, d3] }
  | _ => none }
def MetaWholeWrongFalsely : Prop := metaWholeRow.holds Tryd.pinned (OpenSpec.ofChange metaWholeWrong)

/-- 'concordlaw06.MetaOne': WHATEVER THE INPUT: true; the input reads as it did. -/
def metaOneSpec : ChangeSpec := { name := "metaOne", fn := fun _ => fun
  | [d1, d2] => { results := [.lit (.bool true)], args := [d1, d2] }
  | _ => none }
def metaOneRow : OpenClaim := { program := "ytkldpdldjalpeaadoor", sum := "04431eb83135cbedb8849c7e8ad7b650f45b22f8dbeb5d8d3c76cfbfe3e95bb9", func := "concord/concordlaw06.MetaOne", spec := "metaOne", inPlace := ["internal/reflectlite.TypeOf", "internal/reflectlite.ValueOf", "(internal/reflectlite.Value).Type", "(internal/reflectlite.Value).IsNil", "(internal/reflectlite.Value).Elem", "(internal/reflectlite.Value).Set"], unfollowed := true, recurses := true, named := ["errors.errorType"], apart := false, laid := [("errors.errorType", laid_errors_errorType)] }
def MetaOneSaid : Prop := metaOneRow.holds Tryd.pinned (OpenSpec.ofChange metaOneSpec)

/-- ITS FALSE NEIGHBOUR: 'it returns false'. Refute it at one input. -/
def metaOneWrong : ChangeSpec := { name := "metaOne", fn := fun _ => fun
  | [d1, d2] => { results := [.lit (.bool false)], args := [d1, d2] }
  | _ => none }
def MetaOneWrongFalsely : Prop := metaOneRow.holds Tryd.pinned (OpenSpec.ofChange metaOneWrong)

/-- 'concordlaw06.MetaTicks': WHATEVER THE INPUT: true; the input reads as it did. -/
def metaTicksSpec : ChangeSpec := { name := "metaTicks", fn := fun _ => fun
  | [d1, d2, d3] => { results := [.lit (.bool true)], args := [d1, d2, d3] }
  | _ => none }
def metaTicksRow : OpenClaim := { program := "ytkldpdldjalpeaadoor", sum := "04431eb83135cbedb8849c7e8ad7b650f45b22f8dbeb5d8d3c76cfbfe3e95bb9", func := "concord/concordlaw06.MetaTicks", spec := "metaTicks", inPlace := ["internal/reflectlite.TypeOf", "internal/reflectlite.ValueOf", "(internal/reflectlite.Value).Type", "(internal/reflectlite.Value).IsNil", "(internal/reflectlite.Value).Elem", "(internal/reflectlite.Value).Set"], unfollowed := true, recurses := true, named := ["errors.errorType"], apart := false, laid := [("errors.errorType", laid_errors_errorType)] }
def MetaTicksSaid : Prop := metaTicksRow.holds Tryd.pinned (OpenSpec.ofChange metaTicksSpec)

/-- ITS FALSE NEIGHBOUR: 'it returns false'. Refute it at one input. -/
def metaTicksWrong : ChangeSpec := { name := "metaTicks", fn := fun _ => fun
  | [d1, d2, d3] => { results := [.lit (.bool false)], args := [d1, d2, d3] }
  | _ => none }
def MetaTicksWrongFalsely : Prop := metaTicksRow.holds Tryd.pinned (OpenSpec.ofChange metaTicksWrong)

/-- 'concordlaw06.MetaWaits': WHATEVER THE INPUT: true; the input reads as it did. -/
def metaWaitsSpec : ChangeSpec := { name := "metaWaits", fn := fun _ => fun
  | [d1, d2, d3, d4] => { results := [.lit (.bool true)], args := [d1, d2, d3, d4] }
  | _ => none }
def metaWaitsRow : OpenClaim := { program := "ytkldpdldjalpeaadoor", sum := "04431eb83135cbedb8849c7e8ad7b650f45b22f8dbeb5d8d3c76cfbfe3e95bb9", func := "concord/concordlaw06.MetaWaits", spec := "metaWaits", inPlace := ["internal/reflectlite.TypeOf", "internal/reflectlite.ValueOf", "(internal/reflectlite.Value).Type", "(internal/reflectlite.Value).IsNil", "(internal/reflectlite.Value).Elem", "(internal/reflectlite.Value).Set"], unfollowed := true, recurses := true, named := ["errors.errorType"], apart := false, laid := [("errors.errorType", laid_errors_errorType)] }
def MetaWaitsSaid : Prop := metaWaitsRow.holds Tryd.pinned (OpenSpec.ofChange metaWaitsSpec)

/-- ITS FALSE NEIGHBOUR: 'it returns false'. Refute it at one input. -/
def metaWaitsWrong : ChangeSpec := { name := "metaWaits", fn := fun _ => fun
  | [d1, d2, d3, d4] => { results := [.lit (.bool false)], args := [d1, d2, d3, d4] }
  | _ => none }
def MetaWaitsWrongFalsely : Prop := metaWaitsRow.holds Tryd.pinned (OpenSpec.ofChange metaWaitsWrong)

/- THE SECOND FORM. 'bulk': how many values and letters a reading holds, each counted each time it is reached (what is shared counts as often as it is met; a slice's spare places count too). A statement '..UptoSaid' is the law's where the arguments, and the package variables that the reading takes, are together of bulk at most 1048576: NARROWER than '..Said'. Prove '..Said' where nothing that the law and all that it calls make is longer than what came in: it says more and counts as full. Else prove '..UptoSaid'. A law counts once. -/
mutual
def uptoBulk {H : Type} : DataW H → Nat
  | .lit (.string bytes) => bytes.length + 1
  | .lit _ => 1
  | .nil => 1
  | .ptr d => uptoBulk d + 1
  | .slice elems spare => uptoBulkAll elems + uptoBulkAll spare + 1
  | .agg parts => uptoBulkAll parts + 1
  | .iface _ d => uptoBulk d + 1
  | .map entries => uptoBulkEntries entries + 1
  | .held _ => 1
def uptoBulkAll {H : Type} : List (DataW H) → Nat
  | [] => 0
  | d :: r => uptoBulk d + uptoBulkAll r
def uptoBulkEntries {H : Type} : List (Lit × DataW H) → Nat
  | [] => 0
  | x :: r => uptoBulkEntry x + uptoBulkEntries r
def uptoBulkEntry {H : Type} : Lit × DataW H → Nat
  | (.string bytes, d) => bytes.length + uptoBulk d + 1
  | (_, d) => uptoBulk d + 1
 end
def uptoSmall : (H : Type) → List (DataW H) → Bool := fun _ ds => decide (uptoBulkAll ds ≤ 1048576)
def OpenSpec.upto (s : _root_.Go.ChangeSpec) : _root_.Go.OpenSpec := { _root_.Go.OpenSpec.ofChange s with cond := some uptoSmall }

/-- 'concordlaw06.MetaWhole', WHERE WHAT IT READS IS OF BULK AT MOST 1048576: true; the input reads as it did. -/
def metaWholeUptoRow : OpenClaim := { program := "ytkldpdldjalpeaadoor", sum := "04431eb83135cbedb8849c7e8ad7b650f45b22f8dbeb5d8d3c76cfbfe3e95bb9", func := "concord/concordlaw06.MetaWhole", spec := "metaWhole", inPlace := ["internal/reflectlite.TypeOf", "internal/reflectlite.ValueOf", "(internal/reflectlite.Value).Type", "(internal/reflectlite.Value).IsNil", "(internal/reflectlite.Value).Elem", "(internal/reflectlite.Value).Set"], unfollowed := true, recurses := true, named := ["errors.errorType"], apart := false, laid := [("errors.errorType", laid_errors_errorType)], narrowed := true }
def MetaWholeUptoSaid : Prop := metaWholeUptoRow.holds Tryd.pinned (OpenSpec.upto metaWholeSpec)

/-- 'concordlaw06.MetaOne', WHERE WHAT IT READS IS OF BULK AT MOST 1048576: true; the input reads as it did. -/
def metaOneUptoRow : OpenClaim := { program := "ytkldpdldjalpeaadoor", sum := "04431eb83135cbedb8849c7e8ad7b650f45b22f8dbeb5d8d3c76cfbfe3e95bb9", func := "concord/concordlaw06.MetaOne", spec := "metaOne", inPlace := ["internal/reflectlite.TypeOf", "internal/reflectlite.ValueOf", "(internal/reflectlite.Value).Type", "(internal/reflectlite.Value).IsNil", "(internal/reflectlite.Value).Elem", "(internal/reflectlite.Value).Set"], unfollowed := true, recurses := true, named := ["errors.errorType"], apart := false, laid := [("errors.errorType", laid_errors_errorType)], narrowed := true }
def MetaOneUptoSaid : Prop := metaOneUptoRow.holds Tryd.pinned (OpenSpec.upto metaOneSpec)

/-- 'concordlaw06.MetaTicks', WHERE WHAT IT READS IS OF BULK AT MOST 1048576: true; the input reads as it did. -/
def metaTicksUptoRow : OpenClaim := { program := "ytkldpdldjalpeaadoor", sum := "04431eb83135cbedb8849c7e8ad7b650f45b22f8dbeb5d8d3c76cfbfe3e95bb9", func := "concord/concordlaw06.MetaTicks", spec := "metaTicks", inPlace := ["internal/reflectlite.TypeOf", "internal/reflectlite.ValueOf", "(internal/reflectlite.Value).Type", "(internal/reflectlite.Value).IsNil", "(internal/reflectlite.Value).Elem", "(internal/reflectlite.Value).Set"], unfollowed := true, recurses := true, named := ["errors.errorType"], apart := false, laid := [("errors.errorType", laid_errors_errorType)], narrowed := true }
def MetaTicksUptoSaid : Prop := metaTicksUptoRow.holds Tryd.pinned (OpenSpec.upto metaTicksSpec)

/-- 'concordlaw06.MetaWaits', WHERE WHAT IT READS IS OF BULK AT MOST 1048576: true; the input reads as it did. -/
def metaWaitsUptoRow : OpenClaim := { program := "ytkldpdldjalpeaadoor", sum := "04431eb83135cbedb8849c7e8ad7b650f45b22f8dbeb5d8d3c76cfbfe3e95bb9", func := "concord/concordlaw06.MetaWaits", spec := "metaWaits", inPlace := ["internal/reflectlite.TypeOf", "internal/reflectlite.ValueOf", "(internal/reflectlite.Value).Type", "(internal/reflectlite.Value).IsNil", "(internal/reflectlite.Value).Elem", "(internal/reflectlite.Value).Set"], unfollowed := true, recurses := true, named := ["errors.errorType"], apart := false, laid := [("errors.errorType", laid_errors_errorType)], narrowed := true }
def MetaWaitsUptoSaid : Prop := metaWaitsUptoRow.holds Tryd.pinned (OpenSpec.upto metaWaitsSpec)

end Rows
end Go.Proofs.YtkldpdldjalpeaaDoor
