/-
  NARROWER THAN 'FOR EVERY INPUT', by the rows' own cells (each row's printed sentence says how): ProgJudges: loops, laid · ProgWalks: loops, laid · ProgParts: loops, laid · ProgWithin: loops, laid · ProgCounts: loops, laid.
  DERIVED. THE GIVEN ROWS OF THIS SEAT. 5 by the template 'for every input the law returns true; each argument reads behind the call as it read before'; 0 by the template 'total and deterministic' (their statements: YtblfklnnojhadaaDoorTotals.lean).
  GIVEN WITH THE SEED: the statements are not yours to turn. If you find one false, say at which input.
  Laid BY PROGRAM, IN A SANDBOX (cutbox-rows.mjs): the forced cells as the released guide's own fill.sh prints them over the translation 0461e4acd9e084c8… (all of the seat's roots in one cut). By AI agents, Wed Nov 11 2026. No macro, syntax, notation, axiom, sorry.
-/
import Derived.Test.YtblfklnnojhadaaDoorChecked
import GoSem.Claim
import GoSem.ClaimJoined
import GoSem.ClaimMapViews
import Derived.JoinedTies
import Derived.KernelRfl
namespace Go.Proofs.YtblfklnnojhadaaDoor
/- THE CELL 'sum', in the pinned program and in every row, IS THE sha256 OF THE DUMP (.gsa) THAT YtblfklnnojhadaaDoorProg.lean LOADS. Nothing in Lean hashes anything: it is a label: what it is worth is what the hold of that sum in a sandbox is worth. -/
noncomputable def Tryd.pinned : Pinned := { name := "ytblfklnnojhadaadoor", sum := "0461e4acd9e084c887ef6683c8247ac578bbc2efb442ca34a80b04e79f817320", checked := Tryd.checked }
namespace Rows
def none {H : Type} : Left H := { results := [], args := [] }

/- WHAT THE LISTED PACKAGE-LEVEL VARIABLES READ AS WHEN THE CALL BEGINS. Each datum BY PROGRAM (the guide's laid-datum.mjs) off the statement by which the dump's own 'gosem.cut.vars' lays the variable. In a bare row this is a premise. The card (YtblfklnnojhadaaDoorCards.lean) ties it to the program's text. -/
def laid_errors_errorType {H : Type} : DataW H := .iface "internal/reflectlite.rtype" (.agg [.ptr (.lit (.string [101, 114, 114, 111, 114]))])

/-- 'concordlaw09.ProgJudges': WHATEVER THE INPUT: true; the input reads as it did. -/
def progJudgesSpec : ChangeSpec := { name := "progJudges", fn := fun _ => fun
  | [d1, d2] => { results := [.lit (.bool true)], args := [d1, d2] }
  | _ => none }
def progJudgesRow : OpenClaim := { program := "ytblfklnnojhadaadoor", sum := "0461e4acd9e084c887ef6683c8247ac578bbc2efb442ca34a80b04e79f817320", func := "concord/concordlaw09.ProgJudges", spec := "progJudges", inPlace := ["internal/reflectlite.TypeOf", "internal/reflectlite.ValueOf", "(internal/reflectlite.Value).Type", "(internal/reflectlite.Value).IsNil", "(internal/reflectlite.Value).Elem", "(internal/reflectlite.Value).Set"], unfollowed := true, recurses := true, named := ["errors.errorType"], loops := true, apart := false, laid := [("errors.errorType", laid_errors_errorType)] }
def ProgJudgesSaid : Prop := progJudgesRow.holds Tryd.pinned (OpenSpec.ofChange progJudgesSpec)

/-- ITS FALSE NEIGHBOUR: 'it returns false'. Refute it at one input. -/
def progJudgesWrong : ChangeSpec := { name := "progJudges", fn := fun _ => fun
  | [d1, d2] => { results := [.lit (.bool false)], args := [d1, d2] }
  | _ => none }
def ProgJudgesWrongFalsely : Prop := progJudgesRow.holds Tryd.pinned (OpenSpec.ofChange progJudgesWrong)

/-- 'concordlaw09.ProgWalks': WHATEVER THE INPUT: true; the input reads as it did. -/
def progWalksSpec : ChangeSpec := { name := "progWalks", fn := fun _ => fun
  | [d1, d2] => { results := [.lit (.bool true)], args := [d1, d2] }
  | _ => none }
def progWalksRow : OpenClaim := { program := "ytblfklnnojhadaadoor", sum := "0461e4acd9e084c887ef6683c8247ac578bbc2efb442ca34a80b04e79f817320", func := "concord/concordlaw09.ProgWalks", spec := "progWalks", inPlace := ["internal/reflectlite.TypeOf", "internal/reflectlite.ValueOf", "(internal/reflectlite.Value).Type", "(internal/reflectlite.Value).IsNil", "(internal/reflectlite.Value).Elem", "(internal/reflectlite.Value).Set"], unfollowed := true, recurses := true, named := ["errors.errorType"], loops := true, apart := false, laid := [("errors.errorType", laid_errors_errorType)] }
def ProgWalksSaid : Prop := progWalksRow.holds Tryd.pinned (OpenSpec.ofChange progWalksSpec)

/-- ITS FALSE NEIGHBOUR: 'it returns false'. Refute it at one input. -/
def progWalksWrong : ChangeSpec := { name := "progWalks", fn := fun _ => fun
  | [d1, d2] => { results := [.lit (.bool false)], args := [d1, d2] }
  | _ => none }
def ProgWalksWrongFalsely : Prop := progWalksRow.holds Tryd.pinned (OpenSpec.ofChange progWalksWrong)

/-- 'concordlaw09.ProgParts': WHATEVER THE INPUT: true; the input reads as it did. -/
def progPartsSpec : ChangeSpec := { name := "progParts", fn := fun _ => fun
  | [d1, d2, d3] => { results := [.lit (.bool true)], args := [d1, d2, d3] }
  | _ => none }
def progPartsRow : OpenClaim := { program := "ytblfklnnojhadaadoor", sum := "0461e4acd9e084c887ef6683c8247ac578bbc2efb442ca34a80b04e79f817320", func := "concord/concordlaw09.ProgParts", spec := "progParts", inPlace := ["internal/reflectlite.TypeOf", "internal/reflectlite.ValueOf", "(internal/reflectlite.Value).Type", "(internal/reflectlite.Value).IsNil", "(internal/reflectlite.Value).Elem", "(internal/reflectlite.Value).Set"], unfollowed := true, recurses := true, named := ["errors.errorType"], loops := true, apart := false, laid := [("errors.errorType", laid_errors_errorType)] }
def ProgPartsSaid : Prop := progPartsRow.holds Tryd.pinned (OpenSpec.ofChange progPartsSpec)

/-- ITS FALSE NEIGHBOUR: 'it returns false'. Refute it at one input. -/
def progPartsWrong : ChangeSpec := { name := "progParts", fn := fun _ => fun
  | [d1, d2, d3] => { results := [.lit (.bool false)], args := [d1, d2, d3] }
  | _ => none }
def ProgPartsWrongFalsely : Prop := progPartsRow.holds Tryd.pinned (OpenSpec.ofChange progPartsWrong)

/-- 'concordlaw09.ProgWithin': WHATEVER THE INPUT: true; the input reads as it did. -/
def progWithinSpec : ChangeSpec := { name := "progWithin", fn := fun _ => fun
  | [d1, d2] => { results := [.lit (.bool true)], args := [d1, d2] }
  | _ => none }
def progWithinRow : OpenClaim := { program := "ytblfklnnojhadaadoor", sum := "0461e4acd9e084c887ef6683c8247ac578bbc2efb442ca34a80b04e79f817320", func := "concord/concordlaw09.ProgWithin", spec := "progWithin", inPlace := ["internal/reflectlite.TypeOf", "internal/reflectlite.ValueOf", "(internal/reflectlite.Value).Type", "(internal/reflectlite.Value).IsNil", "(internal/reflectlite.Value).Elem", "(internal/reflectlite.Value).Set"], unfollowed := true, recurses := true, named := ["errors.errorType"], loops := true, apart := false, laid := [("errors.errorType", laid_errors_errorType)] }
def ProgWithinSaid : Prop := progWithinRow.holds Tryd.pinned (OpenSpec.ofChange progWithinSpec)

/-- ITS FALSE NEIGHBOUR: 'it returns false'. Refute it at one input. -/
def progWithinWrong : ChangeSpec := { name := "progWithin", fn := fun _ => fun
  | [d1, d2] => { results := [.lit (.bool false)], args := [d1, d2] }
  | _ => none }
def ProgWithinWrongFalsely : Prop := progWithinRow.holds Tryd.pinned (OpenSpec.ofChange progWithinWrong)

/-- 'concordlaw09.ProgCounts': WHATEVER THE INPUT: true; the input reads as it did. -/
def progCountsSpec : ChangeSpec := { name := "progCounts", fn := fun _ => fun
  | [d] => { results := [.lit (.bool true)], args := [d] }
  | _ => none }
def progCountsRow : OpenClaim := { program := "ytblfklnnojhadaadoor", sum := "0461e4acd9e084c887ef6683c8247ac578bbc2efb442ca34a80b04e79f817320", func := "concord/concordlaw09.ProgCounts", spec := "progCounts", inPlace := ["internal/reflectlite.TypeOf", "internal/reflectlite.ValueOf", "(internal/reflectlite.Value).Type", "(internal/reflectlite.Value).IsNil", "(internal/reflectlite.Value).Elem", "(internal/reflectlite.Value).Set"], unfollowed := true, recurses := true, named := ["errors.errorType"], loops := true, apart := false, laid := [("errors.errorType", laid_errors_errorType)] }
def ProgCountsSaid : Prop := progCountsRow.holds Tryd.pinned (OpenSpec.ofChange progCountsSpec)

/-- ITS FALSE NEIGHBOUR: 'it returns false'. Refute it at one input. -/
def progCountsWrong : ChangeSpec := { name := "progCounts", fn := fun _ => fun
  | [d] => { results := [.lit (.bool false)], args := [d] }
  | _ => none }
def ProgCountsWrongFalsely : Prop := progCountsRow.holds Tryd.pinned (OpenSpec.ofChange progCountsWrong)

/- THE SECOND FORM. 'bulk': how many values and letters a reading holds, each counted each time it is reached (what is shared counts as often as it is met; a slice's spare places count too). A statement '..UptoSaid' is the law's where the arguments, and the package variables that the reading takes, are together of bulk at most 1048576: NARROWER than '..Said'. Prove '..Said' where nothing that the law and all that it calls make is longer than what came in: it says more and counts as full. Else prove '..UptoSaid'. A law counts once. -/
mutual
def uptoBulk {H : Type} : DataW H → Nat
  | .lit (.string bytes) => bytes.length + 1
  | .lit _ => 1
  | .nil => 1
  | .ptr d => uptoBulk d + 1
  | .slice elems spare => uptoBulkAll elems + uptoBulkAll spare + 1
  | .agg parts => uptoBulkAll parts + 1
  | .iface _ d => uptoBulk d + 1
  | .map entries => uptoBulkEntries entries + 1
  | .held _ => 1
def uptoBulkAll {H : Type} : List (DataW H) → Nat
  | [] => 0
  | d :: r => uptoBulk d + uptoBulkAll r
def uptoBulkEntries {H : Type} : List (Lit × DataW H) → Nat
  | [] => 0
  | x :: r => uptoBulkEntry x + uptoBulkEntries r
def uptoBulkEntry {H : Type} : Lit × DataW H → Nat
  | (.string bytes, d) => bytes.length + uptoBulk d + 1
  | (_, d) => uptoBulk d + 1
 end
def uptoSmall : (H : Type) → List (DataW H) → Bool := fun _ ds => decide (uptoBulkAll ds ≤ 1048576)
def OpenSpec.upto (s : _root_.Go.ChangeSpec) : _root_.Go.OpenSpec := { _root_.Go.OpenSpec.ofChange s with cond := some uptoSmall }

/-- 'concordlaw09.ProgJudges', WHERE WHAT IT READS IS OF BULK AT MOST 1048576: true; the input reads as it did. -/
def progJudgesUptoRow : OpenClaim := { program := "ytblfklnnojhadaadoor", sum := "0461e4acd9e084c887ef6683c8247ac578bbc2efb442ca34a80b04e79f817320", func := "concord/concordlaw09.ProgJudges", spec := "progJudges", inPlace := ["internal/reflectlite.TypeOf", "internal/reflectlite.ValueOf", "(internal/reflectlite.Value).Type", "(internal/reflectlite.Value).IsNil", "(internal/reflectlite.Value).Elem", "(internal/reflectlite.Value).Set"], unfollowed := true, recurses := true, named := ["errors.errorType"], loops := true, apart := false, laid := [("errors.errorType", laid_errors_errorType)], narrowed := true }
def ProgJudgesUptoSaid : Prop := progJudgesUptoRow.holds Tryd.pinned (OpenSpec.upto progJudgesSpec)

/-- 'concordlaw09.ProgWalks', WHERE WHAT IT READS IS OF BULK AT MOST 1048576: true; the input reads as it did. -/
def progWalksUptoRow : OpenClaim := { program := "ytblfklnnojhadaadoor", sum := "0461e4acd9e084c887ef6683c8247ac578bbc2efb442ca34a80b04e79f817320", func := "concord/concordlaw09.ProgWalks", spec := "progWalks", inPlace := ["internal/reflectlite.TypeOf", "internal/reflectlite.ValueOf", "(internal/reflectlite.Value).Type", "(internal/reflectlite.Value).IsNil", "(internal/reflectlite.Value).Elem", "(internal/reflectlite.Value).Set"], unfollowed := true, recurses := true, named := ["errors.errorType"], loops := true, apart := false, laid := [("errors.errorType", laid_errors_errorType)], narrowed := true }
def ProgWalksUptoSaid : Prop := progWalksUptoRow.holds Tryd.pinned (OpenSpec.upto progWalksSpec)

/-- 'concordlaw09.ProgParts', WHERE WHAT IT READS IS OF BULK AT MOST 1048576: true; the input reads as it did. -/
def progPartsUptoRow : OpenClaim := { program := "ytblfklnnojhadaadoor", sum := "0461e4acd9e084c887ef6683c8247ac578bbc2efb442ca34a80b04e79f817320", func := "concord/concordlaw09.ProgParts", spec := "progParts", inPlace := ["internal/reflectlite.TypeOf", "internal/reflectlite.ValueOf", "(internal/reflectlite.Value).Type", "(internal/reflectlite.Value).IsNil", "(internal/reflectlite.Value).Elem", "(internal/reflectlite.Value).Set"], unfollowed := true, recurses := true, named := ["errors.errorType"], loops := true, apart := false, laid := [("errors.errorType", laid_errors_errorType)], narrowed := true }
def ProgPartsUptoSaid : Prop := progPartsUptoRow.holds Tryd.pinned (OpenSpec.upto progPartsSpec)

/-- 'concordlaw09.ProgWithin', WHERE WHAT IT READS IS OF BULK AT MOST 1048576: true; the input reads as it did. -/
def progWithinUptoRow : OpenClaim := { program := "ytblfklnnojhadaadoor", sum := "0461e4acd9e084c887ef6683c8247ac578bbc2efb442ca34a80b04e79f817320", func := "concord/concordlaw09.ProgWithin", spec := "progWithin", inPlace := ["internal/reflectlite.TypeOf", "internal/reflectlite.ValueOf", "(internal/reflectlite.Value).Type", "(internal/reflectlite.Value).IsNil", "(internal/reflectlite.Value).Elem", "(internal/reflectlite.Value).Set"], unfollowed := true, recurses := true, named := ["errors.errorType"], loops := true, apart := false, laid := [("errors.errorType", laid_errors_errorType)], narrowed := true }
def ProgWithinUptoSaid : Prop := progWithinUptoRow.holds Tryd.pinned (OpenSpec.upto progWithinSpec)

/-- 'concordlaw09.ProgCounts', WHERE WHAT IT READS IS OF BULK AT MOST 1048576: true; the input reads as it did. -/
def progCountsUptoRow : OpenClaim := { program := "ytblfklnnojhadaadoor", sum := "0461e4acd9e084c887ef6683c8247ac578bbc2efb442ca34a80b04e79f817320", func := "concord/concordlaw09.ProgCounts", spec := "progCounts", inPlace := ["internal/reflectlite.TypeOf", "internal/reflectlite.ValueOf", "(internal/reflectlite.Value).Type", "(internal/reflectlite.Value).IsNil", "(internal/reflectlite.Value).Elem", "(internal/reflectlite.Value).Set"], unfollowed := true, recurses := true, named := ["errors.errorType"], loops := true, apart := false, laid := [("errors.errorType", laid_errors_errorType)], narrowed := true }
def ProgCountsUptoSaid : Prop := progCountsUptoRow.holds Tryd.pinned (OpenSpec.upto progCountsSpec)

end Rows
end Go.Proofs.YtblfklnnojhadaaDoor
