/-
  No cell of these rows narrows 'for every input' (looked for: loops, veiled, ifaces, maps, wideKeys, modest, calm, conditions, laid).
  DERIVED. THE GIVEN ROWS OF THIS SEAT. 3 by the template 'for every input the law returns true; each argument reads behind the call as it read before'; 0 by the template 'total and deterministic' (their statements: YtbpmkbcpnnpdjaaTotals.lean).
  GIVEN WITH THE SEED: the statements are not yours to turn. If you find one false, say at which input.
  Laid BY PROGRAM, IN A SANDBOX (cutbox-rows.mjs): the forced cells as the released guide's own fill.sh prints them over the translation 7b855a557cfc51a2… (all of the seat's roots in one cut). By AI agents, Wed Nov 11 2026. No macro, syntax, notation, axiom, sorry.
-/
import Derived.Test.YtbpmkbcpnnpdjaaChecked
import GoSem.Claim
import GoSem.ClaimJoined
import GoSem.ClaimMapViews
import Derived.JoinedTies
import Derived.KernelRfl
namespace Go.Proofs.Ytbpmkbcpnnpdjaa
/- THE CELL 'sum', in the pinned program and in every row, IS THE sha256 OF THE DUMP (.gsa) THAT YtbpmkbcpnnpdjaaProg.lean LOADS. Nothing in Lean hashes anything: it is a label: what it is worth is what the hold of that sum in a sandbox is worth. -/
noncomputable def Try.pinned : Pinned := { name := "ytbpmkbcpnnpdjaa", sum := "7b855a557cfc51a22c9b1520647e9564939b2909913f25d8bed1073b5662b9f1", checked := Try.checked }
namespace Rows
def none {H : Type} : Left H := { results := [], args := [] }

/-- 'concordlaw07.SetsRise': WHATEVER THE INPUT: true; the input reads as it did. -/
def setsRiseSpec : ChangeSpec := { name := "setsRise", fn := fun _ => fun
  | [d] => { results := [.lit (.bool true)], args := [d] }
  | _ => none }
def setsRiseRow : OpenClaim := { program := "ytbpmkbcpnnpdjaa", sum := "7b855a557cfc51a22c9b1520647e9564939b2909913f25d8bed1073b5662b9f1", func := "concord/concordlaw07.SetsRise", spec := "setsRise", inPlace := ["internal/reflectlite.TypeOf"], unfollowed := true, recurses := true, apart := false }
def SetsRiseSaid : Prop := setsRiseRow.holds Try.pinned (OpenSpec.ofChange setsRiseSpec)

/-- ITS FALSE NEIGHBOUR: 'it returns false'. Refute it at one input. -/
def setsRiseWrong : ChangeSpec := { name := "setsRise", fn := fun _ => fun
  | [d] => { results := [.lit (.bool false)], args := [d] }
  | _ => none }
def SetsRiseWrongFalsely : Prop := setsRiseRow.holds Try.pinned (OpenSpec.ofChange setsRiseWrong)

/-- 'concordlaw07.SetsFull': WHATEVER THE INPUT: true; the input reads as it did. -/
def setsFullSpec : ChangeSpec := { name := "setsFull", fn := fun _ => fun
  | [d1, d2] => { results := [.lit (.bool true)], args := [d1, d2] }
  | _ => none }
def setsFullRow : OpenClaim := { program := "ytbpmkbcpnnpdjaa", sum := "7b855a557cfc51a22c9b1520647e9564939b2909913f25d8bed1073b5662b9f1", func := "concord/concordlaw07.SetsFull", spec := "setsFull", inPlace := ["internal/reflectlite.TypeOf"], unfollowed := true, recurses := true, apart := false }
def SetsFullSaid : Prop := setsFullRow.holds Try.pinned (OpenSpec.ofChange setsFullSpec)

/-- ITS FALSE NEIGHBOUR: 'it returns false'. Refute it at one input. -/
def setsFullWrong : ChangeSpec := { name := "setsFull", fn := fun _ => fun
  | [d1, d2] => { results := [.lit (.bool false)], args := [d1, d2] }
  | _ => none }
def SetsFullWrongFalsely : Prop := setsFullRow.holds Try.pinned (OpenSpec.ofChange setsFullWrong)

/-- 'concordlaw07.SetsNil': WHATEVER THE INPUT: true; the input reads as it did. -/
def setsNilSpec : ChangeSpec := { name := "setsNil", fn := fun _ => fun
  | [d1, d2, d3] => { results := [.lit (.bool true)], args := [d1, d2, d3] }
  | _ => none }
def setsNilRow : OpenClaim := { program := "ytbpmkbcpnnpdjaa", sum := "7b855a557cfc51a22c9b1520647e9564939b2909913f25d8bed1073b5662b9f1", func := "concord/concordlaw07.SetsNil", spec := "setsNil", inPlace := ["internal/reflectlite.TypeOf"], unfollowed := true, recurses := true, apart := false }
def SetsNilSaid : Prop := setsNilRow.holds Try.pinned (OpenSpec.ofChange setsNilSpec)

/-- ITS FALSE NEIGHBOUR: 'it returns false'. Refute it at one input. -/
def setsNilWrong : ChangeSpec := { name := "setsNil", fn := fun _ => fun
  | [d1, d2, d3] => { results := [.lit (.bool false)], args := [d1, d2, d3] }
  | _ => none }
def SetsNilWrongFalsely : Prop := setsNilRow.holds Try.pinned (OpenSpec.ofChange setsNilWrong)

/- THE SECOND FORM. 'bulk': how many values and letters a reading holds, each counted each time it is reached (what is shared counts as often as it is met; a slice's spare places count too). A statement '..UptoSaid' is the law's where the arguments, and the package variables that the reading takes, are together of bulk at most 1048576: NARROWER than '..Said'. Prove '..Said' where nothing that the law and all that it calls make is longer than what came in: it says more and counts as full. Else prove '..UptoSaid'. A law counts once. -/
mutual
def uptoBulk {H : Type} : DataW H → Nat
  | .lit (.string bytes) => bytes.length + 1
  | .lit _ => 1
  | .nil => 1
  | .ptr d => uptoBulk d + 1
  | .slice elems spare => uptoBulkAll elems + uptoBulkAll spare + 1
  | .agg parts => uptoBulkAll parts + 1
  | .iface _ d => uptoBulk d + 1
  | .map entries => uptoBulkEntries entries + 1
  | .held _ => 1
def uptoBulkAll {H : Type} : List (DataW H) → Nat
  | [] => 0
  | d :: r => uptoBulk d + uptoBulkAll r
def uptoBulkEntries {H : Type} : List (Lit × DataW H) → Nat
  | [] => 0
  | x :: r => uptoBulkEntry x + uptoBulkEntries r
def uptoBulkEntry {H : Type} : Lit × DataW H → Nat
  | (.string bytes, d) => bytes.length + uptoBulk d + 1
  | (_, d) => uptoBulk d + 1
 end
def uptoSmall : (H : Type) → List (DataW H) → Bool := fun _ ds => decide (uptoBulkAll ds ≤ 1048576)
def OpenSpec.upto (s : _root_.Go.ChangeSpec) : _root_.Go.OpenSpec := { _root_.Go.OpenSpec.ofChange s with cond := some uptoSmall }

/-- 'concordlaw07.SetsRise', WHERE WHAT IT READS IS OF BULK AT MOST 1048576: true; the input reads as it did. -/
def setsRiseUptoRow : OpenClaim := { program := "ytbpmkbcpnnpdjaa", sum := "7b855a557cfc51a22c9b1520647e9564939b2909913f25d8bed1073b5662b9f1", func := "concord/concordlaw07.SetsRise", spec := "setsRise", inPlace := ["internal/reflectlite.TypeOf"], unfollowed := true, recurses := true, apart := false, narrowed := true }
def SetsRiseUptoSaid : Prop := setsRiseUptoRow.holds Try.pinned (OpenSpec.upto setsRiseSpec)

/-- 'concordlaw07.SetsFull', WHERE WHAT IT READS IS OF BULK AT MOST 1048576: true; the input reads as it did. -/
def setsFullUptoRow : OpenClaim := { program := "ytbpmkbcpnnpdjaa", sum := "7b855a557cfc51a22c9b1520647e9564939b2909913f25d8bed1073b5662b9f1", func := "concord/concordlaw07.SetsFull", spec := "setsFull", inPlace := ["internal/reflectlite.TypeOf"], unfollowed := true, recurses := true, apart := false, narrowed := true }
def SetsFullUptoSaid : Prop := setsFullUptoRow.holds Try.pinned (OpenSpec.upto setsFullSpec)

/-- 'concordlaw07.SetsNil', WHERE WHAT IT READS IS OF BULK AT MOST 1048576: true; the input reads as it did. -/
def setsNilUptoRow : OpenClaim := { program := "ytbpmkbcpnnpdjaa", sum := "7b855a557cfc51a22c9b1520647e9564939b2909913f25d8bed1073b5662b9f1", func := "concord/concordlaw07.SetsNil", spec := "setsNil", inPlace := ["internal/reflectlite.TypeOf"], unfollowed := true, recurses := true, apart := false, narrowed := true }
def SetsNilUptoSaid : Prop := setsNilUptoRow.holds Try.pinned (OpenSpec.upto setsNilSpec)

end Rows
end Go.Proofs.Ytbpmkbcpnnpdjaa
