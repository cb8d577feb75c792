/-
  No cell of these rows narrows 'for every input' (looked for: loops, veiled, ifaces, maps, wideKeys, modest, calm, conditions, laid).
  DERIVED. THE GIVEN ROWS OF THIS SEAT. 4 by the template 'for every input the law returns true; each argument reads behind the call as it read before'; 0 by the template 'total and deterministic' (their statements: YteddiknlcdbhjaaGreatTotals.lean).
  GIVEN WITH THE SEED: the statements are not yours to turn. If you find one false, say at which input.
  Laid BY PROGRAM, IN A SANDBOX (cutbox-rows.mjs): the forced cells as the released guide's own fill.sh prints them over the translation a350a4354951bd18… (all of the seat's roots in one cut). By AI agents, Wed Nov 11 2026. No macro, syntax, notation, axiom, sorry.
-/
import Derived.Test.YteddiknlcdbhjaaGreatChecked
import GoSem.Claim
import GoSem.ClaimJoined
import GoSem.ClaimMapViews
import Derived.JoinedTies
import Derived.KernelRfl
namespace Go.Proofs.YteddiknlcdbhjaaGreat
/- THE CELL 'sum', in the pinned program and in every row, IS THE sha256 OF THE DUMP (.gsa) THAT YteddiknlcdbhjaaGreatProg.lean LOADS. Nothing in Lean hashes anything: it is a label: what it is worth is what the hold of that sum in a sandbox is worth. -/
noncomputable def Tryz.pinned : Pinned := { name := "yteddiknlcdbhjaagreat", sum := "a350a4354951bd1814c7efad7cf1de2d55e79f9e633731686a065c1696fa3767", checked := Tryz.checked }
namespace Rows
def none {H : Type} : Left H := { results := [], args := [] }

/-- 'concordlaw28.TraceSerial': WHATEVER THE INPUT: true; the input reads as it did. -/
def traceSerialSpec : ChangeSpec := { name := "traceSerial", fn := fun _ => fun
  | [d] => { results := [.lit (.bool true)], args := [d] }
  | _ => none }
def traceSerialRow : OpenClaim := { program := "yteddiknlcdbhjaagreat", sum := "a350a4354951bd1814c7efad7cf1de2d55e79f9e633731686a065c1696fa3767", func := "concord/concordlaw28.TraceSerial", spec := "traceSerial", inPlace := ["internal/reflectlite.TypeOf"], unfollowed := true, recurses := true, plainKeys := false, apart := false }
def TraceSerialSaid : Prop := traceSerialRow.holds Tryz.pinned (OpenSpec.ofChange traceSerialSpec)

/-- ITS FALSE NEIGHBOUR: 'it returns false'. Refute it at one input. -/
def traceSerialWrong : ChangeSpec := { name := "traceSerial", fn := fun _ => fun
  | [d] => { results := [.lit (.bool false)], args := [d] }
  | _ => none }
def TraceSerialWrongFalsely : Prop := traceSerialRow.holds Tryz.pinned (OpenSpec.ofChange traceSerialWrong)

/-- 'concordlaw28.TraceOrders': WHATEVER THE INPUT: true; the input reads as it did. -/
def traceOrdersSpec : ChangeSpec := { name := "traceOrders", fn := fun _ => fun
  | [d] => { results := [.lit (.bool true)], args := [d] }
  | _ => none }
def traceOrdersRow : OpenClaim := { program := "yteddiknlcdbhjaagreat", sum := "a350a4354951bd1814c7efad7cf1de2d55e79f9e633731686a065c1696fa3767", func := "concord/concordlaw28.TraceOrders", spec := "traceOrders", inPlace := ["internal/reflectlite.TypeOf"], unfollowed := true, recurses := true, plainKeys := false, apart := false }
def TraceOrdersSaid : Prop := traceOrdersRow.holds Tryz.pinned (OpenSpec.ofChange traceOrdersSpec)

/-- ITS FALSE NEIGHBOUR: 'it returns false'. Refute it at one input. -/
def traceOrdersWrong : ChangeSpec := { name := "traceOrders", fn := fun _ => fun
  | [d] => { results := [.lit (.bool false)], args := [d] }
  | _ => none }
def TraceOrdersWrongFalsely : Prop := traceOrdersRow.holds Tryz.pinned (OpenSpec.ofChange traceOrdersWrong)

/-- 'concordlaw28.TraceTurned': WHATEVER THE INPUT: true; the input reads as it did. -/
def traceTurnedSpec : ChangeSpec := { name := "traceTurned", fn := fun _ => fun
  | [d1, d2] => { results := [.lit (.bool true)], args := [d1, d2] }
  | _ => none }
def traceTurnedRow : OpenClaim := { program := "yteddiknlcdbhjaagreat", sum := "a350a4354951bd1814c7efad7cf1de2d55e79f9e633731686a065c1696fa3767", func := "concord/concordlaw28.TraceTurned", spec := "traceTurned", inPlace := ["internal/reflectlite.TypeOf"], unfollowed := true, recurses := true, plainKeys := false, apart := false }
def TraceTurnedSaid : Prop := traceTurnedRow.holds Tryz.pinned (OpenSpec.ofChange traceTurnedSpec)

/-- ITS FALSE NEIGHBOUR: 'it returns false'. Refute it at one input. -/
def traceTurnedWrong : ChangeSpec := { name := "traceTurned", fn := fun _ => fun
  | [d1, d2] => { results := [.lit (.bool false)], args := [d1, d2] }
  | _ => none }
def TraceTurnedWrongFalsely : Prop := traceTurnedRow.holds Tryz.pinned (OpenSpec.ofChange traceTurnedWrong)

/-- 'concordlaw28.TraceAlone': WHATEVER THE INPUT: true; the input reads as it did. -/
def traceAloneSpec : ChangeSpec := { name := "traceAlone", fn := fun _ => fun
  | [d1, d2] => { results := [.lit (.bool true)], args := [d1, d2] }
  | _ => none }
def traceAloneRow : OpenClaim := { program := "yteddiknlcdbhjaagreat", sum := "a350a4354951bd1814c7efad7cf1de2d55e79f9e633731686a065c1696fa3767", func := "concord/concordlaw28.TraceAlone", spec := "traceAlone", inPlace := ["internal/reflectlite.TypeOf"], unfollowed := true, recurses := true, plainKeys := false, apart := false }
def TraceAloneSaid : Prop := traceAloneRow.holds Tryz.pinned (OpenSpec.ofChange traceAloneSpec)

/-- ITS FALSE NEIGHBOUR: 'it returns false'. Refute it at one input. -/
def traceAloneWrong : ChangeSpec := { name := "traceAlone", fn := fun _ => fun
  | [d1, d2] => { results := [.lit (.bool false)], args := [d1, d2] }
  | _ => none }
def TraceAloneWrongFalsely : Prop := traceAloneRow.holds Tryz.pinned (OpenSpec.ofChange traceAloneWrong)

/- THE SECOND FORM. 'bulk': how many values and letters a reading holds, each counted each time it is reached (what is shared counts as often as it is met; a slice's spare places count too). A statement '..UptoSaid' is the law's where the arguments, and the package variables that the reading takes, are together of bulk at most 1048576: NARROWER than '..Said'. Prove '..Said' where nothing that the law and all that it calls make is longer than what came in: it says more and counts as full. Else prove '..UptoSaid'. A law counts once. -/
mutual
def uptoBulk {H : Type} : DataW H → Nat
  | .lit (.string bytes) => bytes.length + 1
  | .lit _ => 1
  | .nil => 1
  | .ptr d => uptoBulk d + 1
  | .slice elems spare => uptoBulkAll elems + uptoBulkAll spare + 1
  | .agg parts => uptoBulkAll parts + 1
  | .iface _ d => uptoBulk d + 1
  | .map entries => uptoBulkEntries entries + 1
  | .held _ => 1
def uptoBulkAll {H : Type} : List (DataW H) → Nat
  | [] => 0
  | d :: r => uptoBulk d + uptoBulkAll r
def uptoBulkEntries {H : Type} : List (Lit × DataW H) → Nat
  | [] => 0
  | x :: r => uptoBulkEntry x + uptoBulkEntries r
def uptoBulkEntry {H : Type} : Lit × DataW H → Nat
  | (.string bytes, d) => bytes.length + uptoBulk d + 1
  | (_, d) => uptoBulk d + 1
 end
def uptoSmall : (H : Type) → List (DataW H) → Bool := fun _ ds => decide (uptoBulkAll ds ≤ 1048576)
def OpenSpec.upto (s : _root_.Go.ChangeSpec) : _root_.Go.OpenSpec := { _root_.Go.OpenSpec.ofChange s with cond := some uptoSmall }

/-- 'concordlaw28.TraceSerial', WHERE WHAT IT READS IS OF BULK AT MOST 1048576: true; the input reads as it did. -/
def traceSerialUptoRow : OpenClaim := { program := "yteddiknlcdbhjaagreat", sum := "a350a4354951bd1814c7efad7cf1de2d55e79f9e633731686a065c1696fa3767", func := "concord/concordlaw28.TraceSerial", spec := "traceSerial", inPlace := ["internal/reflectlite.TypeOf"], unfollowed := true, recurses := true, plainKeys := false, apart := false, narrowed := true }
def TraceSerialUptoSaid : Prop := traceSerialUptoRow.holds Tryz.pinned (OpenSpec.upto traceSerialSpec)

/-- 'concordlaw28.TraceOrders', WHERE WHAT IT READS IS OF BULK AT MOST 1048576: true; the input reads as it did. -/
def traceOrdersUptoRow : OpenClaim := { program := "yteddiknlcdbhjaagreat", sum := "a350a4354951bd1814c7efad7cf1de2d55e79f9e633731686a065c1696fa3767", func := "concord/concordlaw28.TraceOrders", spec := "traceOrders", inPlace := ["internal/reflectlite.TypeOf"], unfollowed := true, recurses := true, plainKeys := false, apart := false, narrowed := true }
def TraceOrdersUptoSaid : Prop := traceOrdersUptoRow.holds Tryz.pinned (OpenSpec.upto traceOrdersSpec)

/-- 'concordlaw28.TraceTurned', WHERE WHAT IT READS IS OF BULK AT MOST 1048576: true; the input reads as it did. -/
def traceTurnedUptoRow : OpenClaim := { program := "yteddiknlcdbhjaagreat", sum := "a350a4354951bd1814c7efad7cf1de2d55e79f9e633731686a065c1696fa3767", func := "concord/concordlaw28.TraceTurned", spec := "traceTurned", inPlace := ["internal/reflectlite.TypeOf"], unfollowed := true, recurses := true, plainKeys := false, apart := false, narrowed := true }
def TraceTurnedUptoSaid : Prop := traceTurnedUptoRow.holds Tryz.pinned (OpenSpec.upto traceTurnedSpec)

/-- 'concordlaw28.TraceAlone', WHERE WHAT IT READS IS OF BULK AT MOST 1048576: true; the input reads as it did. -/
def traceAloneUptoRow : OpenClaim := { program := "yteddiknlcdbhjaagreat", sum := "a350a4354951bd1814c7efad7cf1de2d55e79f9e633731686a065c1696fa3767", func := "concord/concordlaw28.TraceAlone", spec := "traceAlone", inPlace := ["internal/reflectlite.TypeOf"], unfollowed := true, recurses := true, plainKeys := false, apart := false, narrowed := true }
def TraceAloneUptoSaid : Prop := traceAloneUptoRow.holds Tryz.pinned (OpenSpec.upto traceAloneSpec)

end Rows
end Go.Proofs.YteddiknlcdbhjaaGreat
