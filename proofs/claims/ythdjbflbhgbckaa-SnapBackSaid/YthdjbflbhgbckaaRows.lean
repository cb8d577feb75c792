/-
  No cell of these rows narrows 'for every input' (looked for: loops, veiled, ifaces, maps, wideKeys, modest, calm, conditions, laid).
  DERIVED. THE GIVEN ROWS OF THIS SEAT. 6 by the template 'for every input the law returns true; each argument reads behind the call as it read before'; 0 by the template 'total and deterministic' (their statements: YthdjbflbhgbckaaTotals.lean).
  GIVEN WITH THE SEED: the statements are not yours to turn. If you find one false, say at which input.
  Laid BY PROGRAM, IN A SANDBOX (cutbox-rows.mjs): the forced cells as the released guide's own fill.sh prints them over the translation 37826c9e83924356… (all of the seat's roots in one cut). By AI agents, Wed Nov 11 2026. No macro, syntax, notation, axiom, sorry.
-/
import Derived.Test.YthdjbflbhgbckaaChecked
import GoSem.Claim
import GoSem.ClaimJoined
import GoSem.ClaimMapViews
import Derived.JoinedTies
import Derived.KernelRfl
namespace Go.Proofs.Ythdjbflbhgbckaa
/- THE CELL 'sum', in the pinned program and in every row, IS THE sha256 OF THE DUMP (.gsa) THAT YthdjbflbhgbckaaProg.lean LOADS. Nothing in Lean hashes anything: it is a label: what it is worth is what the hold of that sum in a sandbox is worth. -/
noncomputable def Try.pinned : Pinned := { name := "ythdjbflbhgbckaa", sum := "37826c9e83924356284b6a70f614eb963b0f77571db85e3e012fe58f0c2d396e", checked := Try.checked }
namespace Rows
def none {H : Type} : Left H := { results := [], args := [] }

/-- 'concordlaw27.SnapMerges': WHATEVER THE INPUT: true; the input reads as it did. -/
def snapMergesSpec : ChangeSpec := { name := "snapMerges", fn := fun _ => fun
  | [d] => { results := [.lit (.bool true)], args := [d] }
  | _ => none }
def snapMergesRow : OpenClaim := { program := "ythdjbflbhgbckaa", sum := "37826c9e83924356284b6a70f614eb963b0f77571db85e3e012fe58f0c2d396e", func := "concord/concordlaw27.SnapMerges", spec := "snapMerges", inPlace := ["internal/reflectlite.TypeOf"], unfollowed := true, recurses := true, apart := false }
def SnapMergesSaid : Prop := snapMergesRow.holds Try.pinned (OpenSpec.ofChange snapMergesSpec)

/-- ITS FALSE NEIGHBOUR: 'it returns false'. Refute it at one input. -/
def snapMergesWrong : ChangeSpec := { name := "snapMerges", fn := fun _ => fun
  | [d] => { results := [.lit (.bool false)], args := [d] }
  | _ => none }
def SnapMergesWrongFalsely : Prop := snapMergesRow.holds Try.pinned (OpenSpec.ofChange snapMergesWrong)

/-- 'concordlaw27.SnapOver': WHATEVER THE INPUT: true; the input reads as it did. -/
def snapOverSpec : ChangeSpec := { name := "snapOver", fn := fun _ => fun
  | [d] => { results := [.lit (.bool true)], args := [d] }
  | _ => none }
def snapOverRow : OpenClaim := { program := "ythdjbflbhgbckaa", sum := "37826c9e83924356284b6a70f614eb963b0f77571db85e3e012fe58f0c2d396e", func := "concord/concordlaw27.SnapOver", spec := "snapOver", inPlace := ["internal/reflectlite.TypeOf"], unfollowed := true, recurses := true, apart := false }
def SnapOverSaid : Prop := snapOverRow.holds Try.pinned (OpenSpec.ofChange snapOverSpec)

/-- ITS FALSE NEIGHBOUR: 'it returns false'. Refute it at one input. -/
def snapOverWrong : ChangeSpec := { name := "snapOver", fn := fun _ => fun
  | [d] => { results := [.lit (.bool false)], args := [d] }
  | _ => none }
def SnapOverWrongFalsely : Prop := snapOverRow.holds Try.pinned (OpenSpec.ofChange snapOverWrong)

/-- 'concordlaw27.SnapIters': WHATEVER THE INPUT: true; the input reads as it did. -/
def snapItersSpec : ChangeSpec := { name := "snapIters", fn := fun _ => fun
  | [d1, d2] => { results := [.lit (.bool true)], args := [d1, d2] }
  | _ => none }
def snapItersRow : OpenClaim := { program := "ythdjbflbhgbckaa", sum := "37826c9e83924356284b6a70f614eb963b0f77571db85e3e012fe58f0c2d396e", func := "concord/concordlaw27.SnapIters", spec := "snapIters", inPlace := ["internal/reflectlite.TypeOf"], unfollowed := true, recurses := true, apart := false }
def SnapItersSaid : Prop := snapItersRow.holds Try.pinned (OpenSpec.ofChange snapItersSpec)

/-- ITS FALSE NEIGHBOUR: 'it returns false'. Refute it at one input. -/
def snapItersWrong : ChangeSpec := { name := "snapIters", fn := fun _ => fun
  | [d1, d2] => { results := [.lit (.bool false)], args := [d1, d2] }
  | _ => none }
def SnapItersWrongFalsely : Prop := snapItersRow.holds Try.pinned (OpenSpec.ofChange snapItersWrong)

/-- 'concordlaw27.SnapParts': WHATEVER THE INPUT: true; the input reads as it did. -/
def snapPartsSpec : ChangeSpec := { name := "snapParts", fn := fun _ => fun
  | [d1, d2, d3, d4] => { results := [.lit (.bool true)], args := [d1, d2, d3, d4] }
  | _ => none }
def snapPartsRow : OpenClaim := { program := "ythdjbflbhgbckaa", sum := "37826c9e83924356284b6a70f614eb963b0f77571db85e3e012fe58f0c2d396e", func := "concord/concordlaw27.SnapParts", spec := "snapParts", inPlace := ["internal/reflectlite.TypeOf"], unfollowed := true, recurses := true, apart := false }
def SnapPartsSaid : Prop := snapPartsRow.holds Try.pinned (OpenSpec.ofChange snapPartsSpec)

/-- ITS FALSE NEIGHBOUR: 'it returns false'. Refute it at one input. -/
def snapPartsWrong : ChangeSpec := { name := "snapParts", fn := fun _ => fun
  | [d1, d2, d3, d4] => { results := [.lit (.bool false)], args := [d1, d2, d3, d4] }
  | _ => none }
def SnapPartsWrongFalsely : Prop := snapPartsRow.holds Try.pinned (OpenSpec.ofChange snapPartsWrong)

/-- 'concordlaw27.SnapBack': WHATEVER THE INPUT: true; the input reads as it did. -/
def snapBackSpec : ChangeSpec := { name := "snapBack", fn := fun _ => fun
  | [d1, d2] => { results := [.lit (.bool true)], args := [d1, d2] }
  | _ => none }
def snapBackRow : OpenClaim := { program := "ythdjbflbhgbckaa", sum := "37826c9e83924356284b6a70f614eb963b0f77571db85e3e012fe58f0c2d396e", func := "concord/concordlaw27.SnapBack", spec := "snapBack", inPlace := ["internal/reflectlite.TypeOf", "slices.overlaps[concord/api.Pair]"], unfollowed := true, recurses := true, apart := false }
def SnapBackSaid : Prop := snapBackRow.holds Try.pinned (OpenSpec.ofChange snapBackSpec)

/-- ITS FALSE NEIGHBOUR: 'it returns false'. Refute it at one input. -/
def snapBackWrong : ChangeSpec := { name := "snapBack", fn := fun _ => fun
  | [d1, d2] => { results := [.lit (.bool false)], args := [d1, d2] }
  | _ => none }
def SnapBackWrongFalsely : Prop := snapBackRow.holds Try.pinned (OpenSpec.ofChange snapBackWrong)

/-- 'concordlaw27.SnapNil': WHATEVER THE INPUT: true; the input reads as it did. -/
def snapNilSpec : ChangeSpec := { name := "snapNil", fn := fun _ => fun
  | [d1, d2] => { results := [.lit (.bool true)], args := [d1, d2] }
  | _ => none }
def snapNilRow : OpenClaim := { program := "ythdjbflbhgbckaa", sum := "37826c9e83924356284b6a70f614eb963b0f77571db85e3e012fe58f0c2d396e", func := "concord/concordlaw27.SnapNil", spec := "snapNil", inPlace := ["slices.overlaps[concord/api.Pair]", "internal/reflectlite.TypeOf"], unfollowed := true, recurses := true, apart := false }
def SnapNilSaid : Prop := snapNilRow.holds Try.pinned (OpenSpec.ofChange snapNilSpec)

/-- ITS FALSE NEIGHBOUR: 'it returns false'. Refute it at one input. -/
def snapNilWrong : ChangeSpec := { name := "snapNil", fn := fun _ => fun
  | [d1, d2] => { results := [.lit (.bool false)], args := [d1, d2] }
  | _ => none }
def SnapNilWrongFalsely : Prop := snapNilRow.holds Try.pinned (OpenSpec.ofChange snapNilWrong)

/- THE SECOND FORM. 'bulk': how many values and letters a reading holds, each counted each time it is reached (what is shared counts as often as it is met; a slice's spare places count too). A statement '..UptoSaid' is the law's where the arguments, and the package variables that the reading takes, are together of bulk at most 1048576: NARROWER than '..Said'. Prove '..Said' where nothing that the law and all that it calls make is longer than what came in: it says more and counts as full. Else prove '..UptoSaid'. A law counts once. -/
mutual
def uptoBulk {H : Type} : DataW H → Nat
  | .lit (.string bytes) => bytes.length + 1
  | .lit _ => 1
  | .nil => 1
  | .ptr d => uptoBulk d + 1
  | .slice elems spare => uptoBulkAll elems + uptoBulkAll spare + 1
  | .agg parts => uptoBulkAll parts + 1
  | .iface _ d => uptoBulk d + 1
  | .map entries => uptoBulkEntries entries + 1
  | .held _ => 1
def uptoBulkAll {H : Type} : List (DataW H) → Nat
  | [] => 0
  | d :: r => uptoBulk d + uptoBulkAll r
def uptoBulkEntries {H : Type} : List (Lit × DataW H) → Nat
  | [] => 0
  | x :: r => uptoBulkEntry x + uptoBulkEntries r
def uptoBulkEntry {H : Type} : Lit × DataW H → Nat
  | (.string bytes, d) => bytes.length + uptoBulk d + 1
  | (_, d) => uptoBulk d + 1
 end
def uptoSmall : (H : Type) → List (DataW H) → Bool := fun _ ds => decide (uptoBulkAll ds ≤ 1048576)
def OpenSpec.upto (s : _root_.Go.ChangeSpec) : _root_.Go.OpenSpec := { _root_.Go.OpenSpec.ofChange s with cond := some uptoSmall }

/-- 'concordlaw27.SnapMerges', WHERE WHAT IT READS IS OF BULK AT MOST 1048576: true; the input reads as it did. -/
def snapMergesUptoRow : OpenClaim := { program := "ythdjbflbhgbckaa", sum := "37826c9e83924356284b6a70f614eb963b0f77571db85e3e012fe58f0c2d396e", func := "concord/concordlaw27.SnapMerges", spec := "snapMerges", inPlace := ["internal/reflectlite.TypeOf"], unfollowed := true, recurses := true, apart := false, narrowed := true }
def SnapMergesUptoSaid : Prop := snapMergesUptoRow.holds Try.pinned (OpenSpec.upto snapMergesSpec)

/-- 'concordlaw27.SnapOver', WHERE WHAT IT READS IS OF BULK AT MOST 1048576: true; the input reads as it did. -/
def snapOverUptoRow : OpenClaim := { program := "ythdjbflbhgbckaa", sum := "37826c9e83924356284b6a70f614eb963b0f77571db85e3e012fe58f0c2d396e", func := "concord/concordlaw27.SnapOver", spec := "snapOver", inPlace := ["internal/reflectlite.TypeOf"], unfollowed := true, recurses := true, apart := false, narrowed := true }
def SnapOverUptoSaid : Prop := snapOverUptoRow.holds Try.pinned (OpenSpec.upto snapOverSpec)

/-- 'concordlaw27.SnapIters', WHERE WHAT IT READS IS OF BULK AT MOST 1048576: true; the input reads as it did. -/
def snapItersUptoRow : OpenClaim := { program := "ythdjbflbhgbckaa", sum := "37826c9e83924356284b6a70f614eb963b0f77571db85e3e012fe58f0c2d396e", func := "concord/concordlaw27.SnapIters", spec := "snapIters", inPlace := ["internal/reflectlite.TypeOf"], unfollowed := true, recurses := true, apart := false, narrowed := true }
def SnapItersUptoSaid : Prop := snapItersUptoRow.holds Try.pinned (OpenSpec.upto snapItersSpec)

/-- 'concordlaw27.SnapParts', WHERE WHAT IT READS IS OF BULK AT MOST 1048576: true; the input reads as it did. -/
def snapPartsUptoRow : OpenClaim := { program := "ythdjbflbhgbckaa", sum := "37826c9e83924356284b6a70f614eb963b0f77571db85e3e012fe58f0c2d396e", func := "concord/concordlaw27.SnapParts", spec := "snapParts", inPlace := ["internal/reflectlite.TypeOf"], unfollowed := true, recurses := true, apart := false, narrowed := true }
def SnapPartsUptoSaid : Prop := snapPartsUptoRow.holds Try.pinned (OpenSpec.upto snapPartsSpec)

/-- 'concordlaw27.SnapBack', WHERE WHAT IT READS IS OF BULK AT MOST 1048576: true; the input reads as it did. -/
def snapBackUptoRow : OpenClaim := { program := "ythdjbflbhgbckaa", sum := "37826c9e83924356284b6a70f614eb963b0f77571db85e3e012fe58f0c2d396e", func := "concord/concordlaw27.SnapBack", spec := "snapBack", inPlace := ["internal/reflectlite.TypeOf", "slices.overlaps[concord/api.Pair]"], unfollowed := true, recurses := true, apart := false, narrowed := true }
def SnapBackUptoSaid : Prop := snapBackUptoRow.holds Try.pinned (OpenSpec.upto snapBackSpec)

/-- 'concordlaw27.SnapNil', WHERE WHAT IT READS IS OF BULK AT MOST 1048576: true; the input reads as it did. -/
def snapNilUptoRow : OpenClaim := { program := "ythdjbflbhgbckaa", sum := "37826c9e83924356284b6a70f614eb963b0f77571db85e3e012fe58f0c2d396e", func := "concord/concordlaw27.SnapNil", spec := "snapNil", inPlace := ["slices.overlaps[concord/api.Pair]", "internal/reflectlite.TypeOf"], unfollowed := true, recurses := true, apart := false, narrowed := true }
def SnapNilUptoSaid : Prop := snapNilUptoRow.holds Try.pinned (OpenSpec.upto snapNilSpec)

end Rows
end Go.Proofs.Ythdjbflbhgbckaa
