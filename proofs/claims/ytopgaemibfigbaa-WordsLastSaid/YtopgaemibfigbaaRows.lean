/-
  No cell of these rows narrows 'for every input' (looked for: loops, veiled, ifaces, maps, wideKeys, modest, calm, conditions, laid).
  DERIVED. THE GIVEN ROWS OF THIS SEAT. 3 by the template 'for every input the law returns true; each argument reads behind the call as it read before'; 0 by the template 'total and deterministic' (their statements: YtopgaemibfigbaaTotals.lean).
  GIVEN WITH THE SEED: the statements are not yours to turn. If you find one false, say at which input.
  Laid BY PROGRAM, IN A SANDBOX (cutbox-rows.mjs): the forced cells as the released guide's own fill.sh prints them over the translation 07eb53e6c8404e1f… (all of the seat's roots in one cut). By AI agents, Wed Nov 11 2026. No macro, syntax, notation, axiom, sorry.
-/
import Derived.Test.YtopgaemibfigbaaChecked
import GoSem.Claim
import GoSem.ClaimJoined
import GoSem.ClaimMapViews
import Derived.JoinedTies
import Derived.KernelRfl
namespace Go.Proofs.Ytopgaemibfigbaa
/- THE CELL 'sum', in the pinned program and in every row, IS THE sha256 OF THE DUMP (.gsa) THAT YtopgaemibfigbaaProg.lean LOADS. Nothing in Lean hashes anything: it is a label: what it is worth is what the hold of that sum in a sandbox is worth. -/
noncomputable def Try.pinned : Pinned := { name := "ytopgaemibfigbaa", sum := "07eb53e6c8404e1fb14cc9f3803fe9e76455e37179a75ce97d293452f91989c7", checked := Try.checked }
namespace Rows
def none {H : Type} : Left H := { results := [], args := [] }

/-- 'concordlaw01.WordsOnce': WHATEVER THE INPUT: true; the input reads as it did. -/
def wordsOnceSpec : ChangeSpec := { name := "wordsOnce", fn := fun _ => fun
  | [d1, d2, d3, d4, d5] => { results := [.lit (.bool true)], args := [d1, d2, d3, d4, d5] }
  | _ => none }
def wordsOnceRow : OpenClaim := { program := "ytopgaemibfigbaa", sum := "07eb53e6c8404e1fb14cc9f3803fe9e76455e37179a75ce97d293452f91989c7", func := "concord/concordlaw01.WordsOnce", spec := "wordsOnce", inPlace := ["internal/reflectlite.TypeOf"], unfollowed := true, recurses := true, apart := false }
def WordsOnceSaid : Prop := wordsOnceRow.holds Try.pinned (OpenSpec.ofChange wordsOnceSpec)

/-- ITS FALSE NEIGHBOUR: 'it returns false'. Refute it at one input. -/
def wordsOnceWrong : ChangeSpec := { name := "wordsOnce", fn := fun _ => fun
  | [d1, d2, d3, d4, d5] => { results := [.lit (.bool false)], args := [d1, d2, d3, d4, d5] }
  | _ => none }
def WordsOnceWrongFalsely : Prop := wordsOnceRow.holds Try.pinned (OpenSpec.ofChange wordsOnceWrong)

/-- 'concordlaw01.WordsLast': WHATEVER THE INPUT: true; the input reads as it did. -/
def wordsLastSpec : ChangeSpec := { name := "wordsLast", fn := fun _ => fun
  | [d1, d2, d3] => { results := [.lit (.bool true)], args := [d1, d2, d3] }
  | _ => none }
def wordsLastRow : OpenClaim := { program := "ytopgaemibfigbaa", sum := "07eb53e6c8404e1fb14cc9f3803fe9e76455e37179a75ce97d293452f91989c7", func := "concord/concordlaw01.WordsLast", spec := "wordsLast", inPlace := ["internal/reflectlite.TypeOf"], unfollowed := true, recurses := true, apart := false }
def WordsLastSaid : Prop := wordsLastRow.holds Try.pinned (OpenSpec.ofChange wordsLastSpec)

/-- ITS FALSE NEIGHBOUR: 'it returns false'. Refute it at one input. -/
def wordsLastWrong : ChangeSpec := { name := "wordsLast", fn := fun _ => fun
  | [d1, d2, d3] => { results := [.lit (.bool false)], args := [d1, d2, d3] }
  | _ => none }
def WordsLastWrongFalsely : Prop := wordsLastRow.holds Try.pinned (OpenSpec.ofChange wordsLastWrong)

/-- 'concordlaw01.WordsNil': WHATEVER THE INPUT: true; the input reads as it did. -/
def wordsNilSpec : ChangeSpec := { name := "wordsNil", fn := fun _ => fun
  | [d1, d2, d3] => { results := [.lit (.bool true)], args := [d1, d2, d3] }
  | _ => none }
def wordsNilRow : OpenClaim := { program := "ytopgaemibfigbaa", sum := "07eb53e6c8404e1fb14cc9f3803fe9e76455e37179a75ce97d293452f91989c7", func := "concord/concordlaw01.WordsNil", spec := "wordsNil", inPlace := ["internal/reflectlite.TypeOf"], unfollowed := true, recurses := true, apart := false }
def WordsNilSaid : Prop := wordsNilRow.holds Try.pinned (OpenSpec.ofChange wordsNilSpec)

/-- ITS FALSE NEIGHBOUR: 'it returns false'. Refute it at one input. -/
def wordsNilWrong : ChangeSpec := { name := "wordsNil", fn := fun _ => fun
  | [d1, d2, d3] => { results := [.lit (.bool false)], args := [d1, d2, d3] }
  | _ => none }
def WordsNilWrongFalsely : Prop := wordsNilRow.holds Try.pinned (OpenSpec.ofChange wordsNilWrong)

/- THE SECOND FORM. 'bulk': how many values and letters a reading holds, each counted each time it is reached (what is shared counts as often as it is met; a slice's spare places count too). A statement '..UptoSaid' is the law's where the arguments, and the package variables that the reading takes, are together of bulk at most 1048576: NARROWER than '..Said'. Prove '..Said' where nothing that the law and all that it calls make is longer than what came in: it says more and counts as full. Else prove '..UptoSaid'. A law counts once. -/
mutual
def uptoBulk {H : Type} : DataW H → Nat
  | .lit (.string bytes) => bytes.length + 1
  | .lit _ => 1
  | .nil => 1
  | .ptr d => uptoBulk d + 1
  | .slice elems spare => uptoBulkAll elems + uptoBulkAll spare + 1
  | .agg parts => uptoBulkAll parts + 1
  | .iface _ d => uptoBulk d + 1
  | .map entries => uptoBulkEntries entries + 1
  | .held _ => 1
def uptoBulkAll {H : Type} : List (DataW H) → Nat
  | [] => 0
  | d :: r => uptoBulk d + uptoBulkAll r
def uptoBulkEntries {H : Type} : List (Lit × DataW H) → Nat
  | [] => 0
  | x :: r => uptoBulkEntry x + uptoBulkEntries r
def uptoBulkEntry {H : Type} : Lit × DataW H → Nat
  | (.string bytes, d) => bytes.length + uptoBulk d + 1
  | (_, d) => uptoBulk d + 1
 end
def uptoSmall : (H : Type) → List (DataW H) → Bool := fun _ ds => decide (uptoBulkAll ds ≤ 1048576)
def OpenSpec.upto (s : _root_.Go.ChangeSpec) : _root_.Go.OpenSpec := { _root_.Go.OpenSpec.ofChange s with cond := some uptoSmall }

/-- 'concordlaw01.WordsOnce', WHERE WHAT IT READS IS OF BULK AT MOST 1048576: true; the input reads as it did. -/
def wordsOnceUptoRow : OpenClaim := { program := "ytopgaemibfigbaa", sum := "07eb53e6c8404e1fb14cc9f3803fe9e76455e37179a75ce97d293452f91989c7", func := "concord/concordlaw01.WordsOnce", spec := "wordsOnce", inPlace := ["internal/reflectlite.TypeOf"], unfollowed := true, recurses := true, apart := false, narrowed := true }
def WordsOnceUptoSaid : Prop := wordsOnceUptoRow.holds Try.pinned (OpenSpec.upto wordsOnceSpec)

/-- 'concordlaw01.WordsLast', WHERE WHAT IT READS IS OF BULK AT MOST 1048576: true; the input reads as it did. -/
def wordsLastUptoRow : OpenClaim := { program := "ytopgaemibfigbaa", sum := "07eb53e6c8404e1fb14cc9f3803fe9e76455e37179a75ce97d293452f91989c7", func := "concord/concordlaw01.WordsLast", spec := "wordsLast", inPlace := ["internal/reflectlite.TypeOf"], unfollowed := true, recurses := true, apart := false, narrowed := true }
def WordsLastUptoSaid : Prop := wordsLastUptoRow.holds Try.pinned (OpenSpec.upto wordsLastSpec)

/-- 'concordlaw01.WordsNil', WHERE WHAT IT READS IS OF BULK AT MOST 1048576: true; the input reads as it did. -/
def wordsNilUptoRow : OpenClaim := { program := "ytopgaemibfigbaa", sum := "07eb53e6c8404e1fb14cc9f3803fe9e76455e37179a75ce97d293452f91989c7", func := "concord/concordlaw01.WordsNil", spec := "wordsNil", inPlace := ["internal/reflectlite.TypeOf"], unfollowed := true, recurses := true, apart := false, narrowed := true }
def WordsNilUptoSaid : Prop := wordsNilUptoRow.holds Try.pinned (OpenSpec.upto wordsNilSpec)

end Rows
end Go.Proofs.Ytopgaemibfigbaa
