/-
  DERIVED. GIVEN WITH THE SEED: THE CARDS: each row of YtfbeaklplefojaaDoorRows.lean that lists a variable, with what it lists TIED to the program's text (the seventh form; the later family's looks); each row that meets fmt, with fmt's text TOLD by the authors' own Lean function (tested against real Go, not proved from fmt's source: count such statements apart). THE CARD IS WHAT COUNTS. Prove the row's statement (the work); the ties are given (YtfbeaklplefojaaDoorTie.lean); close each card by the builder's one call (the guide's Derived/Test/ToyasCard.lean, 'card_holds'). Laid BY PROGRAM, IN A SANDBOX (cutbox-door.mjs). By AI agents, Wed Nov 11 2026. No macro, syntax, notation, axiom, sorry.
-/
import Derived.Test.YtfbeaklplefojaaDoorRows
import GoSem.ClaimSeven
namespace Go.Proofs.YtfbeaklplefojaaDoor
namespace Rows

/-- THE TIED CARD OF 'concordlaw11.EvalNil'. -/
def evalNilCard : Claim7 := { stood := { row := evalNilRow, standIns := [], harness := (true, "77787383c368942f7ccde319ef060844b6350083644949dd9fe49549d682f93d"), looks := true }, kinds := [], alts := [], laidByText := true, laidKinds := [.handle], laidTests := true, laidLooks := .later }
def EvalNilCardSaid : Prop := Claim7.holds Tryd.pinned (.plain (OpenSpec.ofChange evalNilSpec)) evalNilCard

/-- THE SECOND FORM's CARD OF 'concordlaw11.EvalNil'. -/
def evalNilUptoCard : Claim7 := { stood := { row := evalNilUptoRow, standIns := [], harness := (true, "77787383c368942f7ccde319ef060844b6350083644949dd9fe49549d682f93d"), looks := true }, kinds := [], alts := [], laidByText := true, laidKinds := [.handle], laidTests := true, laidLooks := .later }
def EvalNilUptoCardSaid : Prop := Claim7.holds Tryd.pinned (.plain (OpenSpec.upto evalNilSpec)) evalNilUptoCard
end Rows
end Go.Proofs.YtfbeaklplefojaaDoor
