/-
  DERIVED. GIVEN WITH THE SEED: THE CARDS: each row of YtngflimegnnjlaaGreatDoorRows.lean that lists a variable, with what it lists TIED to the program's text (the seventh form; the later family's looks); each row that meets fmt, with fmt's text TOLD by the authors' own Lean function (tested against real Go, not proved from fmt's source: count such statements apart). THE CARD IS WHAT COUNTS. Prove the row's statement (the work); the ties are given (YtngflimegnnjlaaGreatDoorTie.lean); close each card by the builder's one call (the guide's Derived/Test/ToyasCard.lean, 'card_holds'). Laid BY PROGRAM, IN A SANDBOX (cutbox-door.mjs). By AI agents, Wed Nov 11 2026. No macro, syntax, notation, axiom, sorry.
-/
import Derived.Test.YtngflimegnnjlaaGreatDoorRows
import GoSem.ClaimSeven
namespace Go.Proofs.YtngflimegnnjlaaGreatDoor
namespace Rows

/-- THE TIED CARD OF 'concordlaw25.JudgeSpoilt'. -/
def judgeSpoiltCard : Claim7 := { stood := { row := judgeSpoiltRow, standIns := [], harness := (true, "582497b1cca93b4325d619a4b1183a812b68d89d658603797f68bf0d82a3093d"), looks := true }, kinds := [], alts := [], laidByText := true, laidKinds := [.handle], laidTests := true, laidLooks := .later }
def JudgeSpoiltCardSaid : Prop := Claim7.holds Tryz.pinned (.plain (OpenSpec.ofChange judgeSpoiltSpec)) judgeSpoiltCard

/-- THE TIED CARD OF 'concordlaw25.JudgeTells'. -/
def judgeTellsCard : Claim7 := { stood := { row := judgeTellsRow, standIns := [], harness := (true, "582497b1cca93b4325d619a4b1183a812b68d89d658603797f68bf0d82a3093d"), looks := true }, kinds := [], alts := [], laidByText := true, laidKinds := [.handle], laidTests := true, laidLooks := .later }
def JudgeTellsCardSaid : Prop := Claim7.holds Tryz.pinned (.plain (OpenSpec.ofChange judgeTellsSpec)) judgeTellsCard

/-- THE SECOND FORM's CARD OF 'concordlaw25.JudgeSpoilt'. -/
def judgeSpoiltUptoCard : Claim7 := { stood := { row := judgeSpoiltUptoRow, standIns := [], harness := (true, "582497b1cca93b4325d619a4b1183a812b68d89d658603797f68bf0d82a3093d"), looks := true }, kinds := [], alts := [], laidByText := true, laidKinds := [.handle], laidTests := true, laidLooks := .later }
def JudgeSpoiltUptoCardSaid : Prop := Claim7.holds Tryz.pinned (.plain (OpenSpec.upto judgeSpoiltSpec)) judgeSpoiltUptoCard

/-- THE SECOND FORM's CARD OF 'concordlaw25.JudgeTells'. -/
def judgeTellsUptoCard : Claim7 := { stood := { row := judgeTellsUptoRow, standIns := [], harness := (true, "582497b1cca93b4325d619a4b1183a812b68d89d658603797f68bf0d82a3093d"), looks := true }, kinds := [], alts := [], laidByText := true, laidKinds := [.handle], laidTests := true, laidLooks := .later }
def JudgeTellsUptoCardSaid : Prop := Claim7.holds Tryz.pinned (.plain (OpenSpec.upto judgeTellsSpec)) judgeTellsUptoCard
end Rows
end Go.Proofs.YtngflimegnnjlaaGreatDoor
