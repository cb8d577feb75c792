/-
  DERIVED. GIVEN WITH THE SEED: THE CARDS: each row of YtmjnmpifibemjaaGreatDoorRows.lean that lists a variable, with what it lists TIED to the program's text (the seventh form; the later family's looks); each row that meets fmt, with fmt's text TOLD by the authors' own Lean function (tested against real Go, not proved from fmt's source: count such statements apart). THE CARD IS WHAT COUNTS. Prove the row's statement (the work); the ties are given (YtmjnmpifibemjaaGreatDoorTie.lean); close each card by the builder's one call (the guide's Derived/Test/ToyasCard.lean, 'card_holds'). Laid BY PROGRAM, IN A SANDBOX (cutbox-door.mjs). By AI agents, Wed Nov 11 2026. No macro, syntax, notation, axiom, sorry.
-/
import Derived.Test.YtmjnmpifibemjaaGreatDoorRows
import GoSem.ClaimSeven
namespace Go.Proofs.YtmjnmpifibemjaaGreatDoor
namespace Rows

/-- THE TIED CARD OF 'concordlaw25.JudgeSpoilt'. -/
def judgeSpoiltCard : Claim7 := { stood := { row := judgeSpoiltRow, standIns := [], harness := (true, "d509c2a6d6b787ce6f8c5761abc4fbe7af35dcebb5b5215405356b74cab1a9ed"), looks := true }, kinds := [], alts := [], laidByText := true, laidKinds := [.handle], laidTests := true, laidLooks := .later }
def JudgeSpoiltCardSaid : Prop := Claim7.holds Tryz.pinned (.plain (OpenSpec.ofChange judgeSpoiltSpec)) judgeSpoiltCard

/-- THE TIED CARD OF 'concordlaw25.JudgeOrder'. -/
def judgeOrderCard : Claim7 := { stood := { row := judgeOrderRow, standIns := [], harness := (true, "d509c2a6d6b787ce6f8c5761abc4fbe7af35dcebb5b5215405356b74cab1a9ed"), looks := true }, kinds := [], alts := [], laidByText := true, laidKinds := [.handle], laidTests := true, laidLooks := .later }
def JudgeOrderCardSaid : Prop := Claim7.holds Tryz.pinned (.plain (OpenSpec.ofChange judgeOrderSpec)) judgeOrderCard

/-- THE TIED CARD OF 'concordlaw25.JudgeTells'. -/
def judgeTellsCard : Claim7 := { stood := { row := judgeTellsRow, standIns := [], harness := (true, "d509c2a6d6b787ce6f8c5761abc4fbe7af35dcebb5b5215405356b74cab1a9ed"), looks := true }, kinds := [], alts := [], laidByText := true, laidKinds := [.handle], laidTests := true, laidLooks := .later }
def JudgeTellsCardSaid : Prop := Claim7.holds Tryz.pinned (.plain (OpenSpec.ofChange judgeTellsSpec)) judgeTellsCard

/-- THE SECOND FORM's CARD OF 'concordlaw25.JudgeSpoilt'. -/
def judgeSpoiltUptoCard : Claim7 := { stood := { row := judgeSpoiltUptoRow, standIns := [], harness := (true, "d509c2a6d6b787ce6f8c5761abc4fbe7af35dcebb5b5215405356b74cab1a9ed"), looks := true }, kinds := [], alts := [], laidByText := true, laidKinds := [.handle], laidTests := true, laidLooks := .later }
def JudgeSpoiltUptoCardSaid : Prop := Claim7.holds Tryz.pinned (.plain (OpenSpec.upto judgeSpoiltSpec)) judgeSpoiltUptoCard

/-- THE SECOND FORM's CARD OF 'concordlaw25.JudgeOrder'. -/
def judgeOrderUptoCard : Claim7 := { stood := { row := judgeOrderUptoRow, standIns := [], harness := (true, "d509c2a6d6b787ce6f8c5761abc4fbe7af35dcebb5b5215405356b74cab1a9ed"), looks := true }, kinds := [], alts := [], laidByText := true, laidKinds := [.handle], laidTests := true, laidLooks := .later }
def JudgeOrderUptoCardSaid : Prop := Claim7.holds Tryz.pinned (.plain (OpenSpec.upto judgeOrderSpec)) judgeOrderUptoCard

/-- THE SECOND FORM's CARD OF 'concordlaw25.JudgeTells'. -/
def judgeTellsUptoCard : Claim7 := { stood := { row := judgeTellsUptoRow, standIns := [], harness := (true, "d509c2a6d6b787ce6f8c5761abc4fbe7af35dcebb5b5215405356b74cab1a9ed"), looks := true }, kinds := [], alts := [], laidByText := true, laidKinds := [.handle], laidTests := true, laidLooks := .later }
def JudgeTellsUptoCardSaid : Prop := Claim7.holds Tryz.pinned (.plain (OpenSpec.upto judgeTellsSpec)) judgeTellsUptoCard
end Rows
end Go.Proofs.YtmjnmpifibemjaaGreatDoor
