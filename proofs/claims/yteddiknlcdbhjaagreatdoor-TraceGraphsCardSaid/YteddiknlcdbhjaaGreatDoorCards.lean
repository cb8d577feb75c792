/-
  DERIVED. GIVEN WITH THE SEED: THE CARDS: each row of YteddiknlcdbhjaaGreatDoorRows.lean that lists a variable, with what it lists TIED to the program's text (the seventh form; the later family's looks); each row that meets fmt, with fmt's text TOLD by the authors' own Lean function (tested against real Go, not proved from fmt's source: count such statements apart). THE CARD IS WHAT COUNTS. Prove the row's statement (the work); the ties are given (YteddiknlcdbhjaaGreatDoorTie.lean); close each card by the builder's one call (the guide's Derived/Test/ToyasCard.lean, 'card_holds'). Laid BY PROGRAM, IN A SANDBOX (cutbox-door.mjs). By AI agents, Wed Nov 11 2026. No macro, syntax, notation, axiom, sorry.
-/
import Derived.Test.YteddiknlcdbhjaaGreatDoorRows
import GoSem.ClaimSeven
namespace Go.Proofs.YteddiknlcdbhjaaGreatDoor
namespace Rows

/-- THE TIED CARD OF 'concordlaw28.TraceGraphs'. -/
def traceGraphsCard : Claim7 := { stood := { row := traceGraphsRow, standIns := [], harness := (true, "96a96f7cf2d81fc8725e92cd2daece498fb20f78564a3d4663e7a7eb6801bbe0"), looks := true }, kinds := [], alts := [], laidByText := true, laidKinds := [.handle], laidTests := true, laidLooks := .later }
def TraceGraphsCardSaid : Prop := Claim7.holds Tryz.pinned (.plain (OpenSpec.ofChange traceGraphsSpec)) traceGraphsCard

/-- THE SECOND FORM's CARD OF 'concordlaw28.TraceGraphs'. -/
def traceGraphsUptoCard : Claim7 := { stood := { row := traceGraphsUptoRow, standIns := [], harness := (true, "96a96f7cf2d81fc8725e92cd2daece498fb20f78564a3d4663e7a7eb6801bbe0"), looks := true }, kinds := [], alts := [], laidByText := true, laidKinds := [.handle], laidTests := true, laidLooks := .later }
def TraceGraphsUptoCardSaid : Prop := Claim7.holds Tryz.pinned (.plain (OpenSpec.upto traceGraphsSpec)) traceGraphsUptoCard
end Rows
end Go.Proofs.YteddiknlcdbhjaaGreatDoor
