/-
  DERIVED. GIVEN WITH THE SEED: THE CARDS: each row of YtkldpdldjalpeaaDoorRows.lean that lists a variable, with what it lists TIED to the program's text (the seventh form; the later family's looks); each row that meets fmt, with fmt's text TOLD by the authors' own Lean function (tested against real Go, not proved from fmt's source: count such statements apart). THE CARD IS WHAT COUNTS. Prove the row's statement (the work); the ties are given (YtkldpdldjalpeaaDoorTie.lean); close each card by the builder's one call (the guide's Derived/Test/ToyasCard.lean, 'card_holds'). Laid BY PROGRAM, IN A SANDBOX (cutbox-door.mjs). By AI agents, Wed Nov 11 2026. No macro, syntax, notation, axiom, sorry.
-/
import Derived.Test.YtkldpdldjalpeaaDoorRows
import GoSem.ClaimSeven
namespace Go.Proofs.YtkldpdldjalpeaaDoor
namespace Rows

/-- THE TIED CARD OF 'concordlaw06.MetaWhole'. -/
def metaWholeCard : Claim7 := { stood := { row := metaWholeRow, standIns := [], harness := (true, "dc0ef9a62f3ef4be068b417cd615ac9b87a5b5d5cbc7057d6d25700f165000af"), looks := true }, kinds := [], alts := [], laidByText := true, laidKinds := [.handle], laidTests := true, laidLooks := .later }
def MetaWholeCardSaid : Prop := Claim7.holds Tryd.pinned (.plain (OpenSpec.ofChange metaWholeSpec)) metaWholeCard

/-- THE TIED CARD OF 'concordlaw06.MetaOne'. -/
def metaOneCard : Claim7 := { stood := { row := metaOneRow, standIns := [], harness := (true, "dc0ef9a62f3ef4be068b417cd615ac9b87a5b5d5cbc7057d6d25700f165000af"), looks := true }, kinds := [], alts := [], laidByText := true, laidKinds := [.handle], laidTests := true, laidLooks := .later }
def MetaOneCardSaid : Prop := Claim7.holds Tryd.pinned (.plain (OpenSpec.ofChange metaOneSpec)) metaOneCard

/-- THE TIED CARD OF 'concordlaw06.MetaTicks'. -/
def metaTicksCard : Claim7 := { stood := { row := metaTicksRow, standIns := [], harness := (true, "dc0ef9a62f3ef4be068b417cd615ac9b87a5b5d5cbc7057d6d25700f165000af"), looks := true }, kinds := [], alts := [], laidByText := true, laidKinds := [.handle], laidTests := true, laidLooks := .later }
def MetaTicksCardSaid : Prop := Claim7.holds Tryd.pinned (.plain (OpenSpec.ofChange metaTicksSpec)) metaTicksCard

/-- THE TIED CARD OF 'concordlaw06.MetaWaits'. -/
def metaWaitsCard : Claim7 := { stood := { row := metaWaitsRow, standIns := [], harness := (true, "dc0ef9a62f3ef4be068b417cd615ac9b87a5b5d5cbc7057d6d25700f165000af"), looks := true }, kinds := [], alts := [], laidByText := true, laidKinds := [.handle], laidTests := true, laidLooks := .later }
def MetaWaitsCardSaid : Prop := Claim7.holds Tryd.pinned (.plain (OpenSpec.ofChange metaWaitsSpec)) metaWaitsCard

/-- THE SECOND FORM's CARD OF 'concordlaw06.MetaWhole'. -/
def metaWholeUptoCard : Claim7 := { stood := { row := metaWholeUptoRow, standIns := [], harness := (true, "dc0ef9a62f3ef4be068b417cd615ac9b87a5b5d5cbc7057d6d25700f165000af"), looks := true }, kinds := [], alts := [], laidByText := true, laidKinds := [.handle], laidTests := true, laidLooks := .later }
def MetaWholeUptoCardSaid : Prop := Claim7.holds Tryd.pinned (.plain (OpenSpec.upto metaWholeSpec)) metaWholeUptoCard

/-- THE SECOND FORM's CARD OF 'concordlaw06.MetaOne'. -/
def metaOneUptoCard : Claim7 := { stood := { row := metaOneUptoRow, standIns := [], harness := (true, "dc0ef9a62f3ef4be068b417cd615ac9b87a5b5d5cbc7057d6d25700f165000af"), looks := true }, kinds := [], alts := [], laidByText := true, laidKinds := [.handle], laidTests := true, laidLooks := .later }
def MetaOneUptoCardSaid : Prop := Claim7.holds Tryd.pinned (.plain (OpenSpec.upto metaOneSpec)) metaOneUptoCard

/-- THE SECOND FORM's CARD OF 'concordlaw06.MetaTicks'. -/
def metaTicksUptoCard : Claim7 := { stood := { row := metaTicksUptoRow, standIns := [], harness := (true, "dc0ef9a62f3ef4be068b417cd615ac9b87a5b5d5cbc7057d6d25700f165000af"), looks := true }, kinds := [], alts := [], laidByText := true, laidKinds := [.handle], laidTests := true, laidLooks := .later }
def MetaTicksUptoCardSaid : Prop := Claim7.holds Tryd.pinned (.plain (OpenSpec.upto metaTicksSpec)) metaTicksUptoCard

/-- THE SECOND FORM's CARD OF 'concordlaw06.MetaWaits'. -/
def metaWaitsUptoCard : Claim7 := { stood := { row := metaWaitsUptoRow, standIns := [], harness := (true, "dc0ef9a62f3ef4be068b417cd615ac9b87a5b5d5cbc7057d6d25700f165000af"), looks := true }, kinds := [], alts := [], laidByText := true, laidKinds := [.handle], laidTests := true, laidLooks := .later }
def MetaWaitsUptoCardSaid : Prop := Claim7.holds Tryd.pinned (.plain (OpenSpec.upto metaWaitsSpec)) metaWaitsUptoCard
end Rows
end Go.Proofs.YtkldpdldjalpeaaDoor
