/-
  DERIVED. GIVEN WITH THE SEED: THE CARDS: each row of YtjlpogmoebmkdaaDoorRows.lean that lists a variable, with what it lists TIED to the program's text (the seventh form; the later family's looks); each row that meets fmt, with fmt's text TOLD by the authors' own Lean function (tested against real Go, not proved from fmt's source: count such statements apart). THE CARD IS WHAT COUNTS. Prove the row's statement (the work); the ties are given (YtjlpogmoebmkdaaDoorTie.lean); close each card by the builder's one call (the guide's Derived/Test/ToyasCard.lean, 'card_holds'). Laid BY PROGRAM, IN A SANDBOX (cutbox-door.mjs). By AI agents, Wed Nov 11 2026. No macro, syntax, notation, axiom, sorry.
-/
import Derived.Test.YtjlpogmoebmkdaaDoorRows
import GoSem.ClaimSeven
namespace Go.Proofs.YtjlpogmoebmkdaaDoor
namespace Rows

/-- THE TIED CARD OF 'concordlaw08.ModelSizes'. -/
def modelSizesCard : Claim7 := { stood := { row := modelSizesRow, standIns := [], harness := (true, "cb0bd4c9d5b4779c2d57a46fa7de1e10224162bdb58ccf4f03c160bb2cb88735"), looks := true }, kinds := [], alts := [], laidByText := true, laidKinds := [.handle], laidTests := true, laidLooks := .later }
def ModelSizesCardSaid : Prop := Claim7.holds Tryd.pinned (.plain (OpenSpec.ofChange modelSizesSpec)) modelSizesCard

/-- THE TIED CARD OF 'concordlaw08.ModelPlays'. -/
def modelPlaysCard : Claim7 := { stood := { row := modelPlaysRow, standIns := [], harness := (true, "cb0bd4c9d5b4779c2d57a46fa7de1e10224162bdb58ccf4f03c160bb2cb88735"), looks := true }, kinds := [], alts := [], laidByText := true, laidKinds := [.handle], laidTests := true, laidLooks := .later }
def ModelPlaysCardSaid : Prop := Claim7.holds Tryd.pinned (.plain (OpenSpec.ofChange modelPlaysSpec)) modelPlaysCard

/-- THE TIED CARD OF 'concordlaw08.ModelKeys'. -/
def modelKeysCard : Claim7 := { stood := { row := modelKeysRow, standIns := [], harness := (true, "cb0bd4c9d5b4779c2d57a46fa7de1e10224162bdb58ccf4f03c160bb2cb88735"), looks := true }, kinds := [], alts := [], laidByText := true, laidKinds := [.handle], laidTests := true, laidLooks := .later }
def ModelKeysCardSaid : Prop := Claim7.holds Tryd.pinned (.plain (OpenSpec.ofChange modelKeysSpec)) modelKeysCard

/-- THE TIED CARD OF 'concordlaw08.ModelCopy'. -/
def modelCopyCard : Claim7 := { stood := { row := modelCopyRow, standIns := [], harness := (true, "cb0bd4c9d5b4779c2d57a46fa7de1e10224162bdb58ccf4f03c160bb2cb88735"), looks := true }, kinds := [], alts := [], laidByText := true, laidKinds := [.handle], laidTests := true, laidLooks := .later }
def ModelCopyCardSaid : Prop := Claim7.holds Tryd.pinned (.plain (OpenSpec.ofChange modelCopySpec)) modelCopyCard

/-- THE SECOND FORM's CARD OF 'concordlaw08.ModelSizes'. -/
def modelSizesUptoCard : Claim7 := { stood := { row := modelSizesUptoRow, standIns := [], harness := (true, "cb0bd4c9d5b4779c2d57a46fa7de1e10224162bdb58ccf4f03c160bb2cb88735"), looks := true }, kinds := [], alts := [], laidByText := true, laidKinds := [.handle], laidTests := true, laidLooks := .later }
def ModelSizesUptoCardSaid : Prop := Claim7.holds Tryd.pinned (.plain (OpenSpec.upto modelSizesSpec)) modelSizesUptoCard

/-- THE SECOND FORM's CARD OF 'concordlaw08.ModelPlays'. -/
def modelPlaysUptoCard : Claim7 := { stood := { row := modelPlaysUptoRow, standIns := [], harness := (true, "cb0bd4c9d5b4779c2d57a46fa7de1e10224162bdb58ccf4f03c160bb2cb88735"), looks := true }, kinds := [], alts := [], laidByText := true, laidKinds := [.handle], laidTests := true, laidLooks := .later }
def ModelPlaysUptoCardSaid : Prop := Claim7.holds Tryd.pinned (.plain (OpenSpec.upto modelPlaysSpec)) modelPlaysUptoCard

/-- THE SECOND FORM's CARD OF 'concordlaw08.ModelKeys'. -/
def modelKeysUptoCard : Claim7 := { stood := { row := modelKeysUptoRow, standIns := [], harness := (true, "cb0bd4c9d5b4779c2d57a46fa7de1e10224162bdb58ccf4f03c160bb2cb88735"), looks := true }, kinds := [], alts := [], laidByText := true, laidKinds := [.handle], laidTests := true, laidLooks := .later }
def ModelKeysUptoCardSaid : Prop := Claim7.holds Tryd.pinned (.plain (OpenSpec.upto modelKeysSpec)) modelKeysUptoCard

/-- THE SECOND FORM's CARD OF 'concordlaw08.ModelCopy'. -/
def modelCopyUptoCard : Claim7 := { stood := { row := modelCopyUptoRow, standIns := [], harness := (true, "cb0bd4c9d5b4779c2d57a46fa7de1e10224162bdb58ccf4f03c160bb2cb88735"), looks := true }, kinds := [], alts := [], laidByText := true, laidKinds := [.handle], laidTests := true, laidLooks := .later }
def ModelCopyUptoCardSaid : Prop := Claim7.holds Tryd.pinned (.plain (OpenSpec.upto modelCopySpec)) modelCopyUptoCard
end Rows
end Go.Proofs.YtjlpogmoebmkdaaDoor
