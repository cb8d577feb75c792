/-
  DERIVED. GIVEN WITH THE SEED: THE CARDS: each row of YtbpmkbcpnnpdjaaDoorRows.lean that lists a variable, with what it lists TIED to the program's text (the seventh form; the later family's looks); each row that meets fmt, with fmt's text TOLD by the authors' own Lean function (tested against real Go, not proved from fmt's source: count such statements apart). THE CARD IS WHAT COUNTS. Prove the row's statement (the work); the ties are given (YtbpmkbcpnnpdjaaDoorTie.lean); close each card by the builder's one call (the guide's Derived/Test/ToyasCard.lean, 'card_holds'). Laid BY PROGRAM, IN A SANDBOX (cutbox-door.mjs). By AI agents, Wed Nov 11 2026. No macro, syntax, notation, axiom, sorry.
-/
import Derived.Test.YtbpmkbcpnnpdjaaDoorRows
import GoSem.ClaimSeven
namespace Go.Proofs.YtbpmkbcpnnpdjaaDoor
namespace Rows

/-- THE TIED CARD OF 'concordlaw07.SetsBack'. -/
def setsBackCard : Claim7 := { stood := { row := setsBackRow, standIns := [], harness := (true, "a680340067459a0629800d946fe1be8c158848adf33f3aa17ab76eb50fbd6406"), looks := true }, kinds := [], alts := [], laidByText := true, laidKinds := [.handle], laidTests := true, laidLooks := .later }
def SetsBackCardSaid : Prop := Claim7.holds Tryd.pinned (.plain (OpenSpec.ofChange setsBackSpec)) setsBackCard

/-- THE TIED CARD OF 'concordlaw07.SetsKeep'. -/
def setsKeepCard : Claim7 := { stood := { row := setsKeepRow, standIns := [], harness := (true, "a680340067459a0629800d946fe1be8c158848adf33f3aa17ab76eb50fbd6406"), looks := true }, kinds := [], alts := [], laidByText := true, laidKinds := [.handle], laidTests := true, laidLooks := .later }
def SetsKeepCardSaid : Prop := Claim7.holds Tryd.pinned (.plain (OpenSpec.ofChange setsKeepSpec)) setsKeepCard

/-- THE TIED CARD OF 'concordlaw07.SetsPlay'. -/
def setsPlayCard : Claim7 := { stood := { row := setsPlayRow, standIns := [], harness := (true, "a680340067459a0629800d946fe1be8c158848adf33f3aa17ab76eb50fbd6406"), looks := true }, kinds := [], alts := [], laidByText := true, laidKinds := [.handle], laidTests := true, laidLooks := .later }
def SetsPlayCardSaid : Prop := Claim7.holds Tryd.pinned (.plain (OpenSpec.ofChange setsPlaySpec)) setsPlayCard

/-- THE SECOND FORM's CARD OF 'concordlaw07.SetsBack'. -/
def setsBackUptoCard : Claim7 := { stood := { row := setsBackUptoRow, standIns := [], harness := (true, "a680340067459a0629800d946fe1be8c158848adf33f3aa17ab76eb50fbd6406"), looks := true }, kinds := [], alts := [], laidByText := true, laidKinds := [.handle], laidTests := true, laidLooks := .later }
def SetsBackUptoCardSaid : Prop := Claim7.holds Tryd.pinned (.plain (OpenSpec.upto setsBackSpec)) setsBackUptoCard

/-- THE SECOND FORM's CARD OF 'concordlaw07.SetsKeep'. -/
def setsKeepUptoCard : Claim7 := { stood := { row := setsKeepUptoRow, standIns := [], harness := (true, "a680340067459a0629800d946fe1be8c158848adf33f3aa17ab76eb50fbd6406"), looks := true }, kinds := [], alts := [], laidByText := true, laidKinds := [.handle], laidTests := true, laidLooks := .later }
def SetsKeepUptoCardSaid : Prop := Claim7.holds Tryd.pinned (.plain (OpenSpec.upto setsKeepSpec)) setsKeepUptoCard

/-- THE SECOND FORM's CARD OF 'concordlaw07.SetsPlay'. -/
def setsPlayUptoCard : Claim7 := { stood := { row := setsPlayUptoRow, standIns := [], harness := (true, "a680340067459a0629800d946fe1be8c158848adf33f3aa17ab76eb50fbd6406"), looks := true }, kinds := [], alts := [], laidByText := true, laidKinds := [.handle], laidTests := true, laidLooks := .later }
def SetsPlayUptoCardSaid : Prop := Claim7.holds Tryd.pinned (.plain (OpenSpec.upto setsPlaySpec)) setsPlayUptoCard
end Rows
end Go.Proofs.YtbpmkbcpnnpdjaaDoor
