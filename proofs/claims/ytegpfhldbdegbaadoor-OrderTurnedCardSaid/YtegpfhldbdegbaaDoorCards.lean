/-
  DERIVED. GIVEN WITH THE SEED: THE CARDS: each row of YtegpfhldbdegbaaDoorRows.lean that lists a variable, with what it lists TIED to the program's text (the seventh form; the later family's looks); each row that meets fmt, with fmt's text TOLD by the authors' own Lean function (tested against real Go, not proved from fmt's source: count such statements apart). THE CARD IS WHAT COUNTS. Prove the row's statement (the work); the ties are given (YtegpfhldbdegbaaDoorTie.lean); close each card by the builder's one call (the guide's Derived/Test/ToyasCard.lean, 'card_holds'). Laid BY PROGRAM, IN A SANDBOX (cutbox-door.mjs). By AI agents, Wed Nov 11 2026. No macro, syntax, notation, axiom, sorry.
-/
import Derived.Test.YtegpfhldbdegbaaDoorRows
import GoSem.ClaimSeven
namespace Go.Proofs.YtegpfhldbdegbaaDoor
namespace Rows

/-- THE TIED CARD OF 'concordlaw12.OrderSorts'. -/
def orderSortsCard : Claim7 := { stood := { row := orderSortsRow, standIns := [], harness := (true, "65802a10c6925150797fa59ff8fa418eb087da08a9a3a7be5b6a50843fc3c39a"), looks := true }, kinds := [], alts := [], laidByText := true, laidKinds := [.handle], laidTests := true, laidLooks := .later }
def OrderSortsCardSaid : Prop := Claim7.holds Tryd.pinned (.plain (OpenSpec.ofChange orderSortsSpec)) orderSortsCard

/-- THE TIED CARD OF 'concordlaw12.OrderChecks'. -/
def orderChecksCard : Claim7 := { stood := { row := orderChecksRow, standIns := [], harness := (true, "65802a10c6925150797fa59ff8fa418eb087da08a9a3a7be5b6a50843fc3c39a"), looks := true }, kinds := [], alts := [], laidByText := true, laidKinds := [.handle], laidTests := true, laidLooks := .later }
def OrderChecksCardSaid : Prop := Claim7.holds Tryd.pinned (.plain (OpenSpec.ofChange orderChecksSpec)) orderChecksCard

/-- THE TIED CARD OF 'concordlaw12.OrderTime'. -/
def orderTimeCard : Claim7 := { stood := { row := orderTimeRow, standIns := [], harness := (true, "65802a10c6925150797fa59ff8fa418eb087da08a9a3a7be5b6a50843fc3c39a"), looks := true }, kinds := [], alts := [], laidByText := true, laidKinds := [.handle], laidTests := true, laidLooks := .later }
def OrderTimeCardSaid : Prop := Claim7.holds Tryd.pinned (.plain (OpenSpec.ofChange orderTimeSpec)) orderTimeCard

/-- THE TIED CARD OF 'concordlaw12.OrderTurned'. -/
def orderTurnedCard : Claim7 := { stood := { row := orderTurnedRow, standIns := [], harness := (true, "65802a10c6925150797fa59ff8fa418eb087da08a9a3a7be5b6a50843fc3c39a"), looks := true }, kinds := [], alts := [], laidByText := true, laidKinds := [.handle], laidTests := true, laidLooks := .later }
def OrderTurnedCardSaid : Prop := Claim7.holds Tryd.pinned (.plain (OpenSpec.ofChange orderTurnedSpec)) orderTurnedCard

/-- THE TIED CARD OF 'concordlaw12.OrderWithin'. -/
def orderWithinCard : Claim7 := { stood := { row := orderWithinRow, standIns := [], harness := (true, "65802a10c6925150797fa59ff8fa418eb087da08a9a3a7be5b6a50843fc3c39a"), looks := true }, kinds := [], alts := [], laidByText := true, laidKinds := [.handle], laidTests := true, laidLooks := .later }
def OrderWithinCardSaid : Prop := Claim7.holds Tryd.pinned (.plain (OpenSpec.ofChange orderWithinSpec)) orderWithinCard

/-- THE SECOND FORM's CARD OF 'concordlaw12.OrderSorts'. -/
def orderSortsUptoCard : Claim7 := { stood := { row := orderSortsUptoRow, standIns := [], harness := (true, "65802a10c6925150797fa59ff8fa418eb087da08a9a3a7be5b6a50843fc3c39a"), looks := true }, kinds := [], alts := [], laidByText := true, laidKinds := [.handle], laidTests := true, laidLooks := .later }
def OrderSortsUptoCardSaid : Prop := Claim7.holds Tryd.pinned (.plain (OpenSpec.upto orderSortsSpec)) orderSortsUptoCard

/-- THE SECOND FORM's CARD OF 'concordlaw12.OrderChecks'. -/
def orderChecksUptoCard : Claim7 := { stood := { row := orderChecksUptoRow, standIns := [], harness := (true, "65802a10c6925150797fa59ff8fa418eb087da08a9a3a7be5b6a50843fc3c39a"), looks := true }, kinds := [], alts := [], laidByText := true, laidKinds := [.handle], laidTests := true, laidLooks := .later }
def OrderChecksUptoCardSaid : Prop := Claim7.holds Tryd.pinned (.plain (OpenSpec.upto orderChecksSpec)) orderChecksUptoCard

/-- THE SECOND FORM's CARD OF 'concordlaw12.OrderTime'. -/
def orderTimeUptoCard : Claim7 := { stood := { row := orderTimeUptoRow, standIns := [], harness := (true, "65802a10c6925150797fa59ff8fa418eb087da08a9a3a7be5b6a50843fc3c39a"), looks := true }, kinds := [], alts := [], laidByText := true, laidKinds := [.handle], laidTests := true, laidLooks := .later }
def OrderTimeUptoCardSaid : Prop := Claim7.holds Tryd.pinned (.plain (OpenSpec.upto orderTimeSpec)) orderTimeUptoCard

/-- THE SECOND FORM's CARD OF 'concordlaw12.OrderTurned'. -/
def orderTurnedUptoCard : Claim7 := { stood := { row := orderTurnedUptoRow, standIns := [], harness := (true, "65802a10c6925150797fa59ff8fa418eb087da08a9a3a7be5b6a50843fc3c39a"), looks := true }, kinds := [], alts := [], laidByText := true, laidKinds := [.handle], laidTests := true, laidLooks := .later }
def OrderTurnedUptoCardSaid : Prop := Claim7.holds Tryd.pinned (.plain (OpenSpec.upto orderTurnedSpec)) orderTurnedUptoCard

/-- THE SECOND FORM's CARD OF 'concordlaw12.OrderWithin'. -/
def orderWithinUptoCard : Claim7 := { stood := { row := orderWithinUptoRow, standIns := [], harness := (true, "65802a10c6925150797fa59ff8fa418eb087da08a9a3a7be5b6a50843fc3c39a"), looks := true }, kinds := [], alts := [], laidByText := true, laidKinds := [.handle], laidTests := true, laidLooks := .later }
def OrderWithinUptoCardSaid : Prop := Claim7.holds Tryd.pinned (.plain (OpenSpec.upto orderWithinSpec)) orderWithinUptoCard
end Rows
end Go.Proofs.YtegpfhldbdegbaaDoor
