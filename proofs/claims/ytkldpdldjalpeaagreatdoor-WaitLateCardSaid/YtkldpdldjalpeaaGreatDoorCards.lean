/-
  DERIVED. GIVEN WITH THE SEED: THE CARDS: each row of YtkldpdldjalpeaaGreatDoorRows.lean that lists a variable, with what it lists TIED to the program's text (the seventh form; the later family's looks); each row that meets fmt, with fmt's text TOLD by the authors' own Lean function (tested against real Go, not proved from fmt's source: count such statements apart). THE CARD IS WHAT COUNTS. Prove the row's statement (the work); the ties are given (YtkldpdldjalpeaaGreatDoorTie.lean); close each card by the builder's one call (the guide's Derived/Test/ToyasCard.lean, 'card_holds'). Laid BY PROGRAM, IN A SANDBOX (cutbox-door.mjs). By AI agents, Wed Nov 11 2026. No macro, syntax, notation, axiom, sorry.
-/
import Derived.Test.YtkldpdldjalpeaaGreatDoorRows
import GoSem.ClaimSeven
namespace Go.Proofs.YtkldpdldjalpeaaGreatDoor
namespace Rows

/-- THE TIED CARD OF 'concordlaw15.WaitLost'. -/
def waitLostCard : Claim7 := { stood := { row := waitLostRow, standIns := [], harness := (true, "bd1f689a0d9ff4c4a486807c030fa5c1cbd7435a6035373442a9309ea0f0921b"), looks := true }, kinds := [], alts := [], laidByText := true, laidKinds := [.handle], laidTests := true, laidLooks := .later }
def WaitLostCardSaid : Prop := Claim7.holds Tryz.pinned (.plain (OpenSpec.ofChange waitLostSpec)) waitLostCard

/-- THE TIED CARD OF 'concordlaw15.WaitRooms'. -/
def waitRoomsCard : Claim7 := { stood := { row := waitRoomsRow, standIns := [], harness := (true, "bd1f689a0d9ff4c4a486807c030fa5c1cbd7435a6035373442a9309ea0f0921b"), looks := true }, kinds := [], alts := [], laidByText := true, laidKinds := [.handle], laidTests := true, laidLooks := .later }
def WaitRoomsCardSaid : Prop := Claim7.holds Tryz.pinned (.plain (OpenSpec.ofChange waitRoomsSpec)) waitRoomsCard

/-- THE TIED CARD OF 'concordlaw15.WaitLate'. -/
def waitLateCard : Claim7 := { stood := { row := waitLateRow, standIns := [], harness := (true, "bd1f689a0d9ff4c4a486807c030fa5c1cbd7435a6035373442a9309ea0f0921b"), looks := true }, kinds := [], alts := [], laidByText := true, laidKinds := [.handle], laidTests := true, laidLooks := .later }
def WaitLateCardSaid : Prop := Claim7.holds Tryz.pinned (.plain (OpenSpec.ofChange waitLateSpec)) waitLateCard

/-- THE SECOND FORM's CARD OF 'concordlaw15.WaitLost'. -/
def waitLostUptoCard : Claim7 := { stood := { row := waitLostUptoRow, standIns := [], harness := (true, "bd1f689a0d9ff4c4a486807c030fa5c1cbd7435a6035373442a9309ea0f0921b"), looks := true }, kinds := [], alts := [], laidByText := true, laidKinds := [.handle], laidTests := true, laidLooks := .later }
def WaitLostUptoCardSaid : Prop := Claim7.holds Tryz.pinned (.plain (OpenSpec.upto waitLostSpec)) waitLostUptoCard

/-- THE SECOND FORM's CARD OF 'concordlaw15.WaitRooms'. -/
def waitRoomsUptoCard : Claim7 := { stood := { row := waitRoomsUptoRow, standIns := [], harness := (true, "bd1f689a0d9ff4c4a486807c030fa5c1cbd7435a6035373442a9309ea0f0921b"), looks := true }, kinds := [], alts := [], laidByText := true, laidKinds := [.handle], laidTests := true, laidLooks := .later }
def WaitRoomsUptoCardSaid : Prop := Claim7.holds Tryz.pinned (.plain (OpenSpec.upto waitRoomsSpec)) waitRoomsUptoCard

/-- THE SECOND FORM's CARD OF 'concordlaw15.WaitLate'. -/
def waitLateUptoCard : Claim7 := { stood := { row := waitLateUptoRow, standIns := [], harness := (true, "bd1f689a0d9ff4c4a486807c030fa5c1cbd7435a6035373442a9309ea0f0921b"), looks := true }, kinds := [], alts := [], laidByText := true, laidKinds := [.handle], laidTests := true, laidLooks := .later }
def WaitLateUptoCardSaid : Prop := Claim7.holds Tryz.pinned (.plain (OpenSpec.upto waitLateSpec)) waitLateUptoCard
end Rows
end Go.Proofs.YtkldpdldjalpeaaGreatDoor
