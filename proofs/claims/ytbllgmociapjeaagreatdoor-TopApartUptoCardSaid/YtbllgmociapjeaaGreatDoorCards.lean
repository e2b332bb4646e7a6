/-
  DERIVED. GIVEN WITH THE SEED: THE CARDS: each row of YtbllgmociapjeaaGreatDoorRows.lean that lists a variable, with what it lists TIED to the program's text (the seventh form; the later family's looks); each row that meets fmt, with fmt's text TOLD by the authors' own Lean function (tested against real Go, not proved from fmt's source: count such statements apart). THE CARD IS WHAT COUNTS. Prove the row's statement (the work); the ties are given (YtbllgmociapjeaaGreatDoorTie.lean); close each card by the builder's one call (the guide's Derived/Test/ToyasCard.lean, 'card_holds'). Laid BY PROGRAM, IN A SANDBOX (cutbox-door.mjs). By AI agents, Wed Nov 11 2026. No macro, syntax, notation, axiom, sorry.
-/
import Derived.Test.YtbllgmociapjeaaGreatDoorRows
import GoSem.ClaimSeven
namespace Go.Proofs.YtbllgmociapjeaaGreatDoor
namespace Rows

/-- THE TIED CARD OF 'brackentop.TopApart'. -/
def topApartCard : Claim7 := { stood := { row := topApartRow, standIns := [], harness := (true, "be5ca40040b966225b3ac0866e9fe0b00bdc4c2fd55baf894b79066b3c89b433"), looks := true }, kinds := [], alts := [], laidByText := true, laidKinds := [.data, .pinned], laidTests := true, laidLooks := .later }
def TopApartCardSaid : Prop := Claim7.holds Tryz.pinned (.plain (OpenSpec.ofChange topApartSpec)) topApartCard

/-- THE TIED CARD OF 'brackenlaw.HubSends'. -/
def hubSendsCard : Claim7 := { stood := { row := hubSendsRow, standIns := [], harness := (true, "be5ca40040b966225b3ac0866e9fe0b00bdc4c2fd55baf894b79066b3c89b433"), looks := true }, kinds := [], alts := [], laidByText := true, laidKinds := [.data, .pinned], laidTests := true, laidLooks := .later }
def HubSendsCardSaid : Prop := Claim7.holds Tryz.pinned (.plain (OpenSpec.ofChange hubSendsSpec)) hubSendsCard

/-- THE TIED CARD OF 'brackenlaw.HubPlays'. -/
def hubPlaysCard : Claim7 := { stood := { row := hubPlaysRow, standIns := [], harness := (true, "be5ca40040b966225b3ac0866e9fe0b00bdc4c2fd55baf894b79066b3c89b433"), looks := true }, kinds := [], alts := [], laidByText := true, laidKinds := [.data, .pinned], laidTests := true, laidLooks := .later }
def HubPlaysCardSaid : Prop := Claim7.holds Tryz.pinned (.plain (OpenSpec.ofChange hubPlaysSpec)) hubPlaysCard

/-- THE SECOND FORM's CARD OF 'brackentop.TopApart'. -/
def topApartUptoCard : Claim7 := { stood := { row := topApartUptoRow, standIns := [], harness := (true, "be5ca40040b966225b3ac0866e9fe0b00bdc4c2fd55baf894b79066b3c89b433"), looks := true }, kinds := [], alts := [], laidByText := true, laidKinds := [.data, .pinned], laidTests := true, laidLooks := .later }
def TopApartUptoCardSaid : Prop := Claim7.holds Tryz.pinned (.plain (OpenSpec.upto topApartSpec)) topApartUptoCard

/-- THE SECOND FORM's CARD OF 'brackenlaw.HubSends'. -/
def hubSendsUptoCard : Claim7 := { stood := { row := hubSendsUptoRow, standIns := [], harness := (true, "be5ca40040b966225b3ac0866e9fe0b00bdc4c2fd55baf894b79066b3c89b433"), looks := true }, kinds := [], alts := [], laidByText := true, laidKinds := [.data, .pinned], laidTests := true, laidLooks := .later }
def HubSendsUptoCardSaid : Prop := Claim7.holds Tryz.pinned (.plain (OpenSpec.upto hubSendsSpec)) hubSendsUptoCard

/-- THE SECOND FORM's CARD OF 'brackenlaw.HubPlays'. -/
def hubPlaysUptoCard : Claim7 := { stood := { row := hubPlaysUptoRow, standIns := [], harness := (true, "be5ca40040b966225b3ac0866e9fe0b00bdc4c2fd55baf894b79066b3c89b433"), looks := true }, kinds := [], alts := [], laidByText := true, laidKinds := [.data, .pinned], laidTests := true, laidLooks := .later }
def HubPlaysUptoCardSaid : Prop := Claim7.holds Tryz.pinned (.plain (OpenSpec.upto hubPlaysSpec)) hubPlaysUptoCard
end Rows
end Go.Proofs.YtbllgmociapjeaaGreatDoor
