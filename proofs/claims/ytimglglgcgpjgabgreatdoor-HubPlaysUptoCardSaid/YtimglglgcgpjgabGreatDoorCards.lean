/-
  DERIVED. GIVEN WITH THE SEED: THE CARDS: each row of YtimglglgcgpjgabGreatDoorRows.lean that lists a variable, with what it lists TIED to the program's text (the seventh form; the later family's looks); each row that meets fmt, with fmt's text TOLD by the authors' own Lean function (tested against real Go, not proved from fmt's source: count such statements apart). THE CARD IS WHAT COUNTS. Prove the row's statement (the work); the ties are given (YtimglglgcgpjgabGreatDoorTie.lean); close each card by the builder's one call (the guide's Derived/Test/ToyasCard.lean, 'card_holds'). Laid BY PROGRAM, IN A SANDBOX (cutbox-door.mjs). By AI agents, Wed Nov 11 2026. No macro, syntax, notation, axiom, sorry.
-/
import Derived.Test.YtimglglgcgpjgabGreatDoorRows
import GoSem.ClaimSeven
namespace Go.Proofs.YtimglglgcgpjgabGreatDoor
namespace Rows

/-- THE TIED CARD OF 'brackenlaw.HubPlays'. -/
def hubPlaysCard : Claim7 := { stood := { row := hubPlaysRow, standIns := [], harness := (true, "d89b0977c562fc6590daac654b0bfbb8cd1ae553d4948a405c93991457a5e330"), looks := true }, kinds := [], alts := [], laidByText := true, laidKinds := [.data, .pinned], laidTests := true, laidLooks := .later }
def HubPlaysCardSaid : Prop := Claim7.holds Tryz.pinned (.plain (OpenSpec.ofChange hubPlaysSpec)) hubPlaysCard

/-- THE SECOND FORM's CARD OF 'brackenlaw.HubPlays'. -/
def hubPlaysUptoCard : Claim7 := { stood := { row := hubPlaysUptoRow, standIns := [], harness := (true, "d89b0977c562fc6590daac654b0bfbb8cd1ae553d4948a405c93991457a5e330"), looks := true }, kinds := [], alts := [], laidByText := true, laidKinds := [.data, .pinned], laidTests := true, laidLooks := .later }
def HubPlaysUptoCardSaid : Prop := Claim7.holds Tryz.pinned (.plain (OpenSpec.upto hubPlaysSpec)) hubPlaysUptoCard
end Rows
end Go.Proofs.YtimglglgcgpjgabGreatDoor
