/-
  DERIVED. GIVEN WITH THE SEED: THE CARDS: each row of YtimglglgcgpjgaaGreatDoorRows.lean that lists a variable, with what it lists TIED to the program's text (the seventh form; the later family's looks); each row that meets fmt, with fmt's text TOLD by the authors' own Lean function (tested against real Go, not proved from fmt's source: count such statements apart). THE CARD IS WHAT COUNTS. Prove the row's statement (the work); the ties are given (YtimglglgcgpjgaaGreatDoorTie.lean); close each card by the builder's one call (the guide's Derived/Test/ToyasCard.lean, 'card_holds'). Laid BY PROGRAM, IN A SANDBOX (cutbox-door.mjs). By AI agents, Wed Nov 11 2026. No macro, syntax, notation, axiom, sorry.
-/
import Derived.Test.YtimglglgcgpjgaaGreatDoorRows
import GoSem.ClaimSeven
namespace Go.Proofs.YtimglglgcgpjgaaGreatDoor
namespace Rows

/-- THE TIED CARD OF 'brackenlaw.HubSends'. -/
def hubSendsCard : Claim7 := { stood := { row := hubSendsRow, standIns := [], harness := (true, "e5db7f0bce38c18eea5f73ae6dd1d90620361aca0602d2c82203cb7d26c10d64"), looks := true }, kinds := [], alts := [], laidByText := true, laidKinds := [.data, .pinned], laidTests := true, laidLooks := .later }
def HubSendsCardSaid : Prop := Claim7.holds Tryz.pinned (.plain (OpenSpec.ofChange hubSendsSpec)) hubSendsCard

/-- THE SECOND FORM's CARD OF 'brackenlaw.HubSends'. -/
def hubSendsUptoCard : Claim7 := { stood := { row := hubSendsUptoRow, standIns := [], harness := (true, "e5db7f0bce38c18eea5f73ae6dd1d90620361aca0602d2c82203cb7d26c10d64"), looks := true }, kinds := [], alts := [], laidByText := true, laidKinds := [.data, .pinned], laidTests := true, laidLooks := .later }
def HubSendsUptoCardSaid : Prop := Claim7.holds Tryz.pinned (.plain (OpenSpec.upto hubSendsSpec)) hubSendsUptoCard
end Rows
end Go.Proofs.YtimglglgcgpjgaaGreatDoor
