/-
  DERIVED. GIVEN WITH THE SEED: THE CARDS: each row of YtcodhhabfacnjaaGreatDoorRows.lean that lists a variable, with what it lists TIED to the program's text (the seventh form; the later family's looks); each row that meets fmt, with fmt's text TOLD by the authors' own Lean function (tested against real Go, not proved from fmt's source: count such statements apart). THE CARD IS WHAT COUNTS. Prove the row's statement (the work); the ties are given (YtcodhhabfacnjaaGreatDoorTie.lean); close each card by the builder's one call (the guide's Derived/Test/ToyasCard.lean, 'card_holds'). Laid BY PROGRAM, IN A SANDBOX (cutbox-door.mjs). By AI agents, Wed Nov 11 2026. No macro, syntax, notation, axiom, sorry.
-/
import Derived.Test.YtcodhhabfacnjaaGreatDoorRows
import GoSem.ClaimSeven
namespace Go.Proofs.YtcodhhabfacnjaaGreatDoor
namespace Rows

/-- THE TIED CARD OF 'brackenlaw.JSONParses'. -/
def jSONParsesCard : Claim7 := { stood := { row := jSONParsesRow, standIns := [], harness := (true, "73a4a02693f2af01d97a6df7a7c5b03bef97afe70b5201a0d3858a145d53ba87"), looks := true }, kinds := [], alts := [], laidByText := true, laidKinds := [.data, .data, .data, .data, .sentinel, .sentinel, .pinned], laidTests := true, laidLooks := .later }
def JSONParsesCardSaid : Prop := Claim7.holds Tryz.pinned (.plain (OpenSpec.ofChange jSONParsesSpec)) jSONParsesCard

/-- THE SECOND FORM's CARD OF 'brackenlaw.JSONParses'. -/
def jSONParsesUptoCard : Claim7 := { stood := { row := jSONParsesUptoRow, standIns := [], harness := (true, "73a4a02693f2af01d97a6df7a7c5b03bef97afe70b5201a0d3858a145d53ba87"), looks := true }, kinds := [], alts := [], laidByText := true, laidKinds := [.data, .data, .data, .data, .sentinel, .sentinel, .pinned], laidTests := true, laidLooks := .later }
def JSONParsesUptoCardSaid : Prop := Claim7.holds Tryz.pinned (.plain (OpenSpec.upto jSONParsesSpec)) jSONParsesUptoCard
end Rows
end Go.Proofs.YtcodhhabfacnjaaGreatDoor
