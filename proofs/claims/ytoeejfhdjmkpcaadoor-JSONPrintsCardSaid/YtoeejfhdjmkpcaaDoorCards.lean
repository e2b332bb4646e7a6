/-
  DERIVED. GIVEN WITH THE SEED: THE CARDS: each row of YtoeejfhdjmkpcaaDoorRows.lean that lists a variable, with what it lists TIED to the program's text (the seventh form; the later family's looks); each row that meets fmt, with fmt's text TOLD by the authors' own Lean function (tested against real Go, not proved from fmt's source: count such statements apart). THE CARD IS WHAT COUNTS. Prove the row's statement (the work); the ties are given (YtoeejfhdjmkpcaaDoorTie.lean); close each card by the builder's one call (the guide's Derived/Test/ToyasCard.lean, 'card_holds'). Laid BY PROGRAM, IN A SANDBOX (cutbox-door.mjs). By AI agents, Wed Nov 11 2026. No macro, syntax, notation, axiom, sorry.
-/
import Derived.Test.YtoeejfhdjmkpcaaDoorRows
import GoSem.ClaimSeven
namespace Go.Proofs.YtoeejfhdjmkpcaaDoor
namespace Rows

/-- THE TIED CARD OF 'brackenlaw.JSONPrints'. -/
def jSONPrintsCard : Claim7 := { stood := { row := jSONPrintsRow, standIns := [], harness := (true, "3360942722bea6f31d4e0a13257c3dcec2881b046bf68e800379374e54e000ca"), looks := false }, kinds := [], alts := [], laidByText := true, laidKinds := [.data, .data, .data, .data, .pinned], laidTests := true, laidLooks := .later }
def JSONPrintsCardSaid : Prop := Claim7.holds Tryd.pinned (.plain (OpenSpec.ofChange jSONPrintsSpec)) jSONPrintsCard

/-- THE SECOND FORM's CARD OF 'brackenlaw.JSONPrints'. -/
def jSONPrintsUptoCard : Claim7 := { stood := { row := jSONPrintsUptoRow, standIns := [], harness := (true, "3360942722bea6f31d4e0a13257c3dcec2881b046bf68e800379374e54e000ca"), looks := false }, kinds := [], alts := [], laidByText := true, laidKinds := [.data, .data, .data, .data, .pinned], laidTests := true, laidLooks := .later }
def JSONPrintsUptoCardSaid : Prop := Claim7.holds Tryd.pinned (.plain (OpenSpec.upto jSONPrintsSpec)) jSONPrintsUptoCard
end Rows
end Go.Proofs.YtoeejfhdjmkpcaaDoor
