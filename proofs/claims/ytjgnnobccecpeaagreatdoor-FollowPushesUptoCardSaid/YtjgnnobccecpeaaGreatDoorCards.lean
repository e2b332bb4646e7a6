/-
  DERIVED. GIVEN WITH THE SEED: THE CARDS: each row of YtjgnnobccecpeaaGreatDoorRows.lean that lists a variable, with what it lists TIED to the program's text (the seventh form; the later family's looks); each row that meets fmt, with fmt's text TOLD by the authors' own Lean function (tested against real Go, not proved from fmt's source: count such statements apart). THE CARD IS WHAT COUNTS. Prove the row's statement (the work); the ties are given (YtjgnnobccecpeaaGreatDoorTie.lean); close each card by the builder's one call (the guide's Derived/Test/ToyasCard.lean, 'card_holds'). Laid BY PROGRAM, IN A SANDBOX (cutbox-door.mjs). By AI agents, Wed Nov 11 2026. No macro, syntax, notation, axiom, sorry.
-/
import Derived.Test.YtjgnnobccecpeaaGreatDoorRows
import GoSem.ClaimSeven
namespace Go.Proofs.YtjgnnobccecpeaaGreatDoor
namespace Rows

/-- THE TIED CARD OF 'brackenlaw.ServeDoes'. -/
def serveDoesCard : Claim7 := { stood := { row := serveDoesRow, standIns := [], harness := (true, "875afc2b6705109f74ac6ffc86bf20b1ed7ccaa535a008c931dd09eb2727153b"), looks := true }, kinds := [], alts := [], laidByText := true, laidKinds := [.data, .pinned], laidTests := true, laidLooks := .later }
def ServeDoesCardSaid : Prop := Claim7.holds Tryz.pinned (.plain (OpenSpec.ofChange serveDoesSpec)) serveDoesCard

/-- THE TIED CARD OF 'brackenlaw.DeltaApplies'. -/
def deltaAppliesCard : Claim7 := { stood := { row := deltaAppliesRow, standIns := [], harness := (true, "875afc2b6705109f74ac6ffc86bf20b1ed7ccaa535a008c931dd09eb2727153b"), looks := true }, kinds := [], alts := [], laidByText := true, laidKinds := [.data, .pinned], laidTests := true, laidLooks := .later }
def DeltaAppliesCardSaid : Prop := Claim7.holds Tryz.pinned (.plain (OpenSpec.ofChange deltaAppliesSpec)) deltaAppliesCard

/-- THE TIED CARD OF 'brackenlaw.JSONParses'. -/
def jSONParsesCard : Claim7 := { stood := { row := jSONParsesRow, standIns := [], harness := (true, "875afc2b6705109f74ac6ffc86bf20b1ed7ccaa535a008c931dd09eb2727153b"), looks := true }, kinds := [], alts := [], laidByText := true, laidKinds := [.data, .data, .data, .data, .sentinel, .sentinel, .pinned], laidTests := true, laidLooks := .later }
def JSONParsesCardSaid : Prop := Claim7.holds Tryz.pinned (.plain (OpenSpec.ofChange jSONParsesSpec)) jSONParsesCard

/-- THE TIED CARD OF 'brackenlaw.FollowPushes'. -/
def followPushesCard : Claim7 := { stood := { row := followPushesRow, standIns := [], harness := (true, "875afc2b6705109f74ac6ffc86bf20b1ed7ccaa535a008c931dd09eb2727153b"), looks := true }, kinds := [], alts := [], laidByText := true, laidKinds := [.data, .pinned], laidTests := true, laidLooks := .later }
def FollowPushesCardSaid : Prop := Claim7.holds Tryz.pinned (.plain (OpenSpec.ofChange followPushesSpec)) followPushesCard

/-- THE SECOND FORM's CARD OF 'brackenlaw.ServeDoes'. -/
def serveDoesUptoCard : Claim7 := { stood := { row := serveDoesUptoRow, standIns := [], harness := (true, "875afc2b6705109f74ac6ffc86bf20b1ed7ccaa535a008c931dd09eb2727153b"), looks := true }, kinds := [], alts := [], laidByText := true, laidKinds := [.data, .pinned], laidTests := true, laidLooks := .later }
def ServeDoesUptoCardSaid : Prop := Claim7.holds Tryz.pinned (.plain (OpenSpec.upto serveDoesSpec)) serveDoesUptoCard

/-- THE SECOND FORM's CARD OF 'brackenlaw.DeltaApplies'. -/
def deltaAppliesUptoCard : Claim7 := { stood := { row := deltaAppliesUptoRow, standIns := [], harness := (true, "875afc2b6705109f74ac6ffc86bf20b1ed7ccaa535a008c931dd09eb2727153b"), looks := true }, kinds := [], alts := [], laidByText := true, laidKinds := [.data, .pinned], laidTests := true, laidLooks := .later }
def DeltaAppliesUptoCardSaid : Prop := Claim7.holds Tryz.pinned (.plain (OpenSpec.upto deltaAppliesSpec)) deltaAppliesUptoCard

/-- THE SECOND FORM's CARD OF 'brackenlaw.JSONParses'. -/
def jSONParsesUptoCard : Claim7 := { stood := { row := jSONParsesUptoRow, standIns := [], harness := (true, "875afc2b6705109f74ac6ffc86bf20b1ed7ccaa535a008c931dd09eb2727153b"), looks := true }, kinds := [], alts := [], laidByText := true, laidKinds := [.data, .data, .data, .data, .sentinel, .sentinel, .pinned], laidTests := true, laidLooks := .later }
def JSONParsesUptoCardSaid : Prop := Claim7.holds Tryz.pinned (.plain (OpenSpec.upto jSONParsesSpec)) jSONParsesUptoCard

/-- THE SECOND FORM's CARD OF 'brackenlaw.FollowPushes'. -/
def followPushesUptoCard : Claim7 := { stood := { row := followPushesUptoRow, standIns := [], harness := (true, "875afc2b6705109f74ac6ffc86bf20b1ed7ccaa535a008c931dd09eb2727153b"), looks := true }, kinds := [], alts := [], laidByText := true, laidKinds := [.data, .pinned], laidTests := true, laidLooks := .later }
def FollowPushesUptoCardSaid : Prop := Claim7.holds Tryz.pinned (.plain (OpenSpec.upto followPushesSpec)) followPushesUptoCard
end Rows
end Go.Proofs.YtjgnnobccecpeaaGreatDoor
