/-
  DERIVED. GIVEN WITH THE SEED: THE CARDS: each row of YtbbagnfmoecdfaaDoorRows.lean that lists a variable, with what it lists TIED to the program's text (the seventh form; the later family's looks); each row that meets fmt, with fmt's text TOLD by the authors' own Lean function (tested against real Go, not proved from fmt's source: count such statements apart). THE CARD IS WHAT COUNTS. Prove the row's statement (the work); the ties are given (YtbbagnfmoecdfaaDoorTie.lean); close each card by the builder's one call (the guide's Derived/Test/ToyasCard.lean, 'card_holds'). Laid BY PROGRAM, IN A SANDBOX (cutbox-door.mjs). By AI agents, Wed Nov 11 2026. No macro, syntax, notation, axiom, sorry.
-/
import Derived.Test.YtbbagnfmoecdfaaDoorRows
import GoSem.ClaimSeven
namespace Go.Proofs.YtbbagnfmoecdfaaDoor
namespace Rows

/-- THE TIED CARD OF 'brackenlaw.WireEncodes'. -/
def wireEncodesCard : Claim7 := { stood := { row := wireEncodesRow, standIns := [], harness := (true, "d28e12b5f2a0c740147642a4d850290f96343867de4b49d333224acedeebee61"), looks := false }, kinds := [], alts := [], laidByText := true, laidKinds := [.data, .pinned], laidTests := true, laidLooks := .later }
def WireEncodesCardSaid : Prop := Claim7.holds Tryd.pinned (.plain (OpenSpec.ofChange wireEncodesSpec)) wireEncodesCard

/-- THE TIED CARD OF 'brackenlaw.WireFrames'. -/
def wireFramesCard : Claim7 := { stood := { row := wireFramesRow, standIns := [], harness := (true, "d28e12b5f2a0c740147642a4d850290f96343867de4b49d333224acedeebee61"), looks := false }, kinds := [], alts := [], laidByText := true, laidKinds := [.data, .pinned], laidTests := true, laidLooks := .later }
def WireFramesCardSaid : Prop := Claim7.holds Tryd.pinned (.plain (OpenSpec.ofChange wireFramesSpec)) wireFramesCard

/-- THE TIED CARD OF 'brackenlaw.UpDowns'. -/
def upDownsCard : Claim7 := { stood := { row := upDownsRow, standIns := [], harness := (true, "d28e12b5f2a0c740147642a4d850290f96343867de4b49d333224acedeebee61"), looks := false }, kinds := [], alts := [], laidByText := true, laidKinds := [.data, .pinned], laidTests := true, laidLooks := .later }
def UpDownsCardSaid : Prop := Claim7.holds Tryd.pinned (.plain (OpenSpec.ofChange upDownsSpec)) upDownsCard

/-- THE TIED CARD OF 'brackenlaw.JSONPrints'. -/
def jSONPrintsCard : Claim7 := { stood := { row := jSONPrintsRow, standIns := [], harness := (true, "d28e12b5f2a0c740147642a4d850290f96343867de4b49d333224acedeebee61"), looks := false }, kinds := [], alts := [], laidByText := true, laidKinds := [.data, .data, .data, .data, .pinned], laidTests := true, laidLooks := .later }
def JSONPrintsCardSaid : Prop := Claim7.holds Tryd.pinned (.plain (OpenSpec.ofChange jSONPrintsSpec)) jSONPrintsCard

/-- THE SECOND FORM's CARD OF 'brackenlaw.WireEncodes'. -/
def wireEncodesUptoCard : Claim7 := { stood := { row := wireEncodesUptoRow, standIns := [], harness := (true, "d28e12b5f2a0c740147642a4d850290f96343867de4b49d333224acedeebee61"), looks := false }, kinds := [], alts := [], laidByText := true, laidKinds := [.data, .pinned], laidTests := true, laidLooks := .later }
def WireEncodesUptoCardSaid : Prop := Claim7.holds Tryd.pinned (.plain (OpenSpec.upto wireEncodesSpec)) wireEncodesUptoCard

/-- THE SECOND FORM's CARD OF 'brackenlaw.WireFrames'. -/
def wireFramesUptoCard : Claim7 := { stood := { row := wireFramesUptoRow, standIns := [], harness := (true, "d28e12b5f2a0c740147642a4d850290f96343867de4b49d333224acedeebee61"), looks := false }, kinds := [], alts := [], laidByText := true, laidKinds := [.data, .pinned], laidTests := true, laidLooks := .later }
def WireFramesUptoCardSaid : Prop := Claim7.holds Tryd.pinned (.plain (OpenSpec.upto wireFramesSpec)) wireFramesUptoCard

/-- THE SECOND FORM's CARD OF 'brackenlaw.UpDowns'. -/
def upDownsUptoCard : Claim7 := { stood := { row := upDownsUptoRow, standIns := [], harness := (true, "d28e12b5f2a0c740147642a4d850290f96343867de4b49d333224acedeebee61"), looks := false }, kinds := [], alts := [], laidByText := true, laidKinds := [.data, .pinned], laidTests := true, laidLooks := .later }
def UpDownsUptoCardSaid : Prop := Claim7.holds Tryd.pinned (.plain (OpenSpec.upto upDownsSpec)) upDownsUptoCard

/-- THE SECOND FORM's CARD OF 'brackenlaw.JSONPrints'. -/
def jSONPrintsUptoCard : Claim7 := { stood := { row := jSONPrintsUptoRow, standIns := [], harness := (true, "d28e12b5f2a0c740147642a4d850290f96343867de4b49d333224acedeebee61"), looks := false }, kinds := [], alts := [], laidByText := true, laidKinds := [.data, .data, .data, .data, .pinned], laidTests := true, laidLooks := .later }
def JSONPrintsUptoCardSaid : Prop := Claim7.holds Tryd.pinned (.plain (OpenSpec.upto jSONPrintsSpec)) jSONPrintsUptoCard
end Rows
end Go.Proofs.YtbbagnfmoecdfaaDoor
