/-
  DERIVED. GIVEN WITH THE SEED: THE CARDS: each row of YtonipllegfgdiaaDoorRows.lean that lists a variable, with what it lists TIED to the program's text (the seventh form; the later family's looks); each row that meets fmt, with fmt's text TOLD by the authors' own Lean function (tested against real Go, not proved from fmt's source: count such statements apart). THE CARD IS WHAT COUNTS. Prove the row's statement (the work); the ties are given (YtonipllegfgdiaaDoorTie.lean); close each card by the builder's one call (the guide's Derived/Test/ToyasCard.lean, 'card_holds'). Laid BY PROGRAM, IN A SANDBOX (cutbox-door.mjs). By AI agents, Wed Nov 11 2026. No macro, syntax, notation, axiom, sorry.
-/
import Derived.Test.YtonipllegfgdiaaDoorRows
import GoSem.ClaimSeven
namespace Go.Proofs.YtonipllegfgdiaaDoor
namespace Rows

/-- THE TIED CARD OF 'brackenlaw.StateUsed'. -/
def stateUsedCard : Claim7 := { stood := { row := stateUsedRow, standIns := [], harness := (true, "6917ec3e48f9db4cabcaea29a6d86b34cf3d5b9d970f4fbbbc45bc46b23a1835"), looks := true }, kinds := [], alts := [], laidByText := true, laidKinds := [.data, .pinned], laidTests := true, laidLooks := .later }
def StateUsedCardSaid : Prop := Claim7.holds Tryd.pinned (.plain (OpenSpec.ofChange stateUsedSpec)) stateUsedCard

/-- THE TIED CARD OF 'brackenlaw.StateFits'. -/
def stateFitsCard : Claim7 := { stood := { row := stateFitsRow, standIns := [], harness := (true, "6917ec3e48f9db4cabcaea29a6d86b34cf3d5b9d970f4fbbbc45bc46b23a1835"), looks := true }, kinds := [], alts := [], laidByText := true, laidKinds := [.data, .pinned], laidTests := true, laidLooks := .later }
def StateFitsCardSaid : Prop := Claim7.holds Tryd.pinned (.plain (OpenSpec.ofChange stateFitsSpec)) stateFitsCard

/-- THE TIED CARD OF 'brackenlaw.DeltaChecks'. -/
def deltaChecksCard : Claim7 := { stood := { row := deltaChecksRow, standIns := [], harness := (true, "6917ec3e48f9db4cabcaea29a6d86b34cf3d5b9d970f4fbbbc45bc46b23a1835"), looks := true }, kinds := [], alts := [], laidByText := true, laidKinds := [.data, .pinned], laidTests := true, laidLooks := .later }
def DeltaChecksCardSaid : Prop := Claim7.holds Tryd.pinned (.plain (OpenSpec.ofChange deltaChecksSpec)) deltaChecksCard

/-- THE TIED CARD OF 'brackenlaw.UpStates'. -/
def upStatesCard : Claim7 := { stood := { row := upStatesRow, standIns := [], harness := (true, "6917ec3e48f9db4cabcaea29a6d86b34cf3d5b9d970f4fbbbc45bc46b23a1835"), looks := true }, kinds := [], alts := [], laidByText := true, laidKinds := [.data, .pinned], laidTests := true, laidLooks := .later }
def UpStatesCardSaid : Prop := Claim7.holds Tryd.pinned (.plain (OpenSpec.ofChange upStatesSpec)) upStatesCard

/-- THE TIED CARD OF 'brackenlaw.DeltaDiffs'. -/
def deltaDiffsCard : Claim7 := { stood := { row := deltaDiffsRow, standIns := [], harness := (true, "6917ec3e48f9db4cabcaea29a6d86b34cf3d5b9d970f4fbbbc45bc46b23a1835"), looks := true }, kinds := [], alts := [], laidByText := true, laidKinds := [.data, .pinned], laidTests := true, laidLooks := .later }
def DeltaDiffsCardSaid : Prop := Claim7.holds Tryd.pinned (.plain (OpenSpec.ofChange deltaDiffsSpec)) deltaDiffsCard

/-- THE TIED CARD OF 'brackenlaw.DeltaEncodes'. -/
def deltaEncodesCard : Claim7 := { stood := { row := deltaEncodesRow, standIns := [], harness := (true, "6917ec3e48f9db4cabcaea29a6d86b34cf3d5b9d970f4fbbbc45bc46b23a1835"), looks := true }, kinds := [], alts := [], laidByText := true, laidKinds := [.data, .pinned], laidTests := true, laidLooks := .later }
def DeltaEncodesCardSaid : Prop := Claim7.holds Tryd.pinned (.plain (OpenSpec.ofChange deltaEncodesSpec)) deltaEncodesCard

/-- THE TIED CARD OF 'brackenlaw.WireDecodes'. -/
def wireDecodesCard : Claim7 := { stood := { row := wireDecodesRow, standIns := [], harness := (true, "6917ec3e48f9db4cabcaea29a6d86b34cf3d5b9d970f4fbbbc45bc46b23a1835"), looks := true }, kinds := [], alts := [], laidByText := true, laidKinds := [.data, .pinned], laidTests := true, laidLooks := .later }
def WireDecodesCardSaid : Prop := Claim7.holds Tryd.pinned (.plain (OpenSpec.ofChange wireDecodesSpec)) wireDecodesCard

/-- THE TIED CARD OF 'brackenlaw.DeltaDecodes'. -/
def deltaDecodesCard : Claim7 := { stood := { row := deltaDecodesRow, standIns := [], harness := (true, "6917ec3e48f9db4cabcaea29a6d86b34cf3d5b9d970f4fbbbc45bc46b23a1835"), looks := true }, kinds := [], alts := [], laidByText := true, laidKinds := [.data, .pinned], laidTests := true, laidLooks := .later }
def DeltaDecodesCardSaid : Prop := Claim7.holds Tryd.pinned (.plain (OpenSpec.ofChange deltaDecodesSpec)) deltaDecodesCard

/-- THE SECOND FORM's CARD OF 'brackenlaw.StateUsed'. -/
def stateUsedUptoCard : Claim7 := { stood := { row := stateUsedUptoRow, standIns := [], harness := (true, "6917ec3e48f9db4cabcaea29a6d86b34cf3d5b9d970f4fbbbc45bc46b23a1835"), looks := true }, kinds := [], alts := [], laidByText := true, laidKinds := [.data, .pinned], laidTests := true, laidLooks := .later }
def StateUsedUptoCardSaid : Prop := Claim7.holds Tryd.pinned (.plain (OpenSpec.upto stateUsedSpec)) stateUsedUptoCard

/-- THE SECOND FORM's CARD OF 'brackenlaw.StateFits'. -/
def stateFitsUptoCard : Claim7 := { stood := { row := stateFitsUptoRow, standIns := [], harness := (true, "6917ec3e48f9db4cabcaea29a6d86b34cf3d5b9d970f4fbbbc45bc46b23a1835"), looks := true }, kinds := [], alts := [], laidByText := true, laidKinds := [.data, .pinned], laidTests := true, laidLooks := .later }
def StateFitsUptoCardSaid : Prop := Claim7.holds Tryd.pinned (.plain (OpenSpec.upto stateFitsSpec)) stateFitsUptoCard

/-- THE SECOND FORM's CARD OF 'brackenlaw.DeltaChecks'. -/
def deltaChecksUptoCard : Claim7 := { stood := { row := deltaChecksUptoRow, standIns := [], harness := (true, "6917ec3e48f9db4cabcaea29a6d86b34cf3d5b9d970f4fbbbc45bc46b23a1835"), looks := true }, kinds := [], alts := [], laidByText := true, laidKinds := [.data, .pinned], laidTests := true, laidLooks := .later }
def DeltaChecksUptoCardSaid : Prop := Claim7.holds Tryd.pinned (.plain (OpenSpec.upto deltaChecksSpec)) deltaChecksUptoCard

/-- THE SECOND FORM's CARD OF 'brackenlaw.UpStates'. -/
def upStatesUptoCard : Claim7 := { stood := { row := upStatesUptoRow, standIns := [], harness := (true, "6917ec3e48f9db4cabcaea29a6d86b34cf3d5b9d970f4fbbbc45bc46b23a1835"), looks := true }, kinds := [], alts := [], laidByText := true, laidKinds := [.data, .pinned], laidTests := true, laidLooks := .later }
def UpStatesUptoCardSaid : Prop := Claim7.holds Tryd.pinned (.plain (OpenSpec.upto upStatesSpec)) upStatesUptoCard

/-- THE SECOND FORM's CARD OF 'brackenlaw.DeltaDiffs'. -/
def deltaDiffsUptoCard : Claim7 := { stood := { row := deltaDiffsUptoRow, standIns := [], harness := (true, "6917ec3e48f9db4cabcaea29a6d86b34cf3d5b9d970f4fbbbc45bc46b23a1835"), looks := true }, kinds := [], alts := [], laidByText := true, laidKinds := [.data, .pinned], laidTests := true, laidLooks := .later }
def DeltaDiffsUptoCardSaid : Prop := Claim7.holds Tryd.pinned (.plain (OpenSpec.upto deltaDiffsSpec)) deltaDiffsUptoCard

/-- THE SECOND FORM's CARD OF 'brackenlaw.DeltaEncodes'. -/
def deltaEncodesUptoCard : Claim7 := { stood := { row := deltaEncodesUptoRow, standIns := [], harness := (true, "6917ec3e48f9db4cabcaea29a6d86b34cf3d5b9d970f4fbbbc45bc46b23a1835"), looks := true }, kinds := [], alts := [], laidByText := true, laidKinds := [.data, .pinned], laidTests := true, laidLooks := .later }
def DeltaEncodesUptoCardSaid : Prop := Claim7.holds Tryd.pinned (.plain (OpenSpec.upto deltaEncodesSpec)) deltaEncodesUptoCard

/-- THE SECOND FORM's CARD OF 'brackenlaw.WireDecodes'. -/
def wireDecodesUptoCard : Claim7 := { stood := { row := wireDecodesUptoRow, standIns := [], harness := (true, "6917ec3e48f9db4cabcaea29a6d86b34cf3d5b9d970f4fbbbc45bc46b23a1835"), looks := true }, kinds := [], alts := [], laidByText := true, laidKinds := [.data, .pinned], laidTests := true, laidLooks := .later }
def WireDecodesUptoCardSaid : Prop := Claim7.holds Tryd.pinned (.plain (OpenSpec.upto wireDecodesSpec)) wireDecodesUptoCard

/-- THE SECOND FORM's CARD OF 'brackenlaw.DeltaDecodes'. -/
def deltaDecodesUptoCard : Claim7 := { stood := { row := deltaDecodesUptoRow, standIns := [], harness := (true, "6917ec3e48f9db4cabcaea29a6d86b34cf3d5b9d970f4fbbbc45bc46b23a1835"), looks := true }, kinds := [], alts := [], laidByText := true, laidKinds := [.data, .pinned], laidTests := true, laidLooks := .later }
def DeltaDecodesUptoCardSaid : Prop := Claim7.holds Tryd.pinned (.plain (OpenSpec.upto deltaDecodesSpec)) deltaDecodesUptoCard
end Rows
end Go.Proofs.YtonipllegfgdiaaDoor
