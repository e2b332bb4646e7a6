/-
  DERIVED. GIVEN WITH THE SEED: THE CARDS: each row of YtdogdhlpkbcneaaDoorRows.lean that lists a variable, with what it lists TIED to the program's text (the seventh form; the later family's looks); each row that meets fmt, with fmt's text TOLD by the authors' own Lean function (tested against real Go, not proved from fmt's source: count such statements apart). THE CARD IS WHAT COUNTS. Prove the row's statement (the work); the ties are given (YtdogdhlpkbcneaaDoorTie.lean); close each card by the builder's one call (the guide's Derived/Test/ToyasCard.lean, 'card_holds'). Laid BY PROGRAM, IN A SANDBOX (cutbox-door.mjs). By AI agents, Wed Nov 11 2026. No macro, syntax, notation, axiom, sorry.
-/
import Derived.Test.YtdogdhlpkbcneaaDoorRows
import GoSem.ClaimSeven
namespace Go.Proofs.YtdogdhlpkbcneaaDoor
namespace Rows

/-- THE TIED CARD OF 'brackenlaw.PrimTexts'. -/
def primTextsCard : Claim7 := { stood := { row := primTextsRow, standIns := [], harness := (true, "b9c196ab213139e7c92448911ea12619ce3a110bb74d6c674f3e5d4cdeb435e5"), looks := false }, kinds := [], alts := [], laidByText := true, laidKinds := [.data, .pinned], laidTests := true, laidLooks := .later }
def PrimTextsCardSaid : Prop := Claim7.holds Tryd.pinned (.plain (OpenSpec.ofChange primTextsSpec)) primTextsCard

/-- THE TIED CARD OF 'brackenlaw.PrimTextReads'. -/
def primTextReadsCard : Claim7 := { stood := { row := primTextReadsRow, standIns := [], harness := (true, "b9c196ab213139e7c92448911ea12619ce3a110bb74d6c674f3e5d4cdeb435e5"), looks := false }, kinds := [], alts := [], laidByText := true, laidKinds := [.data, .pinned], laidTests := true, laidLooks := .later }
def PrimTextReadsCardSaid : Prop := Claim7.holds Tryd.pinned (.plain (OpenSpec.ofChange primTextReadsSpec)) primTextReadsCard

/-- THE TIED CARD OF 'brackenlaw.StateChecks'. -/
def stateChecksCard : Claim7 := { stood := { row := stateChecksRow, standIns := [], harness := (true, "b9c196ab213139e7c92448911ea12619ce3a110bb74d6c674f3e5d4cdeb435e5"), looks := false }, kinds := [], alts := [], laidByText := true, laidKinds := [.data, .pinned], laidTests := true, laidLooks := .later }
def StateChecksCardSaid : Prop := Claim7.holds Tryd.pinned (.plain (OpenSpec.ofChange stateChecksSpec)) stateChecksCard

/-- THE SECOND FORM's CARD OF 'brackenlaw.PrimTexts'. -/
def primTextsUptoCard : Claim7 := { stood := { row := primTextsUptoRow, standIns := [], harness := (true, "b9c196ab213139e7c92448911ea12619ce3a110bb74d6c674f3e5d4cdeb435e5"), looks := false }, kinds := [], alts := [], laidByText := true, laidKinds := [.data, .pinned], laidTests := true, laidLooks := .later }
def PrimTextsUptoCardSaid : Prop := Claim7.holds Tryd.pinned (.plain (OpenSpec.upto primTextsSpec)) primTextsUptoCard

/-- THE SECOND FORM's CARD OF 'brackenlaw.PrimTextReads'. -/
def primTextReadsUptoCard : Claim7 := { stood := { row := primTextReadsUptoRow, standIns := [], harness := (true, "b9c196ab213139e7c92448911ea12619ce3a110bb74d6c674f3e5d4cdeb435e5"), looks := false }, kinds := [], alts := [], laidByText := true, laidKinds := [.data, .pinned], laidTests := true, laidLooks := .later }
def PrimTextReadsUptoCardSaid : Prop := Claim7.holds Tryd.pinned (.plain (OpenSpec.upto primTextReadsSpec)) primTextReadsUptoCard

/-- THE SECOND FORM's CARD OF 'brackenlaw.StateChecks'. -/
def stateChecksUptoCard : Claim7 := { stood := { row := stateChecksUptoRow, standIns := [], harness := (true, "b9c196ab213139e7c92448911ea12619ce3a110bb74d6c674f3e5d4cdeb435e5"), looks := false }, kinds := [], alts := [], laidByText := true, laidKinds := [.data, .pinned], laidTests := true, laidLooks := .later }
def StateChecksUptoCardSaid : Prop := Claim7.holds Tryd.pinned (.plain (OpenSpec.upto stateChecksSpec)) stateChecksUptoCard
end Rows
end Go.Proofs.YtdogdhlpkbcneaaDoor
