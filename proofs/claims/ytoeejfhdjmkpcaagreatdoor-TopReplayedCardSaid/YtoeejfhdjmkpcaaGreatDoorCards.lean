/-
  DERIVED. GIVEN WITH THE SEED: THE CARDS: each row of YtoeejfhdjmkpcaaGreatDoorRows.lean that lists a variable, with what it lists TIED to the program's text (the seventh form; the later family's looks); each row that meets fmt, with fmt's text TOLD by the authors' own Lean function (tested against real Go, not proved from fmt's source: count such statements apart). THE CARD IS WHAT COUNTS. Prove the row's statement (the work); the ties are given (YtoeejfhdjmkpcaaGreatDoorTie.lean); close each card by the builder's one call (the guide's Derived/Test/ToyasCard.lean, 'card_holds'). Laid BY PROGRAM, IN A SANDBOX (cutbox-door.mjs). By AI agents, Wed Nov 11 2026. No macro, syntax, notation, axiom, sorry.
-/
import Derived.Test.YtoeejfhdjmkpcaaGreatDoorRows
import GoSem.ClaimSeven
namespace Go.Proofs.YtoeejfhdjmkpcaaGreatDoor
namespace Rows

/-- THE TIED CARD OF 'brackentop.TopAgain'. -/
def topAgainCard : Claim7 := { stood := { row := topAgainRow, standIns := [], harness := (true, "559b06e263d15863621590265984a57e0c515cb79d047c62b706781e1f0bc726"), looks := true }, kinds := [], alts := [], goes := true, laidByText := true, laidKinds := [.data, .pinned], laidTests := true, laidLooks := .later }
def TopAgainCardSaid : Prop := Claim7.holds Tryz.pinned (.plain (OpenSpec.ofChange topAgainSpec)) topAgainCard

/-- THE TIED CARD OF 'brackentop.TopApart'. -/
def topApartCard : Claim7 := { stood := { row := topApartRow, standIns := [], harness := (true, "559b06e263d15863621590265984a57e0c515cb79d047c62b706781e1f0bc726"), looks := true }, kinds := [], alts := [], goes := true, laidByText := true, laidKinds := [.data, .pinned], laidTests := true, laidLooks := .later }
def TopApartCardSaid : Prop := Claim7.holds Tryz.pinned (.plain (OpenSpec.ofChange topApartSpec)) topApartCard

/-- THE TIED CARD OF 'brackentop.TopReplayed'. -/
def topReplayedCard : Claim7 := { stood := { row := topReplayedRow, standIns := [], harness := (true, "559b06e263d15863621590265984a57e0c515cb79d047c62b706781e1f0bc726"), looks := true }, kinds := [], alts := [], goes := true, laidByText := true, laidKinds := [.data, .pinned], laidTests := true, laidLooks := .later }
def TopReplayedCardSaid : Prop := Claim7.holds Tryz.pinned (.plain (OpenSpec.ofChange topReplayedSpec)) topReplayedCard

/-- THE TIED CARD OF 'brackenlaw.JSONParses'. -/
def jSONParsesCard : Claim7 := { stood := { row := jSONParsesRow, standIns := [], harness := (true, "559b06e263d15863621590265984a57e0c515cb79d047c62b706781e1f0bc726"), looks := true }, kinds := [], alts := [], goes := true, laidByText := true, laidKinds := [.data, .data, .data, .data, .sentinel, .sentinel, .pinned], laidTests := true, laidLooks := .later }
def JSONParsesCardSaid : Prop := Claim7.holds Tryz.pinned (.plain (OpenSpec.ofChange jSONParsesSpec)) jSONParsesCard

/-- THE TIED CARD OF 'brackenlaw.HubSends'. -/
def hubSendsCard : Claim7 := { stood := { row := hubSendsRow, standIns := [], harness := (true, "559b06e263d15863621590265984a57e0c515cb79d047c62b706781e1f0bc726"), looks := true }, kinds := [], alts := [], goes := true, laidByText := true, laidKinds := [.data, .pinned], laidTests := true, laidLooks := .later }
def HubSendsCardSaid : Prop := Claim7.holds Tryz.pinned (.plain (OpenSpec.ofChange hubSendsSpec)) hubSendsCard

/-- THE TIED CARD OF 'brackenlaw.HubPlays'. -/
def hubPlaysCard : Claim7 := { stood := { row := hubPlaysRow, standIns := [], harness := (true, "559b06e263d15863621590265984a57e0c515cb79d047c62b706781e1f0bc726"), looks := true }, kinds := [], alts := [], goes := true, laidByText := true, laidKinds := [.data, .pinned], laidTests := true, laidLooks := .later }
def HubPlaysCardSaid : Prop := Claim7.holds Tryz.pinned (.plain (OpenSpec.ofChange hubPlaysSpec)) hubPlaysCard

/-- THE TIED CARD OF 'brackenlaw.CrewAll'. -/
def crewAllCard : Claim7 := { stood := { row := crewAllRow, standIns := [], harness := (true, "559b06e263d15863621590265984a57e0c515cb79d047c62b706781e1f0bc726"), looks := true }, kinds := [], alts := [], goes := true, laidByText := true, laidKinds := [.data, .pinned], laidTests := true, laidLooks := .later }
def CrewAllCardSaid : Prop := Claim7.holds Tryz.pinned (.plain (OpenSpec.ofChange crewAllSpec)) crewAllCard

/-- THE TIED CARD OF 'brackentop.TopWays'. -/
def topWaysCard : Claim7 := { stood := { row := topWaysRow, standIns := [], harness := (true, "559b06e263d15863621590265984a57e0c515cb79d047c62b706781e1f0bc726"), looks := true }, kinds := [], alts := [], goes := true, laidByText := true, laidKinds := [.data, .data, .data, .data, .sentinel, .sentinel, .pinned], laidTests := true, laidLooks := .later }
def TopWaysCardSaid : Prop := Claim7.holds Tryz.pinned (.plain (OpenSpec.ofChange topWaysSpec)) topWaysCard

/-- THE SECOND FORM's CARD OF 'brackentop.TopAgain'. -/
def topAgainUptoCard : Claim7 := { stood := { row := topAgainUptoRow, standIns := [], harness := (true, "559b06e263d15863621590265984a57e0c515cb79d047c62b706781e1f0bc726"), looks := true }, kinds := [], alts := [], goes := true, laidByText := true, laidKinds := [.data, .pinned], laidTests := true, laidLooks := .later }
def TopAgainUptoCardSaid : Prop := Claim7.holds Tryz.pinned (.plain (OpenSpec.upto topAgainSpec)) topAgainUptoCard

/-- THE SECOND FORM's CARD OF 'brackentop.TopApart'. -/
def topApartUptoCard : Claim7 := { stood := { row := topApartUptoRow, standIns := [], harness := (true, "559b06e263d15863621590265984a57e0c515cb79d047c62b706781e1f0bc726"), looks := true }, kinds := [], alts := [], goes := true, laidByText := true, laidKinds := [.data, .pinned], laidTests := true, laidLooks := .later }
def TopApartUptoCardSaid : Prop := Claim7.holds Tryz.pinned (.plain (OpenSpec.upto topApartSpec)) topApartUptoCard

/-- THE SECOND FORM's CARD OF 'brackentop.TopReplayed'. -/
def topReplayedUptoCard : Claim7 := { stood := { row := topReplayedUptoRow, standIns := [], harness := (true, "559b06e263d15863621590265984a57e0c515cb79d047c62b706781e1f0bc726"), looks := true }, kinds := [], alts := [], goes := true, laidByText := true, laidKinds := [.data, .pinned], laidTests := true, laidLooks := .later }
def TopReplayedUptoCardSaid : Prop := Claim7.holds Tryz.pinned (.plain (OpenSpec.upto topReplayedSpec)) topReplayedUptoCard

/-- THE SECOND FORM's CARD OF 'brackenlaw.JSONParses'. -/
def jSONParsesUptoCard : Claim7 := { stood := { row := jSONParsesUptoRow, standIns := [], harness := (true, "559b06e263d15863621590265984a57e0c515cb79d047c62b706781e1f0bc726"), looks := true }, kinds := [], alts := [], goes := true, laidByText := true, laidKinds := [.data, .data, .data, .data, .sentinel, .sentinel, .pinned], laidTests := true, laidLooks := .later }
def JSONParsesUptoCardSaid : Prop := Claim7.holds Tryz.pinned (.plain (OpenSpec.upto jSONParsesSpec)) jSONParsesUptoCard

/-- THE SECOND FORM's CARD OF 'brackenlaw.HubSends'. -/
def hubSendsUptoCard : Claim7 := { stood := { row := hubSendsUptoRow, standIns := [], harness := (true, "559b06e263d15863621590265984a57e0c515cb79d047c62b706781e1f0bc726"), looks := true }, kinds := [], alts := [], goes := true, laidByText := true, laidKinds := [.data, .pinned], laidTests := true, laidLooks := .later }
def HubSendsUptoCardSaid : Prop := Claim7.holds Tryz.pinned (.plain (OpenSpec.upto hubSendsSpec)) hubSendsUptoCard

/-- THE SECOND FORM's CARD OF 'brackenlaw.HubPlays'. -/
def hubPlaysUptoCard : Claim7 := { stood := { row := hubPlaysUptoRow, standIns := [], harness := (true, "559b06e263d15863621590265984a57e0c515cb79d047c62b706781e1f0bc726"), looks := true }, kinds := [], alts := [], goes := true, laidByText := true, laidKinds := [.data, .pinned], laidTests := true, laidLooks := .later }
def HubPlaysUptoCardSaid : Prop := Claim7.holds Tryz.pinned (.plain (OpenSpec.upto hubPlaysSpec)) hubPlaysUptoCard

/-- THE SECOND FORM's CARD OF 'brackenlaw.CrewAll'. -/
def crewAllUptoCard : Claim7 := { stood := { row := crewAllUptoRow, standIns := [], harness := (true, "559b06e263d15863621590265984a57e0c515cb79d047c62b706781e1f0bc726"), looks := true }, kinds := [], alts := [], goes := true, laidByText := true, laidKinds := [.data, .pinned], laidTests := true, laidLooks := .later }
def CrewAllUptoCardSaid : Prop := Claim7.holds Tryz.pinned (.plain (OpenSpec.upto crewAllSpec)) crewAllUptoCard

/-- THE SECOND FORM's CARD OF 'brackentop.TopWays'. -/
def topWaysUptoCard : Claim7 := { stood := { row := topWaysUptoRow, standIns := [], harness := (true, "559b06e263d15863621590265984a57e0c515cb79d047c62b706781e1f0bc726"), looks := true }, kinds := [], alts := [], goes := true, laidByText := true, laidKinds := [.data, .data, .data, .data, .sentinel, .sentinel, .pinned], laidTests := true, laidLooks := .later }
def TopWaysUptoCardSaid : Prop := Claim7.holds Tryz.pinned (.plain (OpenSpec.upto topWaysSpec)) topWaysUptoCard
end Rows
end Go.Proofs.YtoeejfhdjmkpcaaGreatDoor
