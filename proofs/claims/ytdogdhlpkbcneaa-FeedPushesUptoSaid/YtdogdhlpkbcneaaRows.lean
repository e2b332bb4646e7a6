/-
  No cell of these rows narrows 'for every input' (looked for: loops, veiled, ifaces, maps, wideKeys, modest, calm, conditions, laid).
  DERIVED. THE GIVEN ROWS OF THIS SEAT. 9 by the template 'for every input the law returns true; each argument reads behind the call as it read before'; 0 by the template 'total and deterministic' (their statements: YtdogdhlpkbcneaaTotals.lean).
  GIVEN WITH THE SEED: the statements are not yours to turn. If you find one false, say at which input.
  Laid BY PROGRAM, IN A SANDBOX (cutbox-rows.mjs): the forced cells as the released guide's own fill.sh prints them over the translation a491022e98e8fecb… (all of the seat's roots in one cut). By AI agents, Wed Nov 11 2026. No macro, syntax, notation, axiom, sorry.
-/
import Derived.Test.YtdogdhlpkbcneaaChecked
import GoSem.Claim
import GoSem.ClaimJoined
import GoSem.ClaimMapViews
import Derived.JoinedTies
import Derived.KernelRfl
namespace Go.Proofs.Ytdogdhlpkbcneaa
/- THE CELL 'sum', in the pinned program and in every row, IS THE sha256 OF THE DUMP (.gsa) THAT YtdogdhlpkbcneaaProg.lean LOADS. Nothing in Lean hashes anything: it is a label: what it is worth is what the hold of that sum in a sandbox is worth. -/
noncomputable def Try.pinned : Pinned := { name := "ytdogdhlpkbcneaa", sum := "a491022e98e8fecbed794435d38c8fa8cd62e69f97dc621a4c448b8ae8078d65", checked := Try.checked }
namespace Rows
def none {H : Type} : Left H := { results := [], args := [] }

/-- 'brackenlaw.Names': WHATEVER THE INPUT: true; the input reads as it did. -/
def namesSpec : ChangeSpec := { name := "names", fn := fun _ => fun
  | [] => { results := [.lit (.bool true)], args := [] }
  | _ => none }
def namesRow : OpenClaim := { program := "ytdogdhlpkbcneaa", sum := "a491022e98e8fecbed794435d38c8fa8cd62e69f97dc621a4c448b8ae8078d65", func := "bracken/brackenlaw.Names", spec := "names", apart := false }
def NamesSaid : Prop := namesRow.holds Try.pinned (OpenSpec.ofChange namesSpec)

/-- ITS FALSE NEIGHBOUR: 'it returns false'. Refute it at one input. -/
def namesWrong : ChangeSpec := { name := "names", fn := fun _ => fun
  | [] => { results := [.lit (.bool false)], args := [] }
  | _ => none }
def NamesWrongFalsely : Prop := namesRow.holds Try.pinned (OpenSpec.ofChange namesWrong)

/-- 'brackenlaw.PrimZigs': WHATEVER THE INPUT: true; the input reads as it did. -/
def primZigsSpec : ChangeSpec := { name := "primZigs", fn := fun _ => fun
  | [d1, d2] => { results := [.lit (.bool true)], args := [d1, d2] }
  | _ => none }
def primZigsRow : OpenClaim := { program := "ytdogdhlpkbcneaa", sum := "a491022e98e8fecbed794435d38c8fa8cd62e69f97dc621a4c448b8ae8078d65", func := "bracken/brackenlaw.PrimZigs", spec := "primZigs", apart := false }
def PrimZigsSaid : Prop := primZigsRow.holds Try.pinned (OpenSpec.ofChange primZigsSpec)

/-- ITS FALSE NEIGHBOUR: 'it returns false'. Refute it at one input. -/
def primZigsWrong : ChangeSpec := { name := "primZigs", fn := fun _ => fun
  | [d1, d2] => { results := [.lit (.bool false)], args := [d1, d2] }
  | _ => none }
def PrimZigsWrongFalsely : Prop := primZigsRow.holds Try.pinned (OpenSpec.ofChange primZigsWrong)

/-- 'brackenlaw.PrimNumbers': WHATEVER THE INPUT: true; the input reads as it did. -/
def primNumbersSpec : ChangeSpec := { name := "primNumbers", fn := fun _ => fun
  | [d] => { results := [.lit (.bool true)], args := [d] }
  | _ => none }
def primNumbersRow : OpenClaim := { program := "ytdogdhlpkbcneaa", sum := "a491022e98e8fecbed794435d38c8fa8cd62e69f97dc621a4c448b8ae8078d65", func := "bracken/brackenlaw.PrimNumbers", spec := "primNumbers", recurses := true, apart := false }
def PrimNumbersSaid : Prop := primNumbersRow.holds Try.pinned (OpenSpec.ofChange primNumbersSpec)

/-- ITS FALSE NEIGHBOUR: 'it returns false'. Refute it at one input. -/
def primNumbersWrong : ChangeSpec := { name := "primNumbers", fn := fun _ => fun
  | [d] => { results := [.lit (.bool false)], args := [d] }
  | _ => none }
def PrimNumbersWrongFalsely : Prop := primNumbersRow.holds Try.pinned (OpenSpec.ofChange primNumbersWrong)

/-- 'brackenlaw.JSONQuotes': WHATEVER THE INPUT: true; the input reads as it did. -/
def jSONQuotesSpec : ChangeSpec := { name := "jSONQuotes", fn := fun _ => fun
  | [d] => { results := [.lit (.bool true)], args := [d] }
  | _ => none }
def jSONQuotesRow : OpenClaim := { program := "ytdogdhlpkbcneaa", sum := "a491022e98e8fecbed794435d38c8fa8cd62e69f97dc621a4c448b8ae8078d65", func := "bracken/brackenlaw.JSONQuotes", spec := "jSONQuotes", apart := false }
def JSONQuotesSaid : Prop := jSONQuotesRow.holds Try.pinned (OpenSpec.ofChange jSONQuotesSpec)

/-- ITS FALSE NEIGHBOUR: 'it returns false'. Refute it at one input. -/
def jSONQuotesWrong : ChangeSpec := { name := "jSONQuotes", fn := fun _ => fun
  | [d] => { results := [.lit (.bool false)], args := [d] }
  | _ => none }
def JSONQuotesWrongFalsely : Prop := jSONQuotesRow.holds Try.pinned (OpenSpec.ofChange jSONQuotesWrong)

/-- 'brackenlaw.PrimReads': WHATEVER THE INPUT: true; the input reads as it did. -/
def primReadsSpec : ChangeSpec := { name := "primReads", fn := fun _ => fun
  | [d] => { results := [.lit (.bool true)], args := [d] }
  | _ => none }
def primReadsRow : OpenClaim := { program := "ytdogdhlpkbcneaa", sum := "a491022e98e8fecbed794435d38c8fa8cd62e69f97dc621a4c448b8ae8078d65", func := "bracken/brackenlaw.PrimReads", spec := "primReads", apart := false }
def PrimReadsSaid : Prop := primReadsRow.holds Try.pinned (OpenSpec.ofChange primReadsSpec)

/-- ITS FALSE NEIGHBOUR: 'it returns false'. Refute it at one input. -/
def primReadsWrong : ChangeSpec := { name := "primReads", fn := fun _ => fun
  | [d] => { results := [.lit (.bool false)], args := [d] }
  | _ => none }
def PrimReadsWrongFalsely : Prop := primReadsRow.holds Try.pinned (OpenSpec.ofChange primReadsWrong)

/-- 'brackenlaw.PrimSums': WHATEVER THE INPUT: true; the input reads as it did. -/
def primSumsSpec : ChangeSpec := { name := "primSums", fn := fun _ => fun
  | [d] => { results := [.lit (.bool true)], args := [d] }
  | _ => none }
def primSumsRow : OpenClaim := { program := "ytdogdhlpkbcneaa", sum := "a491022e98e8fecbed794435d38c8fa8cd62e69f97dc621a4c448b8ae8078d65", func := "bracken/brackenlaw.PrimSums", spec := "primSums", apart := false }
def PrimSumsSaid : Prop := primSumsRow.holds Try.pinned (OpenSpec.ofChange primSumsSpec)

/-- ITS FALSE NEIGHBOUR: 'it returns false'. Refute it at one input. -/
def primSumsWrong : ChangeSpec := { name := "primSums", fn := fun _ => fun
  | [d] => { results := [.lit (.bool false)], args := [d] }
  | _ => none }
def PrimSumsWrongFalsely : Prop := primSumsRow.holds Try.pinned (OpenSpec.ofChange primSumsWrong)

/-- 'brackenlaw.FrameEncodes': WHATEVER THE INPUT: true; the input reads as it did. -/
def frameEncodesSpec : ChangeSpec := { name := "frameEncodes", fn := fun _ => fun
  | [d] => { results := [.lit (.bool true)], args := [d] }
  | _ => none }
def frameEncodesRow : OpenClaim := { program := "ytdogdhlpkbcneaa", sum := "a491022e98e8fecbed794435d38c8fa8cd62e69f97dc621a4c448b8ae8078d65", func := "bracken/brackenlaw.FrameEncodes", spec := "frameEncodes", recurses := true, apart := false }
def FrameEncodesSaid : Prop := frameEncodesRow.holds Try.pinned (OpenSpec.ofChange frameEncodesSpec)

/-- ITS FALSE NEIGHBOUR: 'it returns false'. Refute it at one input. -/
def frameEncodesWrong : ChangeSpec := { name := "frameEncodes", fn := fun _ => fun
  | [d] => { results := [.lit (.bool false)], args := [d] }
  | _ => none }
def FrameEncodesWrongFalsely : Prop := frameEncodesRow.holds Try.pinned (OpenSpec.ofChange frameEncodesWrong)

/-- 'brackenlaw.FrameDecodes': WHATEVER THE INPUT: true; the input reads as it did. -/
def frameDecodesSpec : ChangeSpec := { name := "frameDecodes", fn := fun _ => fun
  | [d] => { results := [.lit (.bool true)], args := [d] }
  | _ => none }
def frameDecodesRow : OpenClaim := { program := "ytdogdhlpkbcneaa", sum := "a491022e98e8fecbed794435d38c8fa8cd62e69f97dc621a4c448b8ae8078d65", func := "bracken/brackenlaw.FrameDecodes", spec := "frameDecodes", unfollowed := true, recurses := true, apart := false }
def FrameDecodesSaid : Prop := frameDecodesRow.holds Try.pinned (OpenSpec.ofChange frameDecodesSpec)

/-- ITS FALSE NEIGHBOUR: 'it returns false'. Refute it at one input. -/
def frameDecodesWrong : ChangeSpec := { name := "frameDecodes", fn := fun _ => fun
  | [d] => { results := [.lit (.bool false)], args := [d] }
  | _ => none }
def FrameDecodesWrongFalsely : Prop := frameDecodesRow.holds Try.pinned (OpenSpec.ofChange frameDecodesWrong)

/-- 'brackenlaw.FeedPushes': WHATEVER THE INPUT: true; the input reads as it did. -/
def feedPushesSpec : ChangeSpec := { name := "feedPushes", fn := fun _ => fun
  | [d] => { results := [.lit (.bool true)], args := [d] }
  | _ => none }
def feedPushesRow : OpenClaim := { program := "ytdogdhlpkbcneaa", sum := "a491022e98e8fecbed794435d38c8fa8cd62e69f97dc621a4c448b8ae8078d65", func := "bracken/brackenlaw.FeedPushes", spec := "feedPushes", unfollowed := true, recurses := true, apart := false }
def FeedPushesSaid : Prop := feedPushesRow.holds Try.pinned (OpenSpec.ofChange feedPushesSpec)

/-- ITS FALSE NEIGHBOUR: 'it returns false'. Refute it at one input. -/
def feedPushesWrong : ChangeSpec := { name := "feedPushes", fn := fun _ => fun
  | [d] => { results := [.lit (.bool false)], args := [d] }
  | _ => none }
def FeedPushesWrongFalsely : Prop := feedPushesRow.holds Try.pinned (OpenSpec.ofChange feedPushesWrong)

/- THE SECOND FORM. 'bulk': how many values and letters a reading holds, each counted each time it is reached (what is shared counts as often as it is met; a slice's spare places count too). A statement '..UptoSaid' is the law's where the arguments, and the package variables that the reading takes, are together of bulk at most 1048576: NARROWER than '..Said'. Prove '..Said' where nothing that the law and all that it calls make is longer than what came in: it says more and counts as full. Else prove '..UptoSaid'. A law counts once. -/
mutual
def uptoBulk {H : Type} : DataW H → Nat
  | .lit (.string bytes) => bytes.length + 1
  | .lit _ => 1
  | .nil => 1
  | .ptr d => uptoBulk d + 1
  | .slice elems spare => uptoBulkAll elems + uptoBulkAll spare + 1
  | .agg parts => uptoBulkAll parts + 1
  | .iface _ d => uptoBulk d + 1
  | .map entries => uptoBulkEntries entries + 1
  | .held _ => 1
def uptoBulkAll {H : Type} : List (DataW H) → Nat
  | [] => 0
  | d :: r => uptoBulk d + uptoBulkAll r
def uptoBulkEntries {H : Type} : List (Lit × DataW H) → Nat
  | [] => 0
  | x :: r => uptoBulkEntry x + uptoBulkEntries r
def uptoBulkEntry {H : Type} : Lit × DataW H → Nat
  | (.string bytes, d) => bytes.length + uptoBulk d + 1
  | (_, d) => uptoBulk d + 1
 end
def uptoSmall : (H : Type) → List (DataW H) → Bool := fun _ ds => decide (uptoBulkAll ds ≤ 1048576)
def OpenSpec.upto (s : _root_.Go.ChangeSpec) : _root_.Go.OpenSpec := { _root_.Go.OpenSpec.ofChange s with cond := some uptoSmall }

/-- 'brackenlaw.Names', WHERE WHAT IT READS IS OF BULK AT MOST 1048576: true; the input reads as it did. -/
def namesUptoRow : OpenClaim := { program := "ytdogdhlpkbcneaa", sum := "a491022e98e8fecbed794435d38c8fa8cd62e69f97dc621a4c448b8ae8078d65", func := "bracken/brackenlaw.Names", spec := "names", apart := false, narrowed := true }
def NamesUptoSaid : Prop := namesUptoRow.holds Try.pinned (OpenSpec.upto namesSpec)

/-- 'brackenlaw.PrimZigs', WHERE WHAT IT READS IS OF BULK AT MOST 1048576: true; the input reads as it did. -/
def primZigsUptoRow : OpenClaim := { program := "ytdogdhlpkbcneaa", sum := "a491022e98e8fecbed794435d38c8fa8cd62e69f97dc621a4c448b8ae8078d65", func := "bracken/brackenlaw.PrimZigs", spec := "primZigs", apart := false, narrowed := true }
def PrimZigsUptoSaid : Prop := primZigsUptoRow.holds Try.pinned (OpenSpec.upto primZigsSpec)

/-- 'brackenlaw.PrimNumbers', WHERE WHAT IT READS IS OF BULK AT MOST 1048576: true; the input reads as it did. -/
def primNumbersUptoRow : OpenClaim := { program := "ytdogdhlpkbcneaa", sum := "a491022e98e8fecbed794435d38c8fa8cd62e69f97dc621a4c448b8ae8078d65", func := "bracken/brackenlaw.PrimNumbers", spec := "primNumbers", recurses := true, apart := false, narrowed := true }
def PrimNumbersUptoSaid : Prop := primNumbersUptoRow.holds Try.pinned (OpenSpec.upto primNumbersSpec)

/-- 'brackenlaw.JSONQuotes', WHERE WHAT IT READS IS OF BULK AT MOST 1048576: true; the input reads as it did. -/
def jSONQuotesUptoRow : OpenClaim := { program := "ytdogdhlpkbcneaa", sum := "a491022e98e8fecbed794435d38c8fa8cd62e69f97dc621a4c448b8ae8078d65", func := "bracken/brackenlaw.JSONQuotes", spec := "jSONQuotes", apart := false, narrowed := true }
def JSONQuotesUptoSaid : Prop := jSONQuotesUptoRow.holds Try.pinned (OpenSpec.upto jSONQuotesSpec)

/-- 'brackenlaw.PrimReads', WHERE WHAT IT READS IS OF BULK AT MOST 1048576: true; the input reads as it did. -/
def primReadsUptoRow : OpenClaim := { program := "ytdogdhlpkbcneaa", sum := "a491022e98e8fecbed794435d38c8fa8cd62e69f97dc621a4c448b8ae8078d65", func := "bracken/brackenlaw.PrimReads", spec := "primReads", apart := false, narrowed := true }
def PrimReadsUptoSaid : Prop := primReadsUptoRow.holds Try.pinned (OpenSpec.upto primReadsSpec)

/-- 'brackenlaw.PrimSums', WHERE WHAT IT READS IS OF BULK AT MOST 1048576: true; the input reads as it did. -/
def primSumsUptoRow : OpenClaim := { program := "ytdogdhlpkbcneaa", sum := "a491022e98e8fecbed794435d38c8fa8cd62e69f97dc621a4c448b8ae8078d65", func := "bracken/brackenlaw.PrimSums", spec := "primSums", apart := false, narrowed := true }
def PrimSumsUptoSaid : Prop := primSumsUptoRow.holds Try.pinned (OpenSpec.upto primSumsSpec)

/-- 'brackenlaw.FrameEncodes', WHERE WHAT IT READS IS OF BULK AT MOST 1048576: true; the input reads as it did. -/
def frameEncodesUptoRow : OpenClaim := { program := "ytdogdhlpkbcneaa", sum := "a491022e98e8fecbed794435d38c8fa8cd62e69f97dc621a4c448b8ae8078d65", func := "bracken/brackenlaw.FrameEncodes", spec := "frameEncodes", recurses := true, apart := false, narrowed := true }
def FrameEncodesUptoSaid : Prop := frameEncodesUptoRow.holds Try.pinned (OpenSpec.upto frameEncodesSpec)

/-- 'brackenlaw.FrameDecodes', WHERE WHAT IT READS IS OF BULK AT MOST 1048576: true; the input reads as it did. -/
def frameDecodesUptoRow : OpenClaim := { program := "ytdogdhlpkbcneaa", sum := "a491022e98e8fecbed794435d38c8fa8cd62e69f97dc621a4c448b8ae8078d65", func := "bracken/brackenlaw.FrameDecodes", spec := "frameDecodes", unfollowed := true, recurses := true, apart := false, narrowed := true }
def FrameDecodesUptoSaid : Prop := frameDecodesUptoRow.holds Try.pinned (OpenSpec.upto frameDecodesSpec)

/-- 'brackenlaw.FeedPushes', WHERE WHAT IT READS IS OF BULK AT MOST 1048576: true; the input reads as it did. -/
def feedPushesUptoRow : OpenClaim := { program := "ytdogdhlpkbcneaa", sum := "a491022e98e8fecbed794435d38c8fa8cd62e69f97dc621a4c448b8ae8078d65", func := "bracken/brackenlaw.FeedPushes", spec := "feedPushes", unfollowed := true, recurses := true, apart := false, narrowed := true }
def FeedPushesUptoSaid : Prop := feedPushesUptoRow.holds Try.pinned (OpenSpec.upto feedPushesSpec)

end Rows
end Go.Proofs.Ytdogdhlpkbcneaa
