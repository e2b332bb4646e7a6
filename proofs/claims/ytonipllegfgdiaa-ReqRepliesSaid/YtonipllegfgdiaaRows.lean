/-
  No cell of these rows narrows 'for every input' (looked for: loops, veiled, ifaces, maps, wideKeys, modest, calm, conditions, laid).
  DERIVED. THE GIVEN ROWS OF THIS SEAT. 4 by the template 'for every input the law returns true; each argument reads behind the call as it read before'; 0 by the template 'total and deterministic' (their statements: YtonipllegfgdiaaTotals.lean).
  GIVEN WITH THE SEED: the statements are not yours to turn. If you find one false, say at which input.
  Laid BY PROGRAM, IN A SANDBOX (cutbox-rows.mjs): the forced cells as the released guide's own fill.sh prints them over the translation 9178ff4fb45d84d7… (all of the seat's roots in one cut). By AI agents, Wed Nov 11 2026. No macro, syntax, notation, axiom, sorry.
-/
import Derived.Test.YtonipllegfgdiaaChecked
import GoSem.Claim
import GoSem.ClaimJoined
import GoSem.ClaimMapViews
import Derived.JoinedTies
import Derived.KernelRfl
namespace Go.Proofs.Ytonipllegfgdiaa
/- THE CELL 'sum', in the pinned program and in every row, IS THE sha256 OF THE DUMP (.gsa) THAT YtonipllegfgdiaaProg.lean LOADS. Nothing in Lean hashes anything: it is a label: what it is worth is what the hold of that sum in a sandbox is worth. -/
noncomputable def Try.pinned : Pinned := { name := "ytonipllegfgdiaa", sum := "9178ff4fb45d84d71d51571fe4421637f3ec06a169ecc68e79c6587c3b60f390", checked := Try.checked }
namespace Rows
def none {H : Type} : Left H := { results := [], args := [] }

/-- 'brackenlaw.ReqChecks': WHATEVER THE INPUT: true; the input reads as it did. -/
def reqChecksSpec : ChangeSpec := { name := "reqChecks", fn := fun _ => fun
  | [d] => { results := [.lit (.bool true)], args := [d] }
  | _ => none }
def reqChecksRow : OpenClaim := { program := "ytonipllegfgdiaa", sum := "9178ff4fb45d84d71d51571fe4421637f3ec06a169ecc68e79c6587c3b60f390", func := "bracken/brackenlaw.ReqChecks", spec := "reqChecks", unfollowed := true, recurses := true, apart := false }
def ReqChecksSaid : Prop := reqChecksRow.holds Try.pinned (OpenSpec.ofChange reqChecksSpec)

/-- ITS FALSE NEIGHBOUR: 'it returns false'. Refute it at one input. -/
def reqChecksWrong : ChangeSpec := { name := "reqChecks", fn := fun _ => fun
  | [d] => { results := [.lit (.bool false)], args := [d] }
  | _ => none }
def ReqChecksWrongFalsely : Prop := reqChecksRow.holds Try.pinned (OpenSpec.ofChange reqChecksWrong)

/-- 'brackenlaw.ReqReplies': WHATEVER THE INPUT: true; the input reads as it did. -/
def reqRepliesSpec : ChangeSpec := { name := "reqReplies", fn := fun _ => fun
  | [d1, d2] => { results := [.lit (.bool true)], args := [d1, d2] }
  | _ => none }
def reqRepliesRow : OpenClaim := { program := "ytonipllegfgdiaa", sum := "9178ff4fb45d84d71d51571fe4421637f3ec06a169ecc68e79c6587c3b60f390", func := "bracken/brackenlaw.ReqReplies", spec := "reqReplies", unfollowed := true, recurses := true, apart := false }
def ReqRepliesSaid : Prop := reqRepliesRow.holds Try.pinned (OpenSpec.ofChange reqRepliesSpec)

/-- ITS FALSE NEIGHBOUR: 'it returns false'. Refute it at one input. -/
def reqRepliesWrong : ChangeSpec := { name := "reqReplies", fn := fun _ => fun
  | [d1, d2] => { results := [.lit (.bool false)], args := [d1, d2] }
  | _ => none }
def ReqRepliesWrongFalsely : Prop := reqRepliesRow.holds Try.pinned (OpenSpec.ofChange reqRepliesWrong)

/-- 'brackenlaw.ReqEncodes': WHATEVER THE INPUT: true; the input reads as it did. -/
def reqEncodesSpec : ChangeSpec := { name := "reqEncodes", fn := fun _ => fun
  | [d] => { results := [.lit (.bool true)], args := [d] }
  | _ => none }
def reqEncodesRow : OpenClaim := { program := "ytonipllegfgdiaa", sum := "9178ff4fb45d84d71d51571fe4421637f3ec06a169ecc68e79c6587c3b60f390", func := "bracken/brackenlaw.ReqEncodes", spec := "reqEncodes", unfollowed := true, recurses := true, apart := false }
def ReqEncodesSaid : Prop := reqEncodesRow.holds Try.pinned (OpenSpec.ofChange reqEncodesSpec)

/-- ITS FALSE NEIGHBOUR: 'it returns false'. Refute it at one input. -/
def reqEncodesWrong : ChangeSpec := { name := "reqEncodes", fn := fun _ => fun
  | [d] => { results := [.lit (.bool false)], args := [d] }
  | _ => none }
def ReqEncodesWrongFalsely : Prop := reqEncodesRow.holds Try.pinned (OpenSpec.ofChange reqEncodesWrong)

/-- 'brackenlaw.ReqDecodes': WHATEVER THE INPUT: true; the input reads as it did. -/
def reqDecodesSpec : ChangeSpec := { name := "reqDecodes", fn := fun _ => fun
  | [d] => { results := [.lit (.bool true)], args := [d] }
  | _ => none }
def reqDecodesRow : OpenClaim := { program := "ytonipllegfgdiaa", sum := "9178ff4fb45d84d71d51571fe4421637f3ec06a169ecc68e79c6587c3b60f390", func := "bracken/brackenlaw.ReqDecodes", spec := "reqDecodes", unfollowed := true, recurses := true, apart := false }
def ReqDecodesSaid : Prop := reqDecodesRow.holds Try.pinned (OpenSpec.ofChange reqDecodesSpec)

/-- ITS FALSE NEIGHBOUR: 'it returns false'. Refute it at one input. -/
def reqDecodesWrong : ChangeSpec := { name := "reqDecodes", fn := fun _ => fun
  | [d] => { results := [.lit (.bool false)], args := [d] }
  | _ => none }
def ReqDecodesWrongFalsely : Prop := reqDecodesRow.holds Try.pinned (OpenSpec.ofChange reqDecodesWrong)

/- THE SECOND FORM. 'bulk': how many values and letters a reading holds, each counted each time it is reached (what is shared counts as often as it is met; a slice's spare places count too). A statement '..UptoSaid' is the law's where the arguments, and the package variables that the reading takes, are together of bulk at most 1048576: NARROWER than '..Said'. Prove '..Said' where nothing that the law and all that it calls make is longer than what came in: it says more and counts as full. Else prove '..UptoSaid'. A law counts once. -/
mutual
def uptoBulk {H : Type} : DataW H → Nat
  | .lit (.string bytes) => bytes.length + 1
  | .lit _ => 1
  | .nil => 1
  | .ptr d => uptoBulk d + 1
  | .slice elems spare => uptoBulkAll elems + uptoBulkAll spare + 1
  | .agg parts => uptoBulkAll parts + 1
  | .iface _ d => uptoBulk d + 1
  | .map entries => uptoBulkEntries entries + 1
  | .held _ => 1
def uptoBulkAll {H : Type} : List (DataW H) → Nat
  | [] => 0
  | d :: r => uptoBulk d + uptoBulkAll r
def uptoBulkEntries {H : Type} : List (Lit × DataW H) → Nat
  | [] => 0
  | x :: r => uptoBulkEntry x + uptoBulkEntries r
def uptoBulkEntry {H : Type} : Lit × DataW H → Nat
  | (.string bytes, d) => bytes.length + uptoBulk d + 1
  | (_, d) => uptoBulk d + 1
 end
def uptoSmall : (H : Type) → List (DataW H) → Bool := fun _ ds => decide (uptoBulkAll ds ≤ 1048576)
def OpenSpec.upto (s : _root_.Go.ChangeSpec) : _root_.Go.OpenSpec := { _root_.Go.OpenSpec.ofChange s with cond := some uptoSmall }

/-- 'brackenlaw.ReqChecks', WHERE WHAT IT READS IS OF BULK AT MOST 1048576: true; the input reads as it did. -/
def reqChecksUptoRow : OpenClaim := { program := "ytonipllegfgdiaa", sum := "9178ff4fb45d84d71d51571fe4421637f3ec06a169ecc68e79c6587c3b60f390", func := "bracken/brackenlaw.ReqChecks", spec := "reqChecks", unfollowed := true, recurses := true, apart := false, narrowed := true }
def ReqChecksUptoSaid : Prop := reqChecksUptoRow.holds Try.pinned (OpenSpec.upto reqChecksSpec)

/-- 'brackenlaw.ReqReplies', WHERE WHAT IT READS IS OF BULK AT MOST 1048576: true; the input reads as it did. -/
def reqRepliesUptoRow : OpenClaim := { program := "ytonipllegfgdiaa", sum := "9178ff4fb45d84d71d51571fe4421637f3ec06a169ecc68e79c6587c3b60f390", func := "bracken/brackenlaw.ReqReplies", spec := "reqReplies", unfollowed := true, recurses := true, apart := false, narrowed := true }
def ReqRepliesUptoSaid : Prop := reqRepliesUptoRow.holds Try.pinned (OpenSpec.upto reqRepliesSpec)

/-- 'brackenlaw.ReqEncodes', WHERE WHAT IT READS IS OF BULK AT MOST 1048576: true; the input reads as it did. -/
def reqEncodesUptoRow : OpenClaim := { program := "ytonipllegfgdiaa", sum := "9178ff4fb45d84d71d51571fe4421637f3ec06a169ecc68e79c6587c3b60f390", func := "bracken/brackenlaw.ReqEncodes", spec := "reqEncodes", unfollowed := true, recurses := true, apart := false, narrowed := true }
def ReqEncodesUptoSaid : Prop := reqEncodesUptoRow.holds Try.pinned (OpenSpec.upto reqEncodesSpec)

/-- 'brackenlaw.ReqDecodes', WHERE WHAT IT READS IS OF BULK AT MOST 1048576: true; the input reads as it did. -/
def reqDecodesUptoRow : OpenClaim := { program := "ytonipllegfgdiaa", sum := "9178ff4fb45d84d71d51571fe4421637f3ec06a169ecc68e79c6587c3b60f390", func := "bracken/brackenlaw.ReqDecodes", spec := "reqDecodes", unfollowed := true, recurses := true, apart := false, narrowed := true }
def ReqDecodesUptoSaid : Prop := reqDecodesUptoRow.holds Try.pinned (OpenSpec.upto reqDecodesSpec)

end Rows
end Go.Proofs.Ytonipllegfgdiaa
