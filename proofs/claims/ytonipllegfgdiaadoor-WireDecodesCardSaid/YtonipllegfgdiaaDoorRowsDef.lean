/- What the loops over rows hold. -/
import Derived.Test.YtonipllegfgdiaaDoorPlRows
import Derived.Test.YtonipllegfgdiaaDoorMem
namespace Go.Proofs.YtonipllegfgdiaaDoor
open Go.RowKit
def JobsOk (xs : List JobD) : Prop := ∀ x ∈ xs, x.name.size ≤ 9223372036854775807 ∧ x.tag.size ≤ 9223372036854775807
def JobInv (xs : List JobD) (n : Nat) (R : Int) (w : World) (i : Value) (wr : World) : Prop := ∃ k : Nat, k ≤ n ∧ i = .int .i64 k ∧ rowsFrom jobE JobD.name (prevK JobD.name xs k) (xs.drop k) = R ∧ Below w.heap.size w wr
def NodesOk (xs : List NodeD) : Prop := ∀ x ∈ xs, x.name.size ≤ 9223372036854775807 ∧ x.zone.size ≤ 9223372036854775807
def NodeInv (xs : List NodeD) (n : Nat) (R : Int) (w : World) (i : Value) (wr : World) : Prop := ∃ k : Nat, k ≤ n ∧ i = .int .i64 k ∧ rowsFrom nodeE NodeD.name (prevK NodeD.name xs k) (xs.drop k) = R ∧ Below w.heap.size w wr
end Go.Proofs.YtonipllegfgdiaaDoor
