/- The walk of the reference's Up, whichever the versions. -/
import Derived.Test.YtbbagnfmoecdfaaDoorRUp
set_option linter.unusedVariables false
set_option linter.unusedSimpArgs false
namespace Go.Proofs.YtbbagnfmoecdfaaDoor
open Go.RowKit
theorem rup_any (st : StateD) (x : StA) (a b : Int) (w : World) (hS : StAt w w.heap.size st x) (h1 : x.nj ≤ 1000) (h2 : x.nn ≤ 1000) (h3 : x.nl ≤ 1000) (ha : 1 ≤ a) (hab : a ≤ b) (hb : b ≤ 3) :
    Calls Tryd.prog 51 #[.agg (stC st x), .int .i64 a, .int .i64 b] w (StepsPost (upSt st a b) x w) := by
  rcases (show (a = 1 ∧ b = 1) ∨ (a = 1 ∧ b = 2) ∨ (a = 1 ∧ b = 3) ∨ (a = 2 ∧ b = 2) ∨ (a = 2 ∧ b = 3) ∨ (a = 3 ∧ b = 3) by omega) with ⟨rfl, rfl⟩ | ⟨rfl, rfl⟩ | ⟨rfl, rfl⟩ | ⟨rfl, rfl⟩ | ⟨rfl, rfl⟩ | ⟨rfl, rfl⟩
  · exact rup_11 st x w hS h1 h2 h3
  · exact rup_12 st x w hS h1 h2 h3
  · exact rup_13 st x w hS h1 h2 h3
  · exact rup_22 st x w hS h1 h2 h3
  · exact rup_23 st x w hS h1 h2 h3
  · exact rup_33 st x w hS h1 h2 h3
theorem isWay_ranged (a b : Int) : isWayB a b = (ranged a 1 b && ranged b 1 3) := by
  unfold isWayB ranged
  by_cases h1 : 1 ≤ a <;> by_cases h2 : a ≤ b <;> by_cases h3 : b ≤ 3 <;> simp [h1, h2, h3] <;> omega
end Go.Proofs.YtbbagnfmoecdfaaDoor
