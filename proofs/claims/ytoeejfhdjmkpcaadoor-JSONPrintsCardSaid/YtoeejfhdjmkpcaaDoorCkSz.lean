/- How many rows a state that may be has. -/
import Derived.Test.YtoeejfhdjmkpcaaDoorStAt
set_option linter.unusedVariables false
set_option linter.unusedSimpArgs false
namespace Go.Proofs.YtoeejfhdjmkpcaaDoor
open Go.RowKit
theorem ck_sizes {st : StateD} (h : checkE st = 0) : st.jobs.length ≤ 40 ∧ st.nodes.length ≤ 20 ∧ st.leases.length ≤ 40 := by
  have hz : sizesOk st = true := by
    cases hr : ranged st.rev 0 1099511627776 with
    | false => rw [ck_rev hr] at h; exact absurd h (by decide)
    | true =>
      cases hs : sizesOk st with
      | true => rfl
      | false => rw [ck_large hr hs] at h; exact absurd h (by decide)
  unfold sizesOk at hz
  simp at hz
  omega
theorem StAt.upE {w w' : World} {st : StateD} {x : StA} (hS : StAt w w.heap.size st x) (hb : Below w.heap.size w w') : StAt w' w'.heap.size st x := (hS.below hb).more hb.size
end Go.Proofs.YtoeejfhdjmkpcaaDoor
