/- What a state is brought up to: plain. -/
import Derived.Test.YtonipllegfgdiaaDoorBase
import Derived.Test.YtonipllegfgdiaaDoorFits
set_option linter.unusedVariables false
set_option linter.unusedSimpArgs false
namespace Go.Proofs.YtonipllegfgdiaaDoor
def dash : ByteArray := ⟨#[45]⟩
def upJ (ls : List LeaseD) (j : JobD) : JobD := { j with tries := if ls.any (fun l => decide (l.job = j.name)) then 1 else 0 }
def upN (n : NodeD) : NodeD := { n with zone := dash }
/-- The step to a version. -/
def stepSt (st : StateD) (v : Int) : StateD := if v = 2 then ⟨st.rev, st.jobs.map (upJ st.leases), st.nodes.map upN, st.leases⟩ else if v = 3 then { st with rev := 1 } else st
def upSt (st : StateD) (a b : Int) : StateD := ⟨if a < 3 ∧ b = 3 then 1 else st.rev, if a < 2 ∧ 1 < b then st.jobs.map (upJ st.leases) else st.jobs, if a < 2 ∧ 1 < b then st.nodes.map upN else st.nodes, st.leases⟩
def isWayB (a b : Int) : Bool := decide (1 ≤ a) && decide (a ≤ b) && decide (b ≤ 3)
/-- What State answers. -/
def upF (st : StateD) (a b : Int) : StateD × Int := if isWayB a b = false then (zeroSt, 1) else if checkE st ≠ 0 then (zeroSt, checkE st) else if fitsE st a = false then (zeroSt, 4) else (upSt st a b, 0)
theorem upSt_self {st : StateD} {a : Int} (h : a ≤ 3) : upSt st a a = st := by
  unfold upSt
  rw [if_neg (by omega), if_neg (by omega), if_neg (by omega)]
/-- One step more. -/
theorem upSt_step {st : StateD} {a v : Int} (ha : 1 ≤ a) (h : a < v) (hv : v ≤ 3) : stepSt (upSt st a (v - 1)) v = upSt st a v := by
  rcases (show v = 2 ∨ v = 3 by omega) with rfl | rfl
  · obtain rfl : a = 1 := by omega
    unfold stepSt
    rw [if_pos rfl]
    rfl
  · unfold stepSt
    rw [if_neg (by decide), if_pos rfl]
    unfold upSt
    by_cases h2 : a < 2
    · simp [h2, show a < 3 by omega]
    · simp [h2, show a < 3 by omega]
theorem upF_way {st : StateD} {a b : Int} (h : isWayB a b = false) : upF st a b = (zeroSt, 1) := by unfold upF; rw [if_pos h]
theorem upF_check {st : StateD} {a b : Int} (h : isWayB a b = true) (h2 : checkE st ≠ 0) : upF st a b = (zeroSt, checkE st) := by unfold upF; rw [if_neg (by rw [h]; simp), if_pos h2]
theorem upF_form {st : StateD} {a b : Int} (h : isWayB a b = true) (h2 : checkE st = 0) (h3 : fitsE st a = false) : upF st a b = (zeroSt, 4) := by unfold upF; rw [if_neg (by rw [h]; simp), if_neg (by simp [h2]), if_pos h3]
theorem upF_ok {st : StateD} {a b : Int} (h : isWayB a b = true) (h2 : checkE st = 0) (h3 : fitsE st a = true) : upF st a b = (upSt st a b, 0) := by unfold upF; rw [if_neg (by rw [h]; simp), if_neg (by simp [h2]), if_neg (by rw [h3]; simp)]
theorem fits_tries {st : StateD} (h : fitsE st 1 = true) : ∀ j ∈ st.jobs, j.tries = 0 := by
  intro j hj
  unfold fitsE at h
  simp only [Bool.and_eq_true] at h
  have := List.all_eq_true.1 h.1.2 j hj
  unfold okJ at this
  simp at this
  exact this.2
end Go.Proofs.YtonipllegfgdiaaDoor
