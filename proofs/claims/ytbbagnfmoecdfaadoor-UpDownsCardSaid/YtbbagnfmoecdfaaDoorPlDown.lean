/- What Down says: plain. -/
import Derived.Test.YtbbagnfmoecdfaaDoorUp
set_option linter.unusedVariables false
set_option linter.unusedSimpArgs false
namespace Go.Proofs.YtbbagnfmoecdfaaDoor
noncomputable def eqS {α : Type} (x y : α) : Bool := @decide (x = y) (Classical.propDecidable _)
theorem eqS_iff {α : Type} {x y : α} : eqS x y = true ↔ x = y := by unfold eqS; exact @decide_eq_true_iff _ (Classical.propDecidable _)
theorem eqS_of {α : Type} {x y : α} {t : Bool} (h : t = true ↔ x = y) : t = eqS x y := by
  cases t with
  | true => exact (eqS_iff.2 (h.1 rfl)).symm
  | false =>
    cases he : eqS x y with
    | false => rfl
    | true => exact absurd (h.2 (eqS_iff.1 he)) (by decide)
def downJ (c : Int) (j : JobD) : JobD := { j with tag := if c < 3 then ⟨#[]⟩ else j.tag, tries := if c < 2 then 0 else j.tries }
def downN (c : Int) (n : NodeD) : NodeD := { n with zone := if c < 2 then ⟨#[]⟩ else n.zone }
def downSt (st : StateD) (c : Int) : StateD := ⟨if c < 3 then 0 else st.rev, st.jobs.map (downJ c), st.nodes.map (downN c), st.leases⟩
/-- Is nothing lost? -/
noncomputable def keptB (st : StateD) (c : Int) : Bool := eqS (upSt (downSt st c) c 3) st
noncomputable def downF (st : StateD) (c : Int) : StateD × Bool × Int := if checkE st ≠ 0 then (zeroSt, false, checkE st) else if ranged c 1 3 = false then (zeroSt, false, 1) else (downSt st c, keptB st c, 0)
theorem downF_check {st : StateD} {c : Int} (h : checkE st ≠ 0) : downF st c = (zeroSt, false, checkE st) := by unfold downF; rw [if_pos h]
theorem downF_arg {st : StateD} {c : Int} (h : checkE st = 0) (h2 : ranged c 1 3 = false) : downF st c = (zeroSt, false, 1) := by unfold downF; rw [if_neg (by simp [h]), if_pos h2]
theorem downF_ok {st : StateD} {c : Int} (h : checkE st = 0) (h2 : ranged c 1 3 = true) : downF st c = (downSt st c, keptB st c, 0) := by unfold downF; rw [if_neg (by simp [h]), if_neg (by simp [h2])]
theorem downJ_1 (j : JobD) : downJ 1 j = { j with tag := ⟨#[]⟩, tries := 0 } := rfl
theorem downJ_2 (j : JobD) : downJ 2 j = { j with tag := ⟨#[]⟩ } := rfl
theorem downJ_3 (j : JobD) : downJ 3 j = j := rfl
theorem downN_1 (n : NodeD) : downN 1 n = { n with zone := ⟨#[]⟩ } := rfl
theorem downN_2 (n : NodeD) : downN 2 n = n := rfl
theorem downN_3 (n : NodeD) : downN 3 n = n := rfl
theorem down_tries {st : StateD} {c : Int} (h : c < 2) : ∀ j ∈ (downSt st c).jobs, j.tries = 0 := by
  intro j hj
  obtain ⟨x, _, rfl⟩ := List.mem_map.1 hj
  show (if c < 2 then 0 else x.tries) = 0
  rw [if_pos h]
/-- The three comparisons of the program. -/
theorem keptB_eq {st : StateD} {c : Int} {t1 t2 : Bool} (h1 : t1 = true ↔ (upSt (downSt st c) c 3).jobs = st.jobs) (h2 : t2 = true ↔ (upSt (downSt st c) c 3).nodes = st.nodes) :
    (decide ((upSt (downSt st c) c 3).rev = st.rev) && t1 && t2) = keptB st c := by
  unfold keptB
  refine eqS_of ⟨fun h => ?_, fun h => ?_⟩
  · simp only [Bool.and_eq_true, decide_eq_true_eq] at h
    have hl : (upSt (downSt st c) c 3).leases = st.leases := rfl
    generalize upSt (downSt st c) c 3 = u at h h1 h2 hl
    obtain ⟨a, b, d, e⟩ := u
    obtain ⟨a', b', d', e'⟩ := st
    dsimp only at *
    rw [h.1.1, h1.1 h.1.2, h2.1 h.2, hl]
  · rw [decide_eq_true (by rw [h]), h1.2 (by rw [h]), h2.2 (by rw [h])]
    rfl
end Go.Proofs.YtbbagnfmoecdfaaDoor
