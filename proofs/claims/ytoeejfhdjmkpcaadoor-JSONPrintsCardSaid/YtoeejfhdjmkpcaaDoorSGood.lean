/- What a state that may be is. -/
import Derived.Test.YtoeejfhdjmkpcaaDoorCkSz
import Derived.Test.YtoeejfhdjmkpcaaDoorPlGood
set_option linter.unusedVariables false
set_option linter.unusedSimpArgs false
namespace Go.Proofs.YtoeejfhdjmkpcaaDoor
/-- What a state that may be is. -/
structure SGood (st : StateD) : Prop where
  r0 : 0 ≤ st.rev
  r1 : st.rev ≤ 1099511627776
  nj : st.jobs.length ≤ 40
  nn : st.nodes.length ≤ 20
  nl : st.leases.length ≤ 40
  ej : rowsE jobE JobD.name st.jobs = 0
  en : rowsE nodeE NodeD.name st.nodes = 0
  el : rowsE (leaseE st) LeaseD.job st.leases = 0
theorem sgood {st : StateD} (h : checkE st = 0) : SGood st := by
  have hz := ck_sizes h
  have hr : ranged st.rev 0 1099511627776 = true := by
    cases hr : ranged st.rev 0 1099511627776 with
    | true => rfl
    | false => rw [ck_rev hr] at h; exact absurd h (by decide)
  have hs : sizesOk st = true := by
    cases hs : sizesOk st with
    | true => rfl
    | false => rw [ck_large hr hs] at h; exact absurd h (by decide)
  have hj : rowsE jobE JobD.name st.jobs = 0 := by
    by_cases hj : rowsE jobE JobD.name st.jobs = 0
    · exact hj
    · rw [ck_jobs hr hs hj] at h; exact absurd h hj
  have hn : rowsE nodeE NodeD.name st.nodes = 0 := by
    by_cases hn : rowsE nodeE NodeD.name st.nodes = 0
    · exact hn
    · rw [ck_nodes hr hs hj hn] at h; exact absurd h hn
  have hl : rowsE (leaseE st) LeaseD.job st.leases = 0 := by
    by_cases hl : rowsE (leaseE st) LeaseD.job st.leases = 0
    · exact hl
    · rw [ck_rest hr hs hj hn, if_pos hl] at h; exact absurd h hl
  have := ranged_iff.1 hr
  exact ⟨this.1, this.2, hz.1, hz.2.1, hz.2.2, hj, hn, hl⟩
theorem SGood.job {st : StateD} (h : SGood st) {x : JobD} (hx : x ∈ st.jobs) : x.name.size ≤ 16 ∧ x.tag.size ≤ 16 ∧ (-1000 ≤ x.prio ∧ x.prio ≤ 1000) ∧ (0 ≤ x.need ∧ x.need ≤ 1000000) ∧ (0 ≤ x.tries ∧ x.tries ≤ 100) := by
  obtain ⟨h1, h2, h3⟩ := jobE_zero (rows_zero h.ej hx)
  exact ⟨nameOk_size h1, txtOk_size h2, h3⟩
theorem SGood.node {st : StateD} (h : SGood st) {x : NodeD} (hx : x ∈ st.nodes) : x.name.size ≤ 16 ∧ x.zone.size ≤ 16 ∧ (0 ≤ x.room ∧ x.room ≤ 1000000) := by
  obtain ⟨h1, h2, h3⟩ := nodeE_zero (rows_zero h.en hx)
  exact ⟨nameOk_size h1, txtOk_size h2, h3⟩
theorem SGood.lease {st : StateD} (h : SGood st) {l : LeaseD} (hl : l ∈ st.leases) : l.job.size ≤ 16 ∧ l.node.size ≤ 16 ∧ (0 ≤ l.till ∧ l.till ≤ 1099511627776) := by
  have he := rows_zero h.el hl
  unfold leaseE at he
  split at he
  · rename_i h1
    split at he
    · rename_i h2
      have hr := ranged_iff.1 h2
      simp only [Bool.and_eq_true] at h1
      obtain ⟨j, hj⟩ := Option.isSome_iff_exists.1 h1.1
      obtain ⟨n, hn⟩ := Option.isSome_iff_exists.1 h1.2
      have hjm := List.mem_of_find?_eq_some hj
      have hnm := List.mem_of_find?_eq_some hn
      have hje : j.name = l.job := by simpa using List.find?_some hj
      have hne : n.name = l.node := by simpa using List.find?_some hn
      have h3 := nameOk_size (jobE_zero (rows_zero h.ej hjm)).1
      have h4 := nameOk_size (nodeE_zero (rows_zero h.en hnm)).1
      rw [hje] at h3
      rw [hne] at h4
      exact ⟨h3, h4, hr⟩
    · exact absurd he (by decide)
  · exact absurd he (by decide)
end Go.Proofs.YtoeejfhdjmkpcaaDoor
