/- What a check that says yes gives: plain. -/
import Derived.Test.YtoeejfhdjmkpcaaDoorBase
set_option linter.unusedVariables false
set_option linter.unusedSimpArgs false
namespace Go.Proofs.YtoeejfhdjmkpcaaDoor
theorem nameOk_size {s : ByteArray} (h : nameOk s = true) : s.size ≤ 16 := by
  by_cases hs : s.size ≤ 16
  · exact hs
  · unfold nameOk at h; rw [txtOk_long hs] at h; simp at h
theorem txtOk_size {s : ByteArray} (h : txtOk s = true) : s.size ≤ 16 := by
  by_cases hs : s.size ≤ 16
  · exact hs
  · rw [txtOk_long hs] at h; simp at h
theorem jobE_zero {j : JobD} (h : jobE j = 0) : nameOk j.name = true ∧ txtOk j.tag = true ∧ (-1000 ≤ j.prio ∧ j.prio ≤ 1000) ∧ (0 ≤ j.need ∧ j.need ≤ 1000000) ∧ (0 ≤ j.tries ∧ j.tries ≤ 100) := by
  unfold jobE at h
  by_cases h1 : (nameOk j.name && txtOk j.tag) = true
  · rw [if_pos h1] at h
    by_cases h2 : (ranged j.prio (-1000) 1000 && ranged j.need 0 1000000 && ranged j.tries 0 100) = true
    · simp only [Bool.and_eq_true] at h1 h2
      exact ⟨h1.1, h1.2, ranged_iff.1 h2.1.1, ranged_iff.1 h2.1.2, ranged_iff.1 h2.2⟩
    · rw [if_neg h2] at h; exact absurd h (by decide)
  · rw [if_neg h1] at h; exact absurd h (by decide)
theorem nodeE_zero {n : NodeD} (h : nodeE n = 0) : nameOk n.name = true ∧ txtOk n.zone = true ∧ (0 ≤ n.room ∧ n.room ≤ 1000000) := by
  unfold nodeE at h
  by_cases h1 : (nameOk n.name && txtOk n.zone) = true
  · rw [if_pos h1] at h
    by_cases h2 : ranged n.room 0 1000000 = true
    · simp only [Bool.and_eq_true] at h1
      exact ⟨h1.1, h1.2, ranged_iff.1 h2⟩
    · rw [if_neg h2] at h; exact absurd h (by decide)
  · rw [if_neg h1] at h; exact absurd h (by decide)
theorem lsE_zero {l : LeaseD} (h : lsE l = 0) : nameOk l.job = true ∧ nameOk l.node = true ∧ (0 ≤ l.till ∧ l.till ≤ 1099511627776) := by
  unfold lsE at h
  by_cases h1 : (nameOk l.job && nameOk l.node) = true
  · rw [if_pos h1] at h
    by_cases h2 : ranged l.till 0 1099511627776 = true
    · simp only [Bool.and_eq_true] at h1
      exact ⟨h1.1, h1.2, ranged_iff.1 h2⟩
    · rw [if_neg h2] at h; exact absurd h (by decide)
  · rw [if_neg h1] at h; exact absurd h (by decide)
end Go.Proofs.YtoeejfhdjmkpcaaDoor
