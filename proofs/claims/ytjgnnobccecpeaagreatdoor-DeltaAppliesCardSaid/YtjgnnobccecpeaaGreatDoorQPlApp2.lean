/- Of the proof of a statement: PlApp2. -/
import Derived.Test.YtjgnnobccecpeaaGreatDoorQPlChg
set_option linter.unusedVariables false
set_option linter.unusedSimpArgs false
/- What Apply says, case by case: plain. -/
namespace Go.Proofs.YtjgnnobccecpeaaGreatDoor
open Go.Op (bytesLess)
section
variable {α : Type} {key : α → ByteArray}
theorem rows_sorted {E : α → Int} {l : List α} (h : rowsE E key l = 0) : KSorted key l := (rows_all none l h).2
theorem mem_apply {rows set : List α} {gone : List ByteArray} {z : α} (h : z ∈ applyL key rows set gone) : z ∈ rows ∨ z ∈ set := by
  unfold applyL at h
  have gen : ∀ (set l : List α), z ∈ set.foldl (putK key) l → z ∈ l ∨ z ∈ set := by
    intro set
    induction set with
    | nil => intro l h; exact .inl h
    | cons s set ih =>
      intro l h
      rw [List.foldl_cons] at h
      rcases ih _ h with h1 | h1
      · unfold putK at h1
        rcases (mem_putFrom s z l false).1 h1 with h2 | h2
        · exact .inr (by rw [h2.2]; exact List.mem_cons_self)
        · exact .inl h2.1
      · exact .inr (List.mem_cons_of_mem _ h1)
  rcases gen _ _ h with h1 | h1
  · exact .inl (List.mem_filter.1 h1).1
  · exact .inr h1
end
theorem gone_apart {has : ByteArray → Bool} : ∀ (p : Option ByteArray) (l : List ByteArray), goneFrom has p l = 0 → (∀ x ∈ l, before p x = true) ∧ l.Pairwise fun a b => bytesLess a.toList b.toList = true
  | _, [], _ => ⟨by simp, List.Pairwise.nil⟩
  | p, s :: l, h => by
    rw [goneFrom] at h
    by_cases h1 : nameOk s = true
    · rw [if_pos h1] at h
      by_cases h2 : before p s = true
      · rw [if_pos h2] at h
        by_cases h3 : has s = true
        · rw [if_pos h3] at h; omega
        · rw [if_neg h3] at h
          obtain ⟨i1, i2⟩ := gone_apart (some s) l h
          refine ⟨fun y hy => ?_, List.pairwise_cons.2 ⟨fun y hy => i1 y hy, i2⟩⟩
          rcases List.mem_cons.1 hy with rfl | hy
          · exact h2
          · have h4 := i1 y hy
            unfold before at h2 h4 ⊢
            cases p with
            | none => rfl
            | some q => exact less_trans _ _ _ h2 h4
      · rw [if_neg h2] at h; omega
    · rw [if_neg h1] at h; omega
theorem gone_ne {has : ByteArray → Bool} {l : List ByteArray} (h : goneE has l = 0) : l.Pairwise fun a b => a ≠ b :=
  (gone_apart none l h).2.imp fun {a b} hlt e => by rw [e, less_irrefl] at hlt; cases hlt
theorem firstE_all : ∀ {l : List Int}, firstE l = 0 → ∀ e ∈ l, e = 0
  | [], _, e, he => by cases he
  | a :: l, h, e, he => by
    unfold firstE at h
    split at h
    · rename_i h0
      rcases List.mem_cons.1 he with rfl | he
      · exact h0
      · exact firstE_all h e he
    · rename_i h0; exact absurd h h0
/-- What is known of a state that may be and a delta that may be. -/
structure ApKnow (s : StateD) (d : DeltaD) : Prop where
  sj : KSorted JobD.name s.jobs
  sn : KSorted NodeD.name s.nodes
  sl : KSorted LeaseD.job s.leases
  dj : KSorted JobD.name d.jobs
  dn : KSorted NodeD.name d.nodes
  dl : KSorted LeaseD.job d.leases
  gj : d.gj.Pairwise fun a b => a ≠ b
  gn : d.gn.Pairwise fun a b => a ≠ b
  gl : d.gl.Pairwise fun a b => a ≠ b
  nsj : s.jobs.length ≤ 40
  nsn : s.nodes.length ≤ 20
  nsl : s.leases.length ≤ 40
  ndj : d.jobs.length ≤ 40
  ndn : d.nodes.length ≤ 20
  ndl : d.leases.length ≤ 40
  ngj : d.gj.length ≤ 40
  ngn : d.gn.length ≤ 20
  ngl : d.gl.length ≤ 40
theorem check_parts {s : StateD} (h : checkE s = 0) : sizesOk s = true ∧ rowsE jobE JobD.name s.jobs = 0 ∧ rowsE nodeE NodeD.name s.nodes = 0 ∧ rowsE (leaseE s) LeaseD.job s.leases = 0 := by
  unfold checkE at h
  split at h
  · omega
  · split at h
    · omega
    · rename_i h2
      split at h
      · rename_i h3; exact absurd h h3
      · rename_i h3
        split at h
        · rename_i h4; exact absurd h h4
        · rename_i h4
          split at h
          · rename_i h5; exact absurd h h5
          · rename_i h5
            exact ⟨by simpa using h2, by simpa using h3, by simpa using h4, by simpa using h5⟩
theorem apKnow {s : StateD} {d : DeltaD} (h1 : checkE s = 0) (h2 : deltaE d = 0) : ApKnow s d := by
  obtain ⟨a1, a2, a3, a4⟩ := check_parts h1
  unfold sizesOk at a1
  simp only [Bool.and_eq_true, decide_eq_true_eq] at a1
  unfold deltaE at h2
  split at h2
  · omega
  · split at h2
    · omega
    · rename_i h3
      have h3' : dSizes d = true := by simpa using h3
      unfold dSizes at h3'
      simp only [Bool.and_eq_true, decide_eq_true_eq] at h3'
      have hr := firstE_all h2
      unfold dRows at hr
      simp only [List.mem_cons, List.not_mem_nil, or_false, forall_eq_or_imp, forall_eq] at hr
      obtain ⟨r1, r2, r3, r4, r5, r6⟩ := hr
      exact ⟨rows_sorted a2, rows_sorted a3, rows_sorted a4, rows_sorted r1, rows_sorted r2, rows_sorted r3, gone_ne r4, gone_ne r5, gone_ne r6, by omega, by omega, by omega, by omega, by omega, by omega, by omega, by omega, by omega⟩
section
variable {s : StateD} {d : DeltaD}
theorem ap_check (h : checkE s ≠ 0) : applyF s d = (zeroSt, checkE s) := by unfold applyF; rw [if_pos h]
theorem ap_delta (h : checkE s = 0) (h2 : deltaE d ≠ 0) : applyF s d = (zeroSt, deltaE d) := by unfold applyF; rw [if_neg (by simp [h]), if_pos h2]
theorem ap_old (h : checkE s = 0) (h2 : deltaE d = 0) (h3 : d.from_ ≠ s.rev) : applyF s d = (zeroSt, 10) := by unfold applyF; rw [if_neg (by simp [h]), if_neg (by simp [h2]), if_pos h3]
theorem ap_none (h : checkE s = 0) (h2 : deltaE d = 0) (h3 : d.from_ = s.rev) (h4 : (missingL JobD.name s.jobs d.gj || missingL NodeD.name s.nodes d.gn || missingL LeaseD.job s.leases d.gl) = true) : applyF s d = (zeroSt, 6) := by
  unfold applyF; rw [if_neg (by simp [h]), if_neg (by simp [h2]), if_neg (by simp [h3]), if_pos h4]
theorem ap_bad (h : checkE s = 0) (h2 : deltaE d = 0) (h3 : d.from_ = s.rev) (h4 : missingL JobD.name s.jobs d.gj = false) (h5 : missingL NodeD.name s.nodes d.gn = false) (h6 : missingL LeaseD.job s.leases d.gl = false) (h7 : checkE (applyS s d) ≠ 0) :
    applyF s d = (zeroSt, checkE (applyS s d)) := by
  unfold applyF; rw [if_neg (by simp [h]), if_neg (by simp [h2]), if_neg (by simp [h3]), if_neg (by simp [h4, h5, h6]), if_pos h7]
theorem ap_ok (h : checkE s = 0) (h2 : deltaE d = 0) (h3 : d.from_ = s.rev) (h4 : missingL JobD.name s.jobs d.gj = false) (h5 : missingL NodeD.name s.nodes d.gn = false) (h6 : missingL LeaseD.job s.leases d.gl = false) (h7 : checkE (applyS s d) = 0) :
    applyF s d = (applyS s d, 0) := by
  unfold applyF; rw [if_neg (by simp [h]), if_neg (by simp [h2]), if_neg (by simp [h3]), if_neg (by simp [h4, h5, h6]), if_neg (by simp [h7])]
end
end Go.Proofs.YtjgnnobccecpeaaGreatDoor
