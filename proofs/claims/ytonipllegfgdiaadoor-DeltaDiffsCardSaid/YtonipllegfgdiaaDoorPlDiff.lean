/- What Diff of two states says: plain. -/
import Derived.Test.YtonipllegfgdiaaDoorHas
import Derived.Test.YtonipllegfgdiaaDoorBase
import Derived.Test.YtonipllegfgdiaaDoorAt
set_option linter.unusedVariables false
set_option linter.unusedSimpArgs false
namespace Go.Proofs.YtonipllegfgdiaaDoor
/-- Rows that are new, or other ones. -/
noncomputable def newL {α : Type} (a b : List α) : List α := b.filter fun x => !a.any (eqB x)
/-- Names that are gone. -/
def goneL {α : Type} (key : α → ByteArray) (a b : List α) : List ByteArray := (a.filter fun x => !b.any fun y => decide (key y = key x)).map key
noncomputable def betweenD (a b : StateD) : DeltaD := ⟨a.rev, b.rev, newL a.jobs b.jobs, newL a.nodes b.nodes, newL a.leases b.leases, goneL JobD.name a.jobs b.jobs, goneL NodeD.name a.nodes b.nodes, goneL LeaseD.job a.leases b.leases⟩
noncomputable def diffF (a b : StateD) : DeltaD × Int := if checkE a ≠ 0 then (zeroDe, checkE a) else if checkE b ≠ 0 then (zeroDe, checkE b) else if b.rev ≤ a.rev then (zeroDe, 1) else (betweenD a b, 0)
theorem diffF_a {a b : StateD} (h : checkE a ≠ 0) : diffF a b = (zeroDe, checkE a) := by unfold diffF; rw [if_pos h]
theorem diffF_b {a b : StateD} (h : checkE a = 0) (h2 : checkE b ≠ 0) : diffF a b = (zeroDe, checkE b) := by unfold diffF; rw [if_neg (by simp [h]), if_pos h2]
theorem diffF_old {a b : StateD} (h : checkE a = 0) (h2 : checkE b = 0) (h3 : b.rev ≤ a.rev) : diffF a b = (zeroDe, 1) := by unfold diffF; rw [if_neg (by simp [h]), if_neg (by simp [h2]), if_pos h3]
theorem diffF_ok {a b : StateD} (h : checkE a = 0) (h2 : checkE b = 0) (h3 : ¬ b.rev ≤ a.rev) : diffF a b = (betweenD a b, 0) := by unfold diffF; rw [if_neg (by simp [h]), if_neg (by simp [h2]), if_neg h3]
section
variable {α : Type} {p : α → Bool} {l : List α} {k : Nat} {x : α}
theorem filter_yes (h : l[k]? = some x) (hp : p x = true) : (l.take (k + 1)).filter p = (l.take k).filter p ++ [x] := by
  rw [List.take_add_one, h, List.filter_append]; simp [hp]
theorem filter_no (h : l[k]? = some x) (hp : p x = false) : (l.take (k + 1)).filter p = (l.take k).filter p := by
  rw [List.take_add_one, h, List.filter_append]; simp [hp]
theorem filter_len (p : α → Bool) (l : List α) (k : Nat) : ((l.take k).filter p).length ≤ k := Nat.le_trans (List.length_filter_le _ _) (by rw [List.length_take]; omega)
theorem filter_all (p : α → Bool) {l : List α} {k : Nat} (h : l.length ≤ k) : (l.take k).filter p = l.filter p := by rw [List.take_of_length_le h]
end
theorem newL_len {α : Type} (a b : List α) : (newL a b).length ≤ b.length := List.length_filter_le _ _
theorem goneL_len {α : Type} (key : α → ByteArray) (a b : List α) : (goneL key a b).length ≤ a.length := by unfold goneL; rw [List.length_map]; exact List.length_filter_le _ _
end Go.Proofs.YtonipllegfgdiaaDoor
