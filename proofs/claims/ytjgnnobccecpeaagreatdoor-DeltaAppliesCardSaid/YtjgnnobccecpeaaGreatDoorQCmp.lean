/- Of the proof of a statement: Cmp. -/
import Derived.WalkLawsBesides
import Derived.Test.YtjgnnobccecpeaaGreatDoorQPlApply
set_option linter.unusedVariables false
set_option linter.unusedSimpArgs false
/- cmp.Compare at texts. -/
namespace Go.Proofs.YtjgnnobccecpeaaGreatDoor
open Go.RowKit
open Go.Op (bytesLess)
/-- What cmp.Compare says of two texts. -/
def cmpI (a b : ByteArray) : Int := if kless a b = true then -1 else if kless b a = true then 1 else 0
theorem cmpI_less {a b : ByteArray} (h : kless a b = true) : cmpI a b = -1 := by unfold cmpI; rw [if_pos h]
theorem cmpI_more {a b : ByteArray} (h : kless a b = false) (h2 : kless b a = true) : cmpI a b = 1 := by unfold cmpI; rw [if_neg (by simp [h]), if_pos h2]
theorem cmpI_same {a b : ByteArray} (h : kless a b = false) (h2 : kless b a = false) : cmpI a b = 0 := by unfold cmpI; rw [if_neg (by simp [h]), if_neg (by simp [h2])]
theorem cmpI_neg {a b : ByteArray} : cmpI a b < 0 ↔ kless a b = true := by
  unfold cmpI
  by_cases h : kless a b = true
  · simp [h]
  · by_cases h2 : kless b a = true <;> simp [h, h2]
set_option maxRecDepth 100000 in
theorem isNaN_any (a : ByteArray) (w : World) : Calls Tryz.prog 203 #[.string a] w fun e w' => e = .returned (.bool false) ∧ w = w' := by
  have h0 : (a.toList == a.toList) = true := beq_self_eq_true _
  have h1 : (a.toList != a.toList) = false := by simp
  go_enter Tryz.func203, Tryz.ntmps203
  go_wp2
  go_ret
  exact ⟨rfl, rfl⟩
set_option maxRecDepth 100000 in
theorem compare_any (a b : ByteArray) (w : World) : Calls Tryz.prog 137 #[.string a, .string b] w fun e w' => e = .returned (.int .i64 (cmpI a b)) ∧ w = w' := by
  cases h : kless a b with
  | true =>
    rw [cmpI_less h]
    have h' : bytesLess a.toList b.toList = true := h
    clear h
    go_enter Tryz.func137, Tryz.ntmps137
    go_wp2_with (go_at_call 203; refine (isNaN_any _ _).mono ?_; rintro e w' ⟨rfl, rfl⟩)
    go_ret
    exact ⟨rfl, rfl⟩
  | false =>
    cases h2 : kless b a with
    | true =>
      rw [cmpI_more h h2]
      have h' : bytesLess a.toList b.toList = false := h
      have h2' : bytesLess b.toList a.toList = true := h2
      have hq : (a.toList == b.toList) = false := beq_eq_false_iff_ne.2 fun e => by rw [e, less_irrefl] at h2'; cases h2'
      clear h h2
      go_enter Tryz.func137, Tryz.ntmps137
      go_wp2_with (go_at_call 203; refine (isNaN_any _ _).mono ?_; rintro e w' ⟨rfl, rfl⟩)
      go_ret
      exact ⟨rfl, rfl⟩
    | false =>
      rw [cmpI_same h h2]
      have h' : bytesLess a.toList b.toList = false := h
      have h2' : bytesLess b.toList a.toList = false := h2
      have hq : (a.toList == b.toList) = true := by
        have := less_total a.toList b.toList
        rw [h', h2'] at this
        rw [beq_iff_eq]
        exact (beq_iff_eq.1 (by simpa using this)).symm
      clear h h2
      go_enter Tryz.func137, Tryz.ntmps137
      go_wp2_with (go_at_call 203; refine (isNaN_any _ _).mono ?_; rintro e w' ⟨rfl, rfl⟩)
      go_ret
      exact ⟨rfl, rfl⟩
end Go.Proofs.YtjgnnobccecpeaaGreatDoor
