/- What Bytes of package up says: plain. -/
import Derived.Test.YtbbagnfmoecdfaaGreatDoorEnc
import Derived.Test.YtbbagnfmoecdfaaGreatDoorWDec
set_option linter.unusedVariables false
set_option linter.unusedSimpArgs false
namespace Go.Proofs.YtbbagnfmoecdfaaGreatDoor
open Go.RowKit
def upbF (b : ByteArray) (a c : Int) : ByteArray × Int := if isWayB a c = false then (⟨#[]⟩, 1) else if (decF b a).2 ≠ 0 then (⟨#[]⟩, (decF b a).2) else wencF (upSt (decF b a).1 a c) c
theorem upbF_way {b : ByteArray} {a c : Int} (h : isWayB a c = false) : upbF b a c = (⟨#[]⟩, 1) := by unfold upbF; rw [if_pos h]
theorem upbF_bad {b : ByteArray} {a c E : Int} {st : StateD} (h : isWayB a c = true) (h2 : decF b a = (st, E)) (h3 : E ≠ 0) : upbF b a c = (⟨#[]⟩, E) := by unfold upbF; rw [if_neg (by simp [h]), h2, if_pos h3]
theorem upbF_ok {b : ByteArray} {a c : Int} {st : StateD} (h : isWayB a c = true) (h2 : decF b a = (st, 0)) : upbF b a c = wencF (upSt st a c) c := by unfold upbF; rw [if_neg (by simp [h]), h2, if_neg (by simp)]
theorem jobP_tries {v : Int} {s r : ByteArray} {j : JobD} (h : jobP v s = .ok j r) (hv : v < 2) : j.tries = 0 := by
  unfold jobP at h
  cases h1 : textP s with
  | bad x => rw [h1] at h; cases h
  | ok a1 s1 =>
    rw [h1, RR.bind_ok] at h
    cases h2 : numP s1 with
    | bad x => rw [h2] at h; cases h
    | ok a2 s2 =>
      rw [h2, RR.bind_ok] at h
      cases h3 : numP s2 with
      | bad x => rw [h3] at h; cases h
      | ok a3 s3 =>
        rw [h3, RR.bind_ok, if_neg (by omega), RR.bind_ok] at h
        cases h5 : (if 2 < v then textP s3 else .ok ⟨#[]⟩ s3) with
        | bad x => rw [h5] at h; cases h
        | ok a5 s5 =>
          rw [h5, RR.bind_ok] at h
          injection h with e1 e2
          subst e1
          rfl
theorem endP_ok {α : Type} {x : RR α} {a : α} {r : ByteArray} (h : endP x = .ok a r) : x = .ok a r := by
  unfold endP at h
  cases x with
  | bad e => cases h
  | ok a' r' =>
    rw [RR.bind_ok] at h
    split at h
    · exact h
    · cases h
theorem stP_tries {v : Int} {b r : ByteArray} {st : StateD} (h : stP v b = .ok st r) (hv : v < 2) : ∀ j ∈ st.jobs, j.tries = 0 := by
  unfold stP at h
  cases h1 : revP v b with
  | bad x => rw [h1] at h; cases h
  | ok rev s1 =>
    rw [h1, RR.bind_ok] at h
    cases h2 : takeP 40 (jobP v) s1 with
    | bad x => rw [h2] at h; cases h
    | ok j s2 =>
      rw [h2, RR.bind_ok] at h
      cases h3 : takeP 20 (nodeP v) s2 with
      | bad x => rw [h3] at h; cases h
      | ok n s3 =>
        rw [h3, RR.bind_ok] at h
        cases h4 : takeP 40 leaseP s3 with
        | bad x => rw [h4] at h; cases h
        | ok l s4 =>
          rw [h4, RR.bind_ok] at h
          injection h with e1 e2
          subst e1
          intro x hx
          obtain ⟨_, _, h⟩ := (takeP_all h2).2 x hx
          exact jobP_tries h hv
theorem decF_good {b : ByteArray} {v : Int} {st : StateD} (h : decF b v = (st, 0)) : checkE st = 0 ∧ (v < 2 → ∀ j ∈ st.jobs, j.tries = 0) := by
  by_cases hv : v < 1 ∨ 3 < v
  · rw [decF_arg hv] at h
    have := (Prod.mk.inj h).2
    exact absurd this (by decide)
  · cases he : endP (stP v b) with
    | bad e =>
      rw [decF_bad hv he] at h
      obtain ⟨rfl, _⟩ := Prod.mk.inj h
      exact ⟨by decide, fun _ j hj => by cases hj⟩
    | ok st' r =>
      by_cases hc : checkE st' = 0
      · rw [decF_ok hv he hc] at h
        obtain ⟨rfl, _⟩ := Prod.mk.inj h
        exact ⟨hc, fun h2 => stP_tries (endP_ok he) h2⟩
      · rw [decF_check hv he hc] at h
        exact absurd (Prod.mk.inj h).2 hc
def UBPost (b : ByteArray) (a c : Int) (w : World) (e : Ending) (w' : World) : Prop := e = .returned (.tuple #[.string (upbF b a c).1, .int .i64 (upbF b a c).2]) ∧ Below w.heap.size w w'
theorem UBPost.mk' {b s : ByteArray} {a c E : Int} {w w' : World} (h : upbF b a c = (s, E)) (hb : Below w.heap.size w w') : UBPost b a c w (.returned (.tuple #[.string s, .int .i64 E])) w' := ⟨by rw [h], hb⟩
end Go.Proofs.YtbbagnfmoecdfaaGreatDoor
