/- What Decode of a state says: plain. -/
import Derived.Test.YtonipllegfgdiaaDoorPlRx
namespace Go.Proofs.YtonipllegfgdiaaDoor
theorem repP_all {α : Type} {p : ByteArray → RR α} : ∀ {n : Nat} {s r : ByteArray} {l : List α}, repP p n s = .ok l r → l.length = n ∧ ∀ x ∈ l, ∃ s r, p s = .ok x r
  | 0, s, r, l, h => by
    unfold repP at h
    injection h with h1 h2
    subst h1
    exact ⟨rfl, fun x hx => by cases hx⟩
  | n + 1, s, r, l, h => by
    unfold repP at h
    cases hp : p s with
    | bad x => rw [hp] at h; cases h
    | ok a r1 =>
      rw [hp, RR.bind_ok] at h
      cases hq : repP p n r1 with
      | bad x => rw [hq] at h; cases h
      | ok l' r2 =>
        rw [hq, RR.bind_ok] at h
        injection h with h1 h2
        subst h1
        obtain ⟨i1, i2⟩ := repP_all hq
        refine ⟨by simp [i1], fun x hx => ?_⟩
        rcases List.mem_cons.1 hx with rfl | hx
        · exact ⟨_, _, hp⟩
        · exact i2 x hx
theorem takeP_all {α : Type} {p : ByteArray → RR α} {most : Nat} {s r : ByteArray} {l : List α} (h : takeP most p s = .ok l r) : l.length ≤ most ∧ ∀ x ∈ l, ∃ s r, p s = .ok x r := by
  unfold takeP manyP at h
  cases hn : numP s with
  | bad x => rw [hn] at h; cases h
  | ok n r1 =>
    rw [hn, RR.bind_ok] at h
    by_cases hb : most < n
    · rw [if_pos hb] at h; cases h
    · rw [if_neg hb, RR.bind_ok] at h
      obtain ⟨i1, i2⟩ := repP_all h
      exact ⟨by omega, i2⟩
theorem jobP_size {v : Int} {s r : ByteArray} {j : JobD} (h : jobP v s = .ok j r) : j.name.size ≤ 16 ∧ j.tag.size ≤ 16 := by
  unfold jobP at h
  cases h1 : textP s with
  | bad x => rw [h1] at h; cases h
  | ok a1 s1 =>
    rw [h1, RR.bind_ok] at h
    cases h2 : numP s1 with
    | bad x => rw [h2] at h; cases h
    | ok a2 s2 =>
      rw [h2, RR.bind_ok] at h
      cases h3 : numP s2 with
      | bad x => rw [h3] at h; cases h
      | ok a3 s3 =>
        rw [h3, RR.bind_ok] at h
        cases h4 : (if 1 < v then numP s3 else .ok 0 s3) with
        | bad x => rw [h4] at h; cases h
        | ok a4 s4 =>
          rw [h4, RR.bind_ok] at h
          cases h5 : (if 2 < v then textP s4 else .ok ⟨#[]⟩ s4) with
          | bad x => rw [h5] at h; cases h
          | ok a5 s5 =>
            rw [h5, RR.bind_ok] at h
            injection h with e1 e2
            subst e1
            refine ⟨textP_le h1, ?_⟩
            by_cases hv : 2 < v
            · rw [if_pos hv] at h5; exact textP_le h5
            · rw [if_neg hv] at h5; injection h5 with e3 e4; subst e3; show (0 : Nat) ≤ 16; omega
theorem nodeP_size {v : Int} {s r : ByteArray} {j : NodeD} (h : nodeP v s = .ok j r) : j.name.size ≤ 16 ∧ j.zone.size ≤ 16 := by
  unfold nodeP at h
  cases h1 : textP s with
  | bad x => rw [h1] at h; cases h
  | ok a1 s1 =>
    rw [h1, RR.bind_ok] at h
    cases h2 : numP s1 with
    | bad x => rw [h2] at h; cases h
    | ok a2 s2 =>
      rw [h2, RR.bind_ok] at h
      cases h5 : (if 1 < v then textP s2 else .ok ⟨#[]⟩ s2) with
      | bad x => rw [h5] at h; cases h
      | ok a5 s5 =>
        rw [h5, RR.bind_ok] at h
        injection h with e1 e2
        subst e1
        refine ⟨textP_le h1, ?_⟩
        by_cases hv : 1 < v
        · rw [if_pos hv] at h5; exact textP_le h5
        · rw [if_neg hv] at h5; injection h5 with e3 e4; subst e3; show (0 : Nat) ≤ 16; omega
theorem leaseP_size {s r : ByteArray} {j : LeaseD} (h : leaseP s = .ok j r) : j.job.size ≤ 16 ∧ j.node.size ≤ 16 := by
  unfold leaseP at h
  cases h1 : textP s with
  | bad x => rw [h1] at h; cases h
  | ok a1 s1 =>
    rw [h1, RR.bind_ok] at h
    cases h2 : textP s1 with
    | bad x => rw [h2] at h; cases h
    | ok a2 s2 =>
      rw [h2, RR.bind_ok] at h
      cases h3 : numP s2 with
      | bad x => rw [h3] at h; cases h
      | ok a3 s3 =>
        rw [h3, RR.bind_ok] at h
        injection h with e1 e2
        subst e1
        exact ⟨textP_le h1, textP_le h2⟩
def revP (v : Int) (s : ByteArray) : RR Nat := if 2 < v then numP s else .ok 0 s
def stP (v : Int) (s : ByteArray) : RR StateD :=
  (revP v s).bind fun rev s => (takeP 40 (jobP v) s).bind fun j s => (takeP 20 (nodeP v) s).bind fun n s => (takeP 40 leaseP s).bind fun l s => .ok ⟨rev, j, n, l⟩ s
def endP {α : Type} (x : RR α) : RR α := x.bind fun a s => if s.size = 0 then .ok a s else .bad 4
def zeroSt : StateD := ⟨0, [], [], []⟩
def decF (b : ByteArray) (v : Int) : StateD × Int := if v < 1 ∨ 3 < v then (zeroSt, 1) else match endP (stP v b) with
  | .bad e => (zeroSt, e)
  | .ok st _ => if checkE st = 0 then (st, 0) else (zeroSt, checkE st)
theorem decF_arg {b : ByteArray} {v : Int} (h : v < 1 ∨ 3 < v) : decF b v = (zeroSt, 1) := by unfold decF; rw [if_pos h]
theorem decF_bad {b : ByteArray} {v : Int} {e : Nat} (h : ¬ (v < 1 ∨ 3 < v)) (h2 : endP (stP v b) = .bad e) : decF b v = (zeroSt, (e : Int)) := by unfold decF; rw [if_neg h, h2]
theorem decF_check {b r : ByteArray} {v : Int} {st : StateD} (h : ¬ (v < 1 ∨ 3 < v)) (h2 : endP (stP v b) = .ok st r) (h3 : checkE st ≠ 0) : decF b v = (zeroSt, checkE st) := by unfold decF; rw [if_neg h, h2]; simp only; rw [if_neg h3]
theorem decF_ok {b r : ByteArray} {v : Int} {st : StateD} (h : ¬ (v < 1 ∨ 3 < v)) (h2 : endP (stP v b) = .ok st r) (h3 : checkE st = 0) : decF b v = (st, 0) := by unfold decF; rw [if_neg h, h2]; simp only; rw [if_pos h3]
theorem bad_eq {α β : Type} {x y : Nat} (h : (RR.bad x : RR α) = .bad y) : (RR.bad x : RR β) = .bad y := by injection h with e; rw [e]
/-- The four readings, one after another, told by the states of the reader. -/
theorem st_join {v : Int} {b : ByteArray} {r1 : RR Nat} {r2 : RR (List JobD)} {r3 : RR (List NodeD)} {r4 : RR (List LeaseD)}
    (e1 : r1 = revP v b) (e2 : r2 = r1.st.bind fun _ s => takeP 40 (jobP v) s) (e3 : r3 = r2.st.bind fun _ s => takeP 20 (nodeP v) s) (e4 : r4 = r3.st.bind fun _ s => takeP 40 leaseP s) :
    (∀ x, r4.st = .bad x → stP v b = .bad x) ∧ (∀ s, r4.st = .ok () s → ∃ rev j n l s1 s2 s3, r1 = .ok rev s1 ∧ (r2 = .ok j s2 ∧ takeP 40 (jobP v) s1 = .ok j s2) ∧ (r3 = .ok n s3 ∧ takeP 20 (nodeP v) s2 = .ok n s3) ∧ (r4 = .ok l s ∧ takeP 40 leaseP s3 = .ok l s) ∧ stP v b = .ok ⟨rev, j, n, l⟩ s) := by
  unfold stP
  rw [← e1]
  cases r1 with
  | bad x =>
    subst e2; subst e3; subst e4
    exact ⟨fun y hy => bad_eq hy, fun s hs => by cases hs⟩
  | ok rev s1 =>
    rw [RR.bind_ok]
    have e2' : r2 = takeP 40 (jobP v) s1 := e2
    rw [← e2']
    cases r2 with
    | bad x =>
      subst e3; subst e4
      exact ⟨fun y hy => bad_eq hy, fun s hs => by cases hs⟩
    | ok j s2 =>
      rw [RR.bind_ok]
      have e3' : r3 = takeP 20 (nodeP v) s2 := e3
      rw [← e3']
      cases r3 with
      | bad x =>
        subst e4
        exact ⟨fun y hy => bad_eq hy, fun s hs => by cases hs⟩
      | ok n s3 =>
        rw [RR.bind_ok]
        have e4' : r4 = takeP 40 leaseP s3 := e4
        rw [← e4']
        cases r4 with
        | bad x => exact ⟨fun y hy => bad_eq hy, fun s hs => by cases hs⟩
        | ok l s4 =>
          refine And.intro (fun y hy => by cases hy) (fun s hs => ?_)
          have hs : RR.ok () s4 = RR.ok () s := hs
          injection hs with _ h2
          subst h2
          exact ⟨rev, j, n, l, s1, s2, s3, rfl, ⟨rfl, e2'.symm⟩, ⟨rfl, e3'.symm⟩, ⟨rfl, e4'.symm⟩, rfl⟩
def endE (σ : RR Unit) : Nat := match σ with
  | .ok _ s => if s.size = 0 then 0 else 4
  | .bad x => x
theorem endE_ok0 {s : ByteArray} (h : s.size = 0) : endE (.ok () s) = 0 := by unfold endE; simp only; rw [if_pos h]
theorem endE_ok4 {s : ByteArray} (h : s.size ≠ 0) : endE (.ok () s) = 4 := by unfold endE; simp only; rw [if_neg h]
theorem isEmpty_no {s : ByteArray} (h : s.size ≠ 0) : s.toList.isEmpty = false := by
  have := beq_nil h
  cases hl : s.toList with
  | nil => rw [hl] at this; exact absurd this (by decide)
  | cons a l => rfl
end Go.Proofs.YtonipllegfgdiaaDoor
