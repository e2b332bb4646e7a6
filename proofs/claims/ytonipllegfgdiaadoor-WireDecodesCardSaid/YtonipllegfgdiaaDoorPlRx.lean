/- What a reader of bytes gives: plain. -/
import Derived.Test.YtonipllegfgdiaaDoorPlRdF
import Derived.Test.YtonipllegfgdiaaDoorPlTextR
import Derived.Test.YtonipllegfgdiaaDoorPlSt
import Derived.Test.YtonipllegfgdiaaDoorZig
namespace Go.Proofs.YtonipllegfgdiaaDoor
inductive RR (α : Type) where
  | ok (a : α) (r : ByteArray)
  | bad (e : Nat)
def RR.bind {α β : Type} (x : RR α) (f : α → ByteArray → RR β) : RR β := match x with
  | .ok a r => f a r
  | .bad e => .bad e
theorem RR.bind_ok {α β : Type} (a : α) (r : ByteArray) (f : α → ByteArray → RR β) : (RR.ok a r).bind f = f a r := rfl
theorem RR.bind_bad {α β : Type} (e : Nat) (f : α → ByteArray → RR β) : (RR.bad e : RR α).bind f = .bad e := rfl
def RR.st {α : Type} (x : RR α) : RR Unit := x.bind fun _ r => .ok () r
/-- Never the error 0, never a text that is too long. -/
def RR.Good {α : Type} (N : Nat) (x : RR α) : Prop := match x with
  | .ok _ r => r.size ≤ N
  | .bad e => e ≠ 0 ∧ e ≤ 10
theorem RR.Good.bind {α β : Type} {N : Nat} {x : RR α} {f : α → ByteArray → RR β} (h : x.Good N) (hf : ∀ a r, r.size ≤ N → (f a r).Good N) : (x.bind f).Good N := by
  cases x with
  | ok a r => exact hf a r h
  | bad e => exact h
theorem RR.Good.st {α : Type} {N : Nat} {x : RR α} (h : x.Good N) : x.st.Good N := h.bind fun _ _ hr => hr
def numP (s : ByteArray) : RR Nat := if (rdNum s).2.2 = 0 then (if 4611686018427387904 < (rdNum s).1 then .bad 2 else .ok (rdNum s).1 (s.extract (rdNum s).2.1 s.size)) else .bad (rdNum s).2.2
def textP (s : ByteArray) : RR ByteArray := if (txtR s).2.2 = 0 then .ok (txtR s).1 (s.extract (txtR s).2.1 s.size) else .bad (txtR s).2.2
theorem numP_ok {s : ByteArray} {a k : Nat} (h : rdNum s = (a, k, 0)) (hl : ¬ 4611686018427387904 < a) : numP s = .ok a (s.extract k s.size) := by unfold numP; rw [h]; simp only; rw [if_pos trivial, if_neg hl]
theorem numP_large {s : ByteArray} {a k : Nat} (h : rdNum s = (a, k, 0)) (hl : 4611686018427387904 < a) : numP s = .bad 2 := by unfold numP; rw [h]; simp only; rw [if_pos trivial, if_pos hl]
theorem numP_bad {s : ByteArray} {a k e : Nat} (h : rdNum s = (a, k, e)) (he : e ≠ 0) : numP s = .bad e := by unfold numP; rw [h]; simp only; rw [if_neg he]
theorem textP_ok {s t : ByteArray} {k : Nat} (h : txtR s = (t, k, 0)) : textP s = .ok t (s.extract k s.size) := by unfold textP; rw [h]; simp only; rw [if_pos trivial]
theorem textP_bad {s t : ByteArray} {k e : Nat} (h : txtR s = (t, k, e)) (he : e ≠ 0) : textP s = .bad e := by unfold textP; rw [h]; simp only; rw [if_neg he]
theorem extract_small {s : ByteArray} {k N : Nat} (h : s.size ≤ N) : (s.extract k s.size).size ≤ N := by
  rw [ByteArray.size_extract]; omega
theorem numP_good {s : ByteArray} {N : Nat} (h : s.size ≤ N) : (numP s).Good N := by
  rcases hr : rdNum s with ⟨a, k, e⟩
  have hf := rdNum_facts hr
  by_cases he : e = 0
  · subst he
    by_cases hl : 4611686018427387904 < a
    · rw [numP_large hr hl]; exact ⟨by decide, by decide⟩
    · rw [numP_ok hr hl]; exact extract_small h
  · rw [numP_bad hr he]; exact ⟨he, by omega⟩
theorem numP_le {s r : ByteArray} {a : Nat} (h : numP s = .ok a r) : a ≤ 4611686018427387904 := by
  unfold numP at h
  split at h
  · split at h
    · cases h
    · injection h with h1 h2; omega
  · cases h
theorem txtR_facts {s t : ByteArray} {k e : Nat} (h : txtR s = (t, k, e)) : e ≤ 10 ∧ t.size ≤ 16 ∧ (e = 0 → k ≤ s.size) := by
  rcases hr : rdNum s with ⟨a, n, e'⟩
  have hf := rdNum_facts hr
  by_cases he : e' = 0
  · subst he
    by_cases h1 : 16 < a
    · rw [txtR_large hr h1] at h; injection h with h2 h3; injection h3 with h4 h5; subst h2; subst h5
      exact ⟨by omega, by decide, fun hh => absurd hh (by decide)⟩
    · by_cases h2 : s.size < n + a
      · rw [txtR_short hr h1 h2] at h; injection h with h2 h3; injection h3 with h4 h5; subst h2; subst h5
        exact ⟨by omega, by decide, fun hh => absurd hh (by decide)⟩
      · cases hv : Lib.validD (s.extract n (n + a)).data.toList
        · rw [txtR_form hr h1 h2 hv] at h; injection h with h2 h3; injection h3 with h4 h5; subst h2; subst h5
          exact ⟨by omega, by decide, fun hh => absurd hh (by decide)⟩
        · rw [txtR_ok hr h1 h2 hv] at h; injection h with h2' h3; injection h3 with h4 h5; subst h2'; subst h5; subst h4
          exact ⟨by omega, by rw [ByteArray.size_extract]; omega, fun _ => by omega⟩
  · rw [txtR_num hr he] at h; injection h with h2 h3; injection h3 with h4 h5; subst h2; subst h5
    exact ⟨by omega, by decide, fun hh => absurd hh he⟩
theorem textP_good {s : ByteArray} {N : Nat} (h : s.size ≤ N) : (textP s).Good N := by
  rcases hr : txtR s with ⟨a, k, e⟩
  have hf := txtR_facts hr
  by_cases he : e = 0
  · subst he
    rw [textP_ok hr]; exact extract_small h
  · rw [textP_bad hr he]; exact ⟨he, hf.1⟩
theorem textP_le {s t r : ByteArray} (h : textP s = .ok t r) : t.size ≤ 16 := by
  rcases hr : txtR s with ⟨a, k, e⟩
  have hf := txtR_facts hr
  by_cases he : e = 0
  · subst he
    rw [textP_ok hr] at h; injection h with h1 h2; subst h1; exact hf.2.1
  · rw [textP_bad hr he] at h; cases h
/-- What a reader's method hands back: the value read; Z, where an error stands. -/
def RxVal {α : Type} (res : RR α) (Z : α → Prop) (a : α) : Prop := match res with
  | .ok b _ => a = b
  | .bad _ => Z a
def jobP (v : Int) (s : ByteArray) : RR JobD :=
  (textP s).bind fun name s => (numP s).bind fun p s => (numP s).bind fun need s =>
    (if 1 < v then numP s else .ok 0 s).bind fun tries s => (if 2 < v then textP s else .ok ⟨#[]⟩ s).bind fun tag s => .ok ⟨name, zagZ p, need, tries, tag⟩ s
def nodeP (v : Int) (s : ByteArray) : RR NodeD :=
  (textP s).bind fun name s => (numP s).bind fun room s => (if 1 < v then textP s else .ok ⟨#[]⟩ s).bind fun zone s => .ok ⟨name, room, zone⟩ s
def leaseP (s : ByteArray) : RR LeaseD := (textP s).bind fun job s => (textP s).bind fun node s => (numP s).bind fun till s => .ok ⟨job, node, till⟩ s
def repP {α : Type} (p : ByteArray → RR α) : Nat → ByteArray → RR (List α)
  | 0, s => .ok [] s
  | n + 1, s => (p s).bind fun a s => (repP p n s).bind fun l s => .ok (a :: l) s
def manyP (most : Nat) (s : ByteArray) : RR Nat := (numP s).bind fun n s => if most < n then .bad 2 else .ok n s
def takeP {α : Type} (most : Nat) (p : ByteArray → RR α) (s : ByteArray) : RR (List α) := (manyP most s).bind fun n s => repP p n s
theorem jobP_good {v : Int} {s : ByteArray} {N : Nat} (h : s.size ≤ N) : (jobP v s).Good N := by
  unfold jobP
  refine (textP_good h).bind fun _ r hr => (numP_good hr).bind fun _ r hr => (numP_good hr).bind fun _ r hr => RR.Good.bind ?_ fun _ r hr => RR.Good.bind ?_ fun _ r hr => hr
  · split
    · exact numP_good hr
    · exact hr
  · split
    · exact textP_good hr
    · exact hr
theorem nodeP_good {v : Int} {s : ByteArray} {N : Nat} (h : s.size ≤ N) : (nodeP v s).Good N := by
  unfold nodeP
  refine (textP_good h).bind fun _ r hr => (numP_good hr).bind fun _ r hr => RR.Good.bind ?_ fun _ r hr => hr
  split
  · exact textP_good hr
  · exact hr
theorem leaseP_good {s : ByteArray} {N : Nat} (h : s.size ≤ N) : (leaseP s).Good N := by
  unfold leaseP
  exact (textP_good h).bind fun _ r hr => (textP_good hr).bind fun _ r hr => (numP_good hr).bind fun _ r hr => hr
theorem repP_good {α : Type} {p : ByteArray → RR α} {N : Nat} (hp : ∀ s, s.size ≤ N → (p s).Good N) : ∀ (n : Nat) (s : ByteArray), s.size ≤ N → (repP p n s).Good N
  | 0, _, h => h
  | n + 1, s, h => (hp s h).bind fun _ r hr => (repP_good hp n r hr).bind fun _ r hr => hr
theorem manyP_good {most : Nat} {s : ByteArray} {N : Nat} (h : s.size ≤ N) : (manyP most s).Good N := by
  unfold manyP
  refine (numP_good h).bind fun n r hr => ?_
  split
  · exact ⟨by decide, by decide⟩
  · exact hr
theorem takeP_good {α : Type} {most : Nat} {p : ByteArray → RR α} {s : ByteArray} {N : Nat} (hp : ∀ s, s.size ≤ N → (p s).Good N) (h : s.size ≤ N) : (takeP most p s).Good N :=
  (manyP_good h).bind fun n r hr => repP_good hp n r hr
end Go.Proofs.YtonipllegfgdiaaDoor
