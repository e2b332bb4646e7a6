/- Of the proof of a statement: PlSt. -/
import Derived.Test.YtjgnnobccecpeaaGreatDoorQBlk
set_option linter.unusedVariables false
set_option linter.unusedSimpArgs false
/- What the check of a state says: plain. -/
namespace Go.Proofs.YtjgnnobccecpeaaGreatDoor
open Go.Op (bytesLess)
structure StateD where
  rev : Int
  jobs : List JobD
  nodes : List NodeD
  leases : List LeaseD
def jobOf (l : List JobD) (s : ByteArray) : Option JobD := l.find? fun j => decide (j.name = s)
def nodeOf (l : List NodeD) (s : ByteArray) : Option NodeD := l.find? fun n => decide (n.name = s)
def leaseE (st : StateD) (l : LeaseD) : Int := if (jobOf st.jobs l.job).isSome && (nodeOf st.nodes l.node).isSome then (if ranged l.till 0 1099511627776 then 0 else 1) else 6
def needOf (st : StateD) (l : LeaseD) (s : ByteArray) : Int := if l.node = s then (match jobOf st.jobs l.job with | some j => j.need | none => 0) else 0
def usedL (st : StateD) (s : ByteArray) : List LeaseD → Int
  | [] => 0
  | l :: r => needOf st l s + usedL st s r
def usedE (st : StateD) (s : ByteArray) : Int := usedL st s st.leases
def sizesOk (st : StateD) : Bool := decide (st.jobs.length ≤ 40) && decide (st.leases.length ≤ 40) && decide (st.nodes.length ≤ 20)
def roomOk (st : StateD) : Bool := st.nodes.all fun n => decide (usedE st n.name ≤ n.room)
def checkE (st : StateD) : Int :=
  if ranged st.rev 0 1099511627776 = false then 1
  else if sizesOk st = false then 2
  else if rowsE jobE JobD.name st.jobs ≠ 0 then rowsE jobE JobD.name st.jobs
  else if rowsE nodeE NodeD.name st.nodes ≠ 0 then rowsE nodeE NodeD.name st.nodes
  else if rowsE (leaseE st) LeaseD.job st.leases ≠ 0 then rowsE (leaseE st) LeaseD.job st.leases
  else if roomOk st = true then 0 else 9
theorem less_irrefl : ∀ a : List UInt8, bytesLess a a = false
  | [] => rfl
  | a :: r => by simp [bytesLess, less_irrefl r]
theorem less_trans : ∀ a b c : List UInt8, bytesLess a b = true → bytesLess b c = true → bytesLess a c = true
  | _, [], _, h, _ => by simp [bytesLess] at h
  | _, _ :: _, [], _, h => by simp [bytesLess] at h
  | [], _ :: _, _ :: _, _, _ => rfl
  | a :: x, b :: y, c :: z, h1, h2 => by
    simp only [bytesLess, Bool.or_eq_true, decide_eq_true_eq, Bool.and_eq_true, beq_iff_eq] at h1 h2 ⊢
    rcases h1 with h1 | ⟨rfl, h1⟩
    · rcases h2 with h2 | ⟨rfl, h2⟩
      · exact .inl (UInt8.lt_trans h1 h2)
      · exact .inl h1
    · rcases h2 with h2 | ⟨rfl, h2⟩
      · exact .inl h2
      · exact .inr ⟨rfl, less_trans x y z h1 h2⟩
section
variable {α : Type} {E : α → Int} {key : α → ByteArray}
theorem rows_all : ∀ (p : Option ByteArray) (l : List α), rowsFrom E key p l = 0 → (∀ x ∈ l, E x = 0 ∧ before p (key x) = true) ∧ l.Pairwise (fun a b => bytesLess (key a).toList (key b).toList = true)
  | _, [], _ => ⟨by simp, List.Pairwise.nil⟩
  | p, x :: l, h => by
    unfold rowsFrom at h
    by_cases h1 : E x = 0
    · rw [if_pos h1] at h
      by_cases h2 : before p (key x) = true
      · rw [if_pos h2] at h
        obtain ⟨i1, i2⟩ := rows_all (some (key x)) l h
        refine ⟨fun y hy => ?_, List.pairwise_cons.2 ⟨fun y hy => (i1 y hy).2, i2⟩⟩
        rcases List.mem_cons.1 hy with rfl | hy
        · exact ⟨h1, h2⟩
        · refine ⟨(i1 y hy).1, ?_⟩
          have h3 := (i1 y hy).2
          unfold before at h2 h3 ⊢
          cases p with
          | none => rfl
          | some q => exact less_trans _ _ _ h2 h3
      · rw [if_neg h2] at h; omega
    · rw [if_neg h1] at h; exact absurd h h1
theorem rows_zero {l : List α} (h : rowsE E key l = 0) {x : α} (hx : x ∈ l) : E x = 0 := ((rows_all none l h).1 x hx).1
theorem rows_apart {l : List α} (h : rowsE E key l = 0) : l.Pairwise (fun a b => key a ≠ key b) :=
  (rows_all none l h).2.imp fun {a b} hlt e => by rw [e, less_irrefl] at hlt; cases hlt
end
theorem jobE_need {j : JobD} (h : jobE j = 0) : 0 ≤ j.need ∧ j.need ≤ 1000000 := by
  unfold jobE at h
  split at h
  · split at h
    · rename_i h2
      simp only [Bool.and_eq_true] at h2
      exact ranged_iff.1 h2.1.2
    · omega
  · omega
/-- Reading a list to the k-th element: what is found by name. -/
theorem find_take {α : Type} (key : α → ByteArray) {l : List α} (hp : l.Pairwise (fun a b => key a ≠ key b)) {k : Nat} {x : α} (hx : l[k]? = some x) (s : ByteArray) :
    (l.take (k + 1)).find? (fun a => decide (key a = s)) = if s = key x then some x else (l.take k).find? (fun a => decide (key a = s)) := by
  have e : l.take (k + 1) = l.take k ++ [x] := by
    obtain ⟨hlt, rfl⟩ := List.getElem?_eq_some_iff.1 hx
    exact (List.take_append_getElem hlt).symm
  rw [e, List.find?_append]
  by_cases hs : s = key x
  · rw [if_pos hs]
    have hnone : (l.take k).find? (fun a => decide (key a = s)) = none := by
      rw [List.find?_eq_none]
      intro a ha hd
      have hk : key a = s := by simpa using hd
      obtain ⟨hlt, rfl⟩ := List.getElem?_eq_some_iff.1 hx
      obtain ⟨i, hi, rfl⟩ := List.mem_iff_getElem.1 ha
      rw [List.length_take] at hi
      rw [List.getElem_take] at hk
      exact List.pairwise_iff_getElem.1 hp i k (by omega) hlt (by omega) (hk.trans hs)
    rw [hnone]
    simp [hs]
  · rw [if_neg hs]
    have : [x].find? (fun a => decide (key a = s)) = none := by simpa using fun e => hs (Eq.symm e)
    rw [this]
    simp
theorem usedL_append (st : StateD) (s : ByteArray) : ∀ a b : List LeaseD, usedL st s (a ++ b) = usedL st s a + usedL st s b
  | [], b => by simp [usedL]
  | x :: a, b => by
    have ih := usedL_append st s a b
    simp only [List.cons_append, usedL, ih]; omega
theorem usedL_step (st : StateD) (s : ByteArray) {l : List LeaseD} {k : Nat} {x : LeaseD} (h : l[k]? = some x) : usedL st s (l.take (k + 1)) = usedL st s (l.take k) + needOf st x s := by
  have e : l.take (k + 1) = l.take k ++ [x] := by
    obtain ⟨hlt, rfl⟩ := List.getElem?_eq_some_iff.1 h
    exact (List.take_append_getElem hlt).symm
  rw [e, usedL_append]; simp [usedL]
def NeedsOk (st : StateD) : Prop := ∀ j ∈ st.jobs, 0 ≤ j.need ∧ j.need ≤ 1000000
theorem needOf_bound {st : StateD} (h : NeedsOk st) (x : LeaseD) (s : ByteArray) : 0 ≤ needOf st x s ∧ needOf st x s ≤ 1000000 := by
  unfold needOf
  split
  · cases hx : jobOf st.jobs x.job with
    | none => simp
    | some j => exact h j (List.mem_of_find?_eq_some hx)
  · omega
theorem usedL_bound {st : StateD} (h : NeedsOk st) (s : ByteArray) : ∀ l : List LeaseD, 0 ≤ usedL st s l ∧ usedL st s l ≤ (l.length : Int) * 1000000
  | [] => by simp [usedL]
  | x :: l => by
    have h1 := needOf_bound h x s
    have h2 := usedL_bound h s l
    simp only [usedL, List.length_cons]
    omega
theorem needs_of {st : StateD} (h : rowsE jobE JobD.name st.jobs = 0) : NeedsOk st := fun _ hj => jobE_need (rows_zero h hj)
end Go.Proofs.YtjgnnobccecpeaaGreatDoor
