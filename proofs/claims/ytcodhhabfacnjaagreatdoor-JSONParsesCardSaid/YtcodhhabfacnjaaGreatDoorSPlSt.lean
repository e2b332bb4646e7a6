/- Of the proof of a statement: PlChk, PlRows, PlSt. -/
import Derived.Lib.ValidLaws
import Derived.Test.YtcodhhabfacnjaaGreatDoorSPush
set_option linter.unusedVariables false
set_option linter.unusedSimpArgs false
/- What the checks of rows say: plain. -/
namespace Go.Proofs.YtcodhhabfacnjaaGreatDoor
open Go.Lib (validD)
def txtOk (s : ByteArray) : Bool := decide (s.size ≤ 16) && validD s.data.toList
def nameOk (s : ByteArray) : Bool := decide (s.size ≠ 0) && txtOk s
def ranged (n lo hi : Int) : Bool := decide (lo ≤ n) && decide (n ≤ hi)
structure JobD where
  name : ByteArray
  prio : Int
  need : Int
  tries : Int
  tag : ByteArray
structure NodeD where
  name : ByteArray
  room : Int
  zone : ByteArray
structure LeaseD where
  job : ByteArray
  node : ByteArray
  till : Int
def jobV (j : JobD) : List Value := [.string j.name, .int .i64 j.prio, .int .i64 j.need, .int .i64 j.tries, .string j.tag]
def nodeV (n : NodeD) : List Value := [.string n.name, .int .i64 n.room, .string n.zone]
def leaseV (l : LeaseD) : List Value := [.string l.job, .string l.node, .int .i64 l.till]
def jobE (j : JobD) : Int := if nameOk j.name && txtOk j.tag then (if ranged j.prio (-1000) 1000 && ranged j.need 0 1000000 && ranged j.tries 0 100 then 0 else 1) else 4
def nodeE (n : NodeD) : Int := if nameOk n.name && txtOk n.zone then (if ranged n.room 0 1000000 then 0 else 1) else 4
theorem empty_of {s : ByteArray} (h : s.size = 0) : s = ⟨#[]⟩ := ByteArray.ext (Array.eq_empty_of_size_eq_zero h)
theorem beq_nil {s : ByteArray} (h : s.size ≠ 0) : (s.toList == []) = false := by
  rw [beq_eq_false_iff_ne, ByteArray.toList_eq]
  intro e
  have := congrArg List.length e
  rw [Array.length_toList] at this
  exact h this
theorem beq_empty {s : ByteArray} (h : s.size ≠ 0) : (s.toList == ByteArray.toList ⟨#[]⟩) = false := by
  rw [show ByteArray.toList ⟨#[]⟩ = [] from by rw [ByteArray.toList_eq]]; exact beq_nil h
theorem nameOk_empty {s : ByteArray} (h : s.size = 0) : nameOk s = false := by unfold nameOk; rw [decide_eq_false (by omega)]; rfl
theorem nameOk_more {s : ByteArray} (h : s.size ≠ 0) : nameOk s = txtOk s := by unfold nameOk; rw [decide_eq_true h]; rfl
theorem txtOk_long {s : ByteArray} (h : ¬ s.size ≤ 16) : txtOk s = false := by unfold txtOk; rw [decide_eq_false h]; rfl
theorem txtOk_short {s : ByteArray} (h : s.size ≤ 16) : txtOk s = validD s.data.toList := by unfold txtOk; rw [decide_eq_true h]; rfl
theorem ranged_iff {n lo hi : Int} : ranged n lo hi = true ↔ lo ≤ n ∧ n ≤ hi := by unfold ranged; simp
theorem ranged_not {n lo hi : Int} : ranged n lo hi = false ↔ n < lo ∨ hi < n := by
  rw [← Bool.not_eq_true, ranged_iff]; omega
end Go.Proofs.YtcodhhabfacnjaaGreatDoor
/- Rows of a table, each as it should be and in order: plain. -/
namespace Go.Proofs.YtcodhhabfacnjaaGreatDoor
open Go.Op (bytesLess)
theorem less_total : ∀ a b : List UInt8, (!bytesLess a b) = (bytesLess b a || b == a)
  | [], [] => by simp [bytesLess]
  | [], _ :: _ => by simp [bytesLess]
  | _ :: _, [] => by simp [bytesLess]
  | x :: a, y :: b => by
    have ih := less_total a b
    simp only [bytesLess]
    by_cases h1 : x < y
    · have h2 : ¬ y < x := fun h => absurd (UInt8.lt_trans h1 h) (UInt8.lt_irrefl _)
      have h3 : ¬ y = x := fun h => by subst h; exact absurd h1 (UInt8.lt_irrefl _)
      simp [h1, h2, h3]
    · by_cases h2 : y < x
      · have h3 : ¬ x = y := fun h => by subst h; exact absurd h2 (UInt8.lt_irrefl _)
        simp [h1, h2, h3]
      · have h3 : x = y := UInt8.le_antisymm (UInt8.not_lt.1 h2) (UInt8.not_lt.1 h1)
        subst h3
        simpa [h1] using ih
section
variable {α : Type} (E : α → Int) (key : α → ByteArray)
def before (p : Option ByteArray) (s : ByteArray) : Bool := match p with
  | none => true
  | some q => bytesLess q.toList s.toList
def rowsFrom : Option ByteArray → List α → Int
  | _, [] => 0
  | p, x :: l => if E x = 0 then (if before p (key x) = true then rowsFrom (some (key x)) l else 8) else E x
def rowsE (l : List α) : Int := rowsFrom E key none l
def prevK (l : List α) (k : Nat) : Option ByteArray := if k = 0 then none else l[k - 1]?.map key
variable {E key} {l : List α} {k : Nat} {x : α}
theorem drop_cons (h : l[k]? = some x) : l.drop k = x :: l.drop (k + 1) := by
  obtain ⟨hlt, rfl⟩ := List.getElem?_eq_some_iff.1 h
  exact List.drop_eq_getElem_cons hlt
theorem rows_err (h : l[k]? = some x) (he : E x ≠ 0) : rowsFrom E key (prevK key l k) (l.drop k) = E x := by
  rw [drop_cons h, rowsFrom, if_neg he]
theorem rows_order {y : α} (h : l[k]? = some x) (he : E x = 0) (hk : k ≠ 0) (hy : l[k - 1]? = some y) (hl : bytesLess (key y).toList (key x).toList = false) : rowsFrom E key (prevK key l k) (l.drop k) = 8 := by
  rw [drop_cons h, rowsFrom, if_pos he, if_neg]
  unfold prevK before
  rw [if_neg hk, hy]
  simp [hl]
theorem rows_next (h : l[k]? = some x) (he : E x = 0) (hb : k = 0 ∨ ∃ y, l[k - 1]? = some y ∧ bytesLess (key y).toList (key x).toList = true) :
    rowsFrom E key (prevK key l k) (l.drop k) = rowsFrom E key (prevK key l (k + 1)) (l.drop (k + 1)) := by
  have e1 : prevK key l (k + 1) = some (key x) := by unfold prevK; rw [if_neg (by omega), Nat.add_sub_cancel, h]; rfl
  rw [drop_cons h, rowsFrom, if_pos he, e1, if_pos]
  unfold prevK before
  rcases hb with rfl | ⟨y, hy, hl⟩
  · rfl
  · by_cases hk : k = 0
    · rw [if_pos hk]
    · rw [if_neg hk, hy]; exact hl
theorem rows_end (h : l.length ≤ k) (p : Option ByteArray) : rowsFrom E key p (l.drop k) = 0 := by
  rw [List.drop_of_length_le h]; rfl
end
theorem jobV_len (j : JobD) : (jobV j).length = 5 := rfl
theorem nodeV_len (n : NodeD) : (nodeV n).length = 3 := rfl
theorem leaseV_len (l : LeaseD) : (leaseV l).length = 3 := rfl
end Go.Proofs.YtcodhhabfacnjaaGreatDoor
/- What the check of a state says: plain. -/
namespace Go.Proofs.YtcodhhabfacnjaaGreatDoor
open Go.Op (bytesLess)
structure StateD where
  rev : Int
  jobs : List JobD
  nodes : List NodeD
  leases : List LeaseD
def jobOf (l : List JobD) (s : ByteArray) : Option JobD := l.find? fun j => decide (j.name = s)
def nodeOf (l : List NodeD) (s : ByteArray) : Option NodeD := l.find? fun n => decide (n.name = s)
def leaseE (st : StateD) (l : LeaseD) : Int := if (jobOf st.jobs l.job).isSome && (nodeOf st.nodes l.node).isSome then (if ranged l.till 0 1099511627776 then 0 else 1) else 6
def needOf (st : StateD) (l : LeaseD) (s : ByteArray) : Int := if l.node = s then (match jobOf st.jobs l.job with | some j => j.need | none => 0) else 0
def usedL (st : StateD) (s : ByteArray) : List LeaseD → Int
  | [] => 0
  | l :: r => needOf st l s + usedL st s r
def usedE (st : StateD) (s : ByteArray) : Int := usedL st s st.leases
def sizesOk (st : StateD) : Bool := decide (st.jobs.length ≤ 40) && decide (st.leases.length ≤ 40) && decide (st.nodes.length ≤ 20)
def roomOk (st : StateD) : Bool := st.nodes.all fun n => decide (usedE st n.name ≤ n.room)
def checkE (st : StateD) : Int :=
  if ranged st.rev 0 1099511627776 = false then 1
  else if sizesOk st = false then 2
  else if rowsE jobE JobD.name st.jobs ≠ 0 then rowsE jobE JobD.name st.jobs
  else if rowsE nodeE NodeD.name st.nodes ≠ 0 then rowsE nodeE NodeD.name st.nodes
  else if rowsE (leaseE st) LeaseD.job st.leases ≠ 0 then rowsE (leaseE st) LeaseD.job st.leases
  else if roomOk st = true then 0 else 9
theorem less_irrefl : ∀ a : List UInt8, bytesLess a a = false
  | [] => rfl
  | a :: r => by simp [bytesLess, less_irrefl r]
theorem less_trans : ∀ a b c : List UInt8, bytesLess a b = true → bytesLess b c = true → bytesLess a c = true
  | _, [], _, h, _ => by simp [bytesLess] at h
  | _, _ :: _, [], _, h => by simp [bytesLess] at h
  | [], _ :: _, _ :: _, _, _ => rfl
  | a :: x, b :: y, c :: z, h1, h2 => by
    simp only [bytesLess, Bool.or_eq_true, decide_eq_true_eq, Bool.and_eq_true, beq_iff_eq] at h1 h2 ⊢
    rcases h1 with h1 | ⟨rfl, h1⟩
    · rcases h2 with h2 | ⟨rfl, h2⟩
      · exact .inl (UInt8.lt_trans h1 h2)
      · exact .inl h1
    · rcases h2 with h2 | ⟨rfl, h2⟩
      · exact .inl h2
      · exact .inr ⟨rfl, less_trans x y z h1 h2⟩
section
variable {α : Type} {E : α → Int} {key : α → ByteArray}
theorem rows_all : ∀ (p : Option ByteArray) (l : List α), rowsFrom E key p l = 0 → (∀ x ∈ l, E x = 0 ∧ before p (key x) = true) ∧ l.Pairwise (fun a b => bytesLess (key a).toList (key b).toList = true)
  | _, [], _ => ⟨by simp, List.Pairwise.nil⟩
  | p, x :: l, h => by
    unfold rowsFrom at h
    by_cases h1 : E x = 0
    · rw [if_pos h1] at h
      by_cases h2 : before p (key x) = true
      · rw [if_pos h2] at h
        obtain ⟨i1, i2⟩ := rows_all (some (key x)) l h
        refine ⟨fun y hy => ?_, List.pairwise_cons.2 ⟨fun y hy => (i1 y hy).2, i2⟩⟩
        rcases List.mem_cons.1 hy with rfl | hy
        · exact ⟨h1, h2⟩
        · refine ⟨(i1 y hy).1, ?_⟩
          have h3 := (i1 y hy).2
          unfold before at h2 h3 ⊢
          cases p with
          | none => rfl
          | some q => exact less_trans _ _ _ h2 h3
      · rw [if_neg h2] at h; omega
    · rw [if_neg h1] at h; exact absurd h h1
theorem rows_zero {l : List α} (h : rowsE E key l = 0) {x : α} (hx : x ∈ l) : E x = 0 := ((rows_all none l h).1 x hx).1
theorem rows_apart {l : List α} (h : rowsE E key l = 0) : l.Pairwise (fun a b => key a ≠ key b) :=
  (rows_all none l h).2.imp fun {a b} hlt e => by rw [e, less_irrefl] at hlt; cases hlt
end
theorem jobE_need {j : JobD} (h : jobE j = 0) : 0 ≤ j.need ∧ j.need ≤ 1000000 := by
  unfold jobE at h
  split at h
  · split at h
    · rename_i h2
      simp only [Bool.and_eq_true] at h2
      exact ranged_iff.1 h2.1.2
    · omega
  · omega
/-- Reading a list to the k-th element: what is found by name. -/
theorem find_take {α : Type} (key : α → ByteArray) {l : List α} (hp : l.Pairwise (fun a b => key a ≠ key b)) {k : Nat} {x : α} (hx : l[k]? = some x) (s : ByteArray) :
    (l.take (k + 1)).find? (fun a => decide (key a = s)) = if s = key x then some x else (l.take k).find? (fun a => decide (key a = s)) := by
  have e : l.take (k + 1) = l.take k ++ [x] := by
    obtain ⟨hlt, rfl⟩ := List.getElem?_eq_some_iff.1 hx
    exact (List.take_append_getElem hlt).symm
  rw [e, List.find?_append]
  by_cases hs : s = key x
  · rw [if_pos hs]
    have hnone : (l.take k).find? (fun a => decide (key a = s)) = none := by
      rw [List.find?_eq_none]
      intro a ha hd
      have hk : key a = s := by simpa using hd
      obtain ⟨hlt, rfl⟩ := List.getElem?_eq_some_iff.1 hx
      obtain ⟨i, hi, rfl⟩ := List.mem_iff_getElem.1 ha
      rw [List.length_take] at hi
      rw [List.getElem_take] at hk
      exact List.pairwise_iff_getElem.1 hp i k (by omega) hlt (by omega) (hk.trans hs)
    rw [hnone]
    simp [hs]
  · rw [if_neg hs]
    have : [x].find? (fun a => decide (key a = s)) = none := by simpa using fun e => hs (Eq.symm e)
    rw [this]
    simp
theorem usedL_append (st : StateD) (s : ByteArray) : ∀ a b : List LeaseD, usedL st s (a ++ b) = usedL st s a + usedL st s b
  | [], b => by simp [usedL]
  | x :: a, b => by
    have ih := usedL_append st s a b
    simp only [List.cons_append, usedL, ih]; omega
theorem usedL_step (st : StateD) (s : ByteArray) {l : List LeaseD} {k : Nat} {x : LeaseD} (h : l[k]? = some x) : usedL st s (l.take (k + 1)) = usedL st s (l.take k) + needOf st x s := by
  have e : l.take (k + 1) = l.take k ++ [x] := by
    obtain ⟨hlt, rfl⟩ := List.getElem?_eq_some_iff.1 h
    exact (List.take_append_getElem hlt).symm
  rw [e, usedL_append]; simp [usedL]
def NeedsOk (st : StateD) : Prop := ∀ j ∈ st.jobs, 0 ≤ j.need ∧ j.need ≤ 1000000
theorem needOf_bound {st : StateD} (h : NeedsOk st) (x : LeaseD) (s : ByteArray) : 0 ≤ needOf st x s ∧ needOf st x s ≤ 1000000 := by
  unfold needOf
  split
  · cases hx : jobOf st.jobs x.job with
    | none => simp
    | some j => exact h j (List.mem_of_find?_eq_some hx)
  · omega
theorem usedL_bound {st : StateD} (h : NeedsOk st) (s : ByteArray) : ∀ l : List LeaseD, 0 ≤ usedL st s l ∧ usedL st s l ≤ (l.length : Int) * 1000000
  | [] => by simp [usedL]
  | x :: l => by
    have h1 := needOf_bound h x s
    have h2 := usedL_bound h s l
    simp only [usedL, List.length_cons]
    omega
theorem needs_of {st : StateD} (h : rowsE jobE JobD.name st.jobs = 0) : NeedsOk st := fun _ hj => jobE_need (rows_zero h hj)
end Go.Proofs.YtcodhhabfacnjaaGreatDoor
