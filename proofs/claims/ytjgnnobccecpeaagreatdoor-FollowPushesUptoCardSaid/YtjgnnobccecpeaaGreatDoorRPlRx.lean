/- Of the proof of a statement: PlSt, PlRx. -/
import Derived.Test.YtjgnnobccecpeaaGreatDoorRPk
import Derived.Test.YtjgnnobccecpeaaGreatDoorRSortK
set_option linter.unusedVariables false
set_option linter.unusedSimpArgs false
set_option maxRecDepth 100000
set_option maxHeartbeats 8000000
/- What the check of a state says: plain. -/
namespace Go.Proofs.YtjgnnobccecpeaaGreatDoor
open Go.Lib (hid)
open Go.Op (bytesLess)
structure StateD where
 rev : Int
 jobs : List JobD
 nodes : List NodeD
 leases : List LeaseD
def jobOf (l : List JobD) (s : ByteArray) : Option JobD := l.find? fun j => decide (j.name = s)
def nodeOf (l : List NodeD) (s : ByteArray) : Option NodeD := l.find? fun n => decide (n.name = s)
def leaseE (st : StateD) (l : LeaseD) : Int := if (jobOf st.jobs l.job).isSome && (nodeOf st.nodes l.node).isSome then (if ranged l.till 0 1099511627776 then 0 else 1) else 6
def needOf (st : StateD) (l : LeaseD) (s : ByteArray) : Int := if l.node = s then (match jobOf st.jobs l.job with | some j => j.need | none => 0) else 0
def usedL (st : StateD) (s : ByteArray) : List LeaseD → Int
 | [] => 0
 | l :: r => needOf st l s + usedL st s r
def usedE (st : StateD) (s : ByteArray) : Int := usedL st s st.leases
def sizesOk (st : StateD) : Bool := decide (st.jobs.length ≤ 40) && decide (st.leases.length ≤ 40) && decide (st.nodes.length ≤ 20)
def roomOk (st : StateD) : Bool := st.nodes.all fun n => decide (usedE st n.name ≤ n.room)
def checkE (st : StateD) : Int :=
 if ranged st.rev 0 1099511627776 = false then 1
 else if sizesOk st = false then 2
 else if rowsE jobE JobD.name st.jobs ≠ 0 then rowsE jobE JobD.name st.jobs
 else if rowsE nodeE NodeD.name st.nodes ≠ 0 then rowsE nodeE NodeD.name st.nodes
 else if rowsE (leaseE st) LeaseD.job st.leases ≠ 0 then rowsE (leaseE st) LeaseD.job st.leases
 else if roomOk st = true then 0 else 9
theorem less_irrefl : ∀ a : List UInt8, bytesLess a a = false
 | [] => rfl
 | a :: r => by simp [bytesLess, less_irrefl r]
theorem less_trans : ∀ a b c : List UInt8, bytesLess a b = true → bytesLess b c = true → bytesLess a c = true
 | _, [], _, h, _ => by simp [bytesLess] at h
 | _, _ :: _, [], _, h => by simp [bytesLess] at h
 | [], _ :: _, _ :: _, _, _ => rfl
 | a :: x, b :: y, c :: z, h1, h2 => by
  simp only [bytesLess, Bool.or_eq_true, decide_eq_true_eq, Bool.and_eq_true, beq_iff_eq] at h1 h2 ⊢
  rcases h1 with h1 | ⟨rfl, h1⟩
  · rcases h2 with h2 | ⟨rfl, h2⟩
    · exact .inl (UInt8.lt_trans h1 h2)
    · exact .inl h1
  · rcases h2 with h2 | ⟨rfl, h2⟩
    · exact .inl h2
    · exact .inr ⟨rfl, less_trans x y z h1 h2⟩
section
variable {α : Type} {E : α → Int} {key : α → ByteArray}
theorem rows_all : ∀ (p : Option ByteArray) (l : List α), rowsFrom E key p l = 0 → (∀ x ∈ l, E x = 0 ∧ before p (key x) = true) ∧ l.Pairwise (fun a b => bytesLess (key a).toList (key b).toList = true)
 | _, [], _ => ⟨by simp, List.Pairwise.nil⟩
 | p, x :: l, h => by
  unfold rowsFrom at h
  by_cases h1 : E x = 0
  · rw [if_pos h1] at h
    by_cases h2 : before p (key x) = true
    · rw [if_pos h2] at h
      obtain ⟨i1, i2⟩ := rows_all (some (key x)) l h
      refine ⟨fun y hy => ?_, List.pairwise_cons.2 ⟨fun y hy => (i1 y hy).2, i2⟩⟩
      rcases List.mem_cons.1 hy with rfl | hy
      · exact ⟨h1, h2⟩
      · refine ⟨(i1 y hy).1, ?_⟩
        have h3 := (i1 y hy).2
        unfold before at h2 h3 ⊢
        cases p with
        | none => rfl
        | some q => exact less_trans _ _ _ h2 h3
    · rw [if_neg h2] at h; omega
  · rw [if_neg h1] at h; exact absurd h h1
theorem rows_zero {l : List α} (h : rowsE E key l = 0) {x : α} (hx : x ∈ l) : E x = 0 := ((rows_all none l h).1 x hx).1
theorem rows_apart {l : List α} (h : rowsE E key l = 0) : l.Pairwise (fun a b => key a ≠ key b) :=
 (rows_all none l h).2.imp fun {a b} hlt e => by rw [e, less_irrefl] at hlt; cases hlt
end
theorem jobE_need {j : JobD} (h : jobE j = 0) : 0 ≤ j.need ∧ j.need ≤ 1000000 := by
 unfold jobE at h
 split at h
 · split at h
   · rename_i h2
     simp only [Bool.and_eq_true] at h2
     exact ranged_iff.1 h2.1.2
   · omega
 · omega
theorem find_take {α : Type} (key : α → ByteArray) {l : List α} (hp : l.Pairwise (fun a b => key a ≠ key b)) {k : Nat} {x : α} (hx : l[k]? = some x) (s : ByteArray) :
 (l.take (k + 1)).find? (fun a => decide (key a = s)) = if s = key x then some x else (l.take k).find? (fun a => decide (key a = s)) := by
 have e : l.take (k + 1) = l.take k ++ [x] := by
  obtain ⟨hlt, rfl⟩ := List.getElem?_eq_some_iff.1 hx
  exact (List.take_append_getElem hlt).symm
 rw [e, List.find?_append]
 by_cases hs : s = key x
 · rw [if_pos hs]
   have hnone : (l.take k).find? (fun a => decide (key a = s)) = none := by
    rw [List.find?_eq_none]
    intro a ha hd
    have hk : key a = s := by simpa using hd
    obtain ⟨hlt, rfl⟩ := List.getElem?_eq_some_iff.1 hx
    obtain ⟨i, hi, rfl⟩ := List.mem_iff_getElem.1 ha
    rw [List.length_take] at hi
    rw [List.getElem_take] at hk
    exact List.pairwise_iff_getElem.1 hp i k (by omega) hlt (by omega) (hk.trans hs)
   rw [hnone]
   simp [hs]
 · rw [if_neg hs]
   have : [x].find? (fun a => decide (key a = s)) = none := by simpa using fun e => hs (Eq.symm e)
   rw [this]
   simp
theorem usedL_append (st : StateD) (s : ByteArray) : ∀ a b : List LeaseD, usedL st s (a ++ b) = usedL st s a + usedL st s b
 | [], b => by simp [usedL]
 | x :: a, b => by
  have ih := usedL_append st s a b
  simp only [List.cons_append, usedL, ih]; omega
theorem usedL_step (st : StateD) (s : ByteArray) {l : List LeaseD} {k : Nat} {x : LeaseD} (h : l[k]? = some x) : usedL st s (l.take (k + 1)) = usedL st s (l.take k) + needOf st x s := by
 have e : l.take (k + 1) = l.take k ++ [x] := by
  obtain ⟨hlt, rfl⟩ := List.getElem?_eq_some_iff.1 h
  exact (List.take_append_getElem hlt).symm
 rw [e, usedL_append]; simp [usedL]
def NeedsOk (st : StateD) : Prop := ∀ j ∈ st.jobs, 0 ≤ j.need ∧ j.need ≤ 1000000
theorem needOf_bound {st : StateD} (h : NeedsOk st) (x : LeaseD) (s : ByteArray) : 0 ≤ needOf st x s ∧ needOf st x s ≤ 1000000 := by
 unfold needOf
 split
 · cases hx : jobOf st.jobs x.job with
   | none => simp
   | some j => exact h j (List.mem_of_find?_eq_some hx)
 · omega
theorem usedL_bound {st : StateD} (h : NeedsOk st) (s : ByteArray) : ∀ l : List LeaseD, 0 ≤ usedL st s l ∧ usedL st s l ≤ (l.length : Int) * 1000000
 | [] => by simp [usedL]
 | x :: l => by
  have h1 := needOf_bound h x s
  have h2 := usedL_bound h s l
  simp only [usedL, List.length_cons]
  omega
theorem needs_of {st : StateD} (h : rowsE jobE JobD.name st.jobs = 0) : NeedsOk st := fun _ hj => jobE_need (rows_zero h hj)
end Go.Proofs.YtjgnnobccecpeaaGreatDoor
/- What a reader of bytes gives: plain. -/
namespace Go.Proofs.YtjgnnobccecpeaaGreatDoor
open Go.Lib (hid)
inductive RR (α : Type) where
 | ok (a : α) (r : ByteArray)
 | bad (e : Nat)
def RR.bind {α β : Type} (x : RR α) (f : α → ByteArray → RR β) : RR β := match x with
 | .ok a r => f a r
 | .bad e => .bad e
theorem RR.bind_ok {α β : Type} (a : α) (r : ByteArray) (f : α → ByteArray → RR β) : (RR.ok a r).bind f = f a r := rfl
theorem RR.bind_bad {α β : Type} (e : Nat) (f : α → ByteArray → RR β) : (RR.bad e : RR α).bind f = .bad e := rfl
def RR.st {α : Type} (x : RR α) : RR Unit := x.bind fun _ r => .ok () r
def RR.Good {α : Type} (N : Nat) (x : RR α) : Prop := match x with
 | .ok _ r => r.size ≤ N
 | .bad e => e ≠ 0 ∧ e ≤ 10
theorem RR.Good.bind {α β : Type} {N : Nat} {x : RR α} {f : α → ByteArray → RR β} (h : x.Good N) (hf : ∀ a r, r.size ≤ N → (f a r).Good N) : (x.bind f).Good N := by
 cases x with
 | ok a r => exact hf a r h
 | bad e => exact h
theorem RR.Good.st {α : Type} {N : Nat} {x : RR α} (h : x.Good N) : x.st.Good N := h.bind fun _ _ hr => hr
def numP (s : ByteArray) : RR Nat := if (rdNum s).2.2 = 0 then (if 4611686018427387904 < (rdNum s).1 then .bad 2 else .ok (rdNum s).1 (s.extract (rdNum s).2.1 s.size)) else .bad (rdNum s).2.2
def textP (s : ByteArray) : RR ByteArray := if (txtR s).2.2 = 0 then .ok (txtR s).1 (s.extract (txtR s).2.1 s.size) else .bad (txtR s).2.2
theorem numP_ok {s : ByteArray} {a k : Nat} (h : rdNum s = (a, k, 0)) (hl : ¬ 4611686018427387904 < a) : numP s = .ok a (s.extract k s.size) := by unfold numP; rw [h]; simp only; rw [if_pos trivial, if_neg hl]
theorem numP_large {s : ByteArray} {a k : Nat} (h : rdNum s = (a, k, 0)) (hl : 4611686018427387904 < a) : numP s = .bad 2 := by unfold numP; rw [h]; simp only; rw [if_pos trivial, if_pos hl]
theorem numP_bad {s : ByteArray} {a k e : Nat} (h : rdNum s = (a, k, e)) (he : e ≠ 0) : numP s = .bad e := by unfold numP; rw [h]; simp only; rw [if_neg he]
theorem textP_ok {s t : ByteArray} {k : Nat} (h : txtR s = (t, k, 0)) : textP s = .ok t (s.extract k s.size) := by unfold textP; rw [h]; simp only; rw [if_pos trivial]
theorem textP_bad {s t : ByteArray} {k e : Nat} (h : txtR s = (t, k, e)) (he : e ≠ 0) : textP s = .bad e := by unfold textP; rw [h]; simp only; rw [if_neg he]
theorem extract_small {s : ByteArray} {k N : Nat} (h : s.size ≤ N) : (s.extract k s.size).size ≤ N := by
 rw [ByteArray.size_extract]; omega
theorem numP_good {s : ByteArray} {N : Nat} (h : s.size ≤ N) : (numP s).Good N := by
 rcases hr : rdNum s with ⟨a, k, e⟩
 have hf := rdNum_facts hr
 by_cases he : e = 0
 · subst he
   by_cases hl : 4611686018427387904 < a
   · rw [numP_large hr hl]; exact ⟨by decide, by decide⟩
   · rw [numP_ok hr hl]; exact extract_small h
 · rw [numP_bad hr he]; exact ⟨he, by omega⟩
theorem numP_le {s r : ByteArray} {a : Nat} (h : numP s = .ok a r) : a ≤ 4611686018427387904 := by
 unfold numP at h
 split at h
 · split at h
   · cases h
   · injection h with h1 h2; omega
 · cases h
theorem txtR_facts {s t : ByteArray} {k e : Nat} (h : txtR s = (t, k, e)) : e ≤ 10 ∧ t.size ≤ 16 ∧ (e = 0 → k ≤ s.size) := by
 rcases hr : rdNum s with ⟨a, n, e'⟩
 have hf := rdNum_facts hr
 by_cases he : e' = 0
 · subst he
   by_cases h1 : 16 < a
   · rw [txtR_large hr h1] at h; injection h with h2 h3; injection h3 with h4 h5; subst h2; subst h5
     exact ⟨by omega, by decide, fun hh => absurd hh (by decide)⟩
   · by_cases h2 : s.size < n + a
     · rw [txtR_short hr h1 h2] at h; injection h with h2 h3; injection h3 with h4 h5; subst h2; subst h5
       exact ⟨by omega, by decide, fun hh => absurd hh (by decide)⟩
     · cases hv : Lib.validD (s.extract n (n + a)).data.toList
       · rw [txtR_form hr h1 h2 hv] at h; injection h with h2 h3; injection h3 with h4 h5; subst h2; subst h5
         exact ⟨by omega, by decide, fun hh => absurd hh (by decide)⟩
       · rw [txtR_ok hr h1 h2 hv] at h; injection h with h2' h3; injection h3 with h4 h5; subst h2'; subst h5; subst h4
         exact ⟨by omega, by rw [ByteArray.size_extract]; omega, fun _ => by omega⟩
 · rw [txtR_num hr he] at h; injection h with h2 h3; injection h3 with h4 h5; subst h2; subst h5
   exact ⟨by omega, by decide, fun hh => absurd hh he⟩
theorem textP_good {s : ByteArray} {N : Nat} (h : s.size ≤ N) : (textP s).Good N := by
 rcases hr : txtR s with ⟨a, k, e⟩
 have hf := txtR_facts hr
 by_cases he : e = 0
 · subst he
   rw [textP_ok hr]; exact extract_small h
 · rw [textP_bad hr he]; exact ⟨he, hf.1⟩
theorem textP_le {s t r : ByteArray} (h : textP s = .ok t r) : t.size ≤ 16 := by
 rcases hr : txtR s with ⟨a, k, e⟩
 have hf := txtR_facts hr
 by_cases he : e = 0
 · subst he
   rw [textP_ok hr] at h; injection h with h1 h2; subst h1; exact hf.2.1
 · rw [textP_bad hr he] at h; cases h
def RxVal {α : Type} (res : RR α) (Z : α → Prop) (a : α) : Prop := match res with
 | .ok b _ => a = b
 | .bad _ => Z a
def jobP (v : Int) (s : ByteArray) : RR JobD :=
 (textP s).bind fun name s => (numP s).bind fun p s => (numP s).bind fun need s =>
  (if 1 < v then numP s else .ok 0 s).bind fun tries s => (if 2 < v then textP s else .ok ⟨#[]⟩ s).bind fun tag s => .ok ⟨name, zagZ p, need, tries, tag⟩ s
def nodeP (v : Int) (s : ByteArray) : RR NodeD :=
 (textP s).bind fun name s => (numP s).bind fun room s => (if 1 < v then textP s else .ok ⟨#[]⟩ s).bind fun zone s => .ok ⟨name, room, zone⟩ s
def leaseP (s : ByteArray) : RR LeaseD := (textP s).bind fun job s => (textP s).bind fun node s => (numP s).bind fun till s => .ok ⟨job, node, till⟩ s
def repP {α : Type} (p : ByteArray → RR α) : Nat → ByteArray → RR (List α)
 | 0, s => .ok [] s
 | n + 1, s => (p s).bind fun a s => (repP p n s).bind fun l s => .ok (a :: l) s
def manyP (most : Nat) (s : ByteArray) : RR Nat := (numP s).bind fun n s => if most < n then .bad 2 else .ok n s
def takeP {α : Type} (most : Nat) (p : ByteArray → RR α) (s : ByteArray) : RR (List α) := (manyP most s).bind fun n s => repP p n s
theorem jobP_good {v : Int} {s : ByteArray} {N : Nat} (h : s.size ≤ N) : (jobP v s).Good N := by
 unfold jobP
 refine (textP_good h).bind fun _ r hr => (numP_good hr).bind fun _ r hr => (numP_good hr).bind fun _ r hr => RR.Good.bind ?_ fun _ r hr => RR.Good.bind ?_ fun _ r hr => hr
 · split
   · exact numP_good hr
   · exact hr
 · split
   · exact textP_good hr
   · exact hr
theorem nodeP_good {v : Int} {s : ByteArray} {N : Nat} (h : s.size ≤ N) : (nodeP v s).Good N := by
 unfold nodeP
 refine (textP_good h).bind fun _ r hr => (numP_good hr).bind fun _ r hr => RR.Good.bind ?_ fun _ r hr => hr
 split
 · exact textP_good hr
 · exact hr
theorem leaseP_good {s : ByteArray} {N : Nat} (h : s.size ≤ N) : (leaseP s).Good N := by
 unfold leaseP
 exact (textP_good h).bind fun _ r hr => (textP_good hr).bind fun _ r hr => (numP_good hr).bind fun _ r hr => hr
theorem repP_good {α : Type} {p : ByteArray → RR α} {N : Nat} (hp : ∀ s, s.size ≤ N → (p s).Good N) : ∀ (n : Nat) (s : ByteArray), s.size ≤ N → (repP p n s).Good N
 | 0, _, h => h
 | n + 1, s, h => (hp s h).bind fun _ r hr => (repP_good hp n r hr).bind fun _ r hr => hr
theorem manyP_good {most : Nat} {s : ByteArray} {N : Nat} (h : s.size ≤ N) : (manyP most s).Good N := by
 unfold manyP
 refine (numP_good h).bind fun n r hr => ?_
 split
 · exact ⟨by decide, by decide⟩
 · exact hr
theorem takeP_good {α : Type} {most : Nat} {p : ByteArray → RR α} {s : ByteArray} {N : Nat} (hp : ∀ s, s.size ≤ N → (p s).Good N) (h : s.size ≤ N) : (takeP most p s).Good N :=
 (manyP_good h).bind fun n r hr => repP_good hp n r hr
end Go.Proofs.YtjgnnobccecpeaaGreatDoor
