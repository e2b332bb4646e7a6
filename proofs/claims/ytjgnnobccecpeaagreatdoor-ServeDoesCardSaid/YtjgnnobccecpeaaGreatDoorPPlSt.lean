/- Of the proof of a statement: PlSt, PlGone, PlApply, RowsDef, Read, Outside. -/
import Derived.Laws.Bits64b
import Derived.Laws.BitsAllLaws
import Derived.Below
import Derived.Lib.ValidLaws
import Derived.Test.YtjgnnobccecpeaaGreatDoorRows
import Derived.Test.YtjgnnobccecpeaaGreatDoorPPush
set_option linter.unusedVariables false
set_option linter.unusedSimpArgs false
set_option maxRecDepth 100000
set_option maxHeartbeats 8000000
/- What the check of a state says: plain. -/
namespace Go.Proofs.YtjgnnobccecpeaaGreatDoor
open Go.Lib (hid)
open Go.Op (bytesLess)
structure StateD where
 rev : Int
 jobs : List JobD
 nodes : List NodeD
 leases : List LeaseD
def jobOf (l : List JobD) (s : ByteArray) : Option JobD := l.find? fun j => decide (j.name = s)
def nodeOf (l : List NodeD) (s : ByteArray) : Option NodeD := l.find? fun n => decide (n.name = s)
def leaseE (st : StateD) (l : LeaseD) : Int := if (jobOf st.jobs l.job).isSome && (nodeOf st.nodes l.node).isSome then (if ranged l.till 0 1099511627776 then 0 else 1) else 6
def needOf (st : StateD) (l : LeaseD) (s : ByteArray) : Int := if l.node = s then (match jobOf st.jobs l.job with | some j => j.need | none => 0) else 0
def usedL (st : StateD) (s : ByteArray) : List LeaseD → Int
 | [] => 0
 | l :: r => needOf st l s + usedL st s r
def usedE (st : StateD) (s : ByteArray) : Int := usedL st s st.leases
def sizesOk (st : StateD) : Bool := decide (st.jobs.length ≤ 40) && decide (st.leases.length ≤ 40) && decide (st.nodes.length ≤ 20)
def roomOk (st : StateD) : Bool := st.nodes.all fun n => decide (usedE st n.name ≤ n.room)
def checkE (st : StateD) : Int :=
 if ranged st.rev 0 1099511627776 = false then 1
 else if sizesOk st = false then 2
 else if rowsE jobE JobD.name st.jobs ≠ 0 then rowsE jobE JobD.name st.jobs
 else if rowsE nodeE NodeD.name st.nodes ≠ 0 then rowsE nodeE NodeD.name st.nodes
 else if rowsE (leaseE st) LeaseD.job st.leases ≠ 0 then rowsE (leaseE st) LeaseD.job st.leases
 else if roomOk st = true then 0 else 9
theorem less_irrefl : ∀ a : List UInt8, bytesLess a a = false
 | [] => rfl
 | a :: r => by simp [bytesLess, less_irrefl r]
theorem less_trans : ∀ a b c : List UInt8, bytesLess a b = true → bytesLess b c = true → bytesLess a c = true
 | _, [], _, h, _ => by simp [bytesLess] at h
 | _, _ :: _, [], _, h => by simp [bytesLess] at h
 | [], _ :: _, _ :: _, _, _ => rfl
 | a :: x, b :: y, c :: z, h1, h2 => by
  simp only [bytesLess, Bool.or_eq_true, decide_eq_true_eq, Bool.and_eq_true, beq_iff_eq] at h1 h2 ⊢
  rcases h1 with h1 | ⟨rfl, h1⟩
  · rcases h2 with h2 | ⟨rfl, h2⟩
    · exact .inl (UInt8.lt_trans h1 h2)
    · exact .inl h1
  · rcases h2 with h2 | ⟨rfl, h2⟩
    · exact .inl h2
    · exact .inr ⟨rfl, less_trans x y z h1 h2⟩
section
variable {α : Type} {E : α → Int} {key : α → ByteArray}
theorem rows_all : ∀ (p : Option ByteArray) (l : List α), rowsFrom E key p l = 0 → (∀ x ∈ l, E x = 0 ∧ before p (key x) = true) ∧ l.Pairwise (fun a b => bytesLess (key a).toList (key b).toList = true)
 | _, [], _ => ⟨by simp, List.Pairwise.nil⟩
 | p, x :: l, h => by
  unfold rowsFrom at h
  by_cases h1 : E x = 0
  · rw [if_pos h1] at h
    by_cases h2 : before p (key x) = true
    · rw [if_pos h2] at h
      obtain ⟨i1, i2⟩ := rows_all (some (key x)) l h
      refine ⟨fun y hy => ?_, List.pairwise_cons.2 ⟨fun y hy => (i1 y hy).2, i2⟩⟩
      rcases List.mem_cons.1 hy with rfl | hy
      · exact ⟨h1, h2⟩
      · refine ⟨(i1 y hy).1, ?_⟩
        have h3 := (i1 y hy).2
        unfold before at h2 h3 ⊢
        cases p with
        | none => rfl
        | some q => exact less_trans _ _ _ h2 h3
    · rw [if_neg h2] at h; omega
  · rw [if_neg h1] at h; exact absurd h h1
theorem rows_zero {l : List α} (h : rowsE E key l = 0) {x : α} (hx : x ∈ l) : E x = 0 := ((rows_all none l h).1 x hx).1
theorem rows_apart {l : List α} (h : rowsE E key l = 0) : l.Pairwise (fun a b => key a ≠ key b) :=
 (rows_all none l h).2.imp fun {a b} hlt e => by rw [e, less_irrefl] at hlt; cases hlt
end
theorem jobE_need {j : JobD} (h : jobE j = 0) : 0 ≤ j.need ∧ j.need ≤ 1000000 := by
 unfold jobE at h
 split at h
 · split at h
   · rename_i h2
     simp only [Bool.and_eq_true] at h2
     exact ranged_iff.1 h2.1.2
   · omega
 · omega
theorem find_take {α : Type} (key : α → ByteArray) {l : List α} (hp : l.Pairwise (fun a b => key a ≠ key b)) {k : Nat} {x : α} (hx : l[k]? = some x) (s : ByteArray) :
 (l.take (k + 1)).find? (fun a => decide (key a = s)) = if s = key x then some x else (l.take k).find? (fun a => decide (key a = s)) := by
 have e : l.take (k + 1) = l.take k ++ [x] := by
  obtain ⟨hlt, rfl⟩ := List.getElem?_eq_some_iff.1 hx
  exact (List.take_append_getElem hlt).symm
 rw [e, List.find?_append]
 by_cases hs : s = key x
 · rw [if_pos hs]
   have hnone : (l.take k).find? (fun a => decide (key a = s)) = none := by
    rw [List.find?_eq_none]
    intro a ha hd
    have hk : key a = s := by simpa using hd
    obtain ⟨hlt, rfl⟩ := List.getElem?_eq_some_iff.1 hx
    obtain ⟨i, hi, rfl⟩ := List.mem_iff_getElem.1 ha
    rw [List.length_take] at hi
    rw [List.getElem_take] at hk
    exact List.pairwise_iff_getElem.1 hp i k (by omega) hlt (by omega) (hk.trans hs)
   rw [hnone]
   simp [hs]
 · rw [if_neg hs]
   have : [x].find? (fun a => decide (key a = s)) = none := by simpa using fun e => hs (Eq.symm e)
   rw [this]
   simp
theorem usedL_append (st : StateD) (s : ByteArray) : ∀ a b : List LeaseD, usedL st s (a ++ b) = usedL st s a + usedL st s b
 | [], b => by simp [usedL]
 | x :: a, b => by
  have ih := usedL_append st s a b
  simp only [List.cons_append, usedL, ih]; omega
theorem usedL_step (st : StateD) (s : ByteArray) {l : List LeaseD} {k : Nat} {x : LeaseD} (h : l[k]? = some x) : usedL st s (l.take (k + 1)) = usedL st s (l.take k) + needOf st x s := by
 have e : l.take (k + 1) = l.take k ++ [x] := by
  obtain ⟨hlt, rfl⟩ := List.getElem?_eq_some_iff.1 h
  exact (List.take_append_getElem hlt).symm
 rw [e, usedL_append]; simp [usedL]
def NeedsOk (st : StateD) : Prop := ∀ j ∈ st.jobs, 0 ≤ j.need ∧ j.need ≤ 1000000
theorem needOf_bound {st : StateD} (h : NeedsOk st) (x : LeaseD) (s : ByteArray) : 0 ≤ needOf st x s ∧ needOf st x s ≤ 1000000 := by
 unfold needOf
 split
 · cases hx : jobOf st.jobs x.job with
   | none => simp
   | some j => exact h j (List.mem_of_find?_eq_some hx)
 · omega
theorem usedL_bound {st : StateD} (h : NeedsOk st) (s : ByteArray) : ∀ l : List LeaseD, 0 ≤ usedL st s l ∧ usedL st s l ≤ (l.length : Int) * 1000000
 | [] => by simp [usedL]
 | x :: l => by
  have h1 := needOf_bound h x s
  have h2 := usedL_bound h s l
  simp only [usedL, List.length_cons]
  omega
theorem needs_of {st : StateD} (h : rowsE jobE JobD.name st.jobs = 0) : NeedsOk st := fun _ hj => jobE_need (rows_zero h hj)
end Go.Proofs.YtjgnnobccecpeaaGreatDoor
/- Names that are to go: in order, and none that is set: plain. -/
namespace Go.Proofs.YtjgnnobccecpeaaGreatDoor
open Go.Lib (hid)
open Go.Op (bytesLess)
def leaseOf (l : List LeaseD) (s : ByteArray) : Option LeaseD := l.find? fun x => decide (x.job = s)
section
variable {has : ByteArray → Bool} {l : List ByteArray} {k : Nat} {s : ByteArray}
end
def strV (s : ByteArray) : List Value := [.string s]
theorem strV_len (s : ByteArray) : (strV s).length = 1 := rfl
def lsE (l : LeaseD) : Int := if nameOk l.job && nameOk l.node then (if ranged l.till 0 1099511627776 then 0 else 1) else 4
structure DeltaD where
 from_ : Int
 to_ : Int
 jobs : List JobD
 nodes : List NodeD
 leases : List LeaseD
 gj : List ByteArray
 gn : List ByteArray
 gl : List ByteArray
end Go.Proofs.YtjgnnobccecpeaaGreatDoor
/- What Apply says: plain. -/
namespace Go.Proofs.YtjgnnobccecpeaaGreatDoor
open Go.Lib (hid)
open Go.Op (bytesLess)
def kless (a b : ByteArray) : Bool := bytesLess a.toList b.toList
theorem kless_irrefl (a : ByteArray) : kless a a = false := less_irrefl _
theorem kless_trans {a b c : ByteArray} (h : kless a b = true) (h2 : kless b c = true) : kless a c = true := less_trans _ _ _ h h2
theorem bytes_of_toList {a b : ByteArray} (h : a.toList = b.toList) : a = b := by rw [ByteArray.toList_eq, ByteArray.toList_eq] at h; exact ByteArray.ext (Array.toList_inj.1 h)
theorem kless_of_not {a b : ByteArray} (h : kless a b = false) (hne : a ≠ b) : kless b a = true := by
 have ht := less_total a.toList b.toList
 unfold kless at h ⊢
 rw [h] at ht
 rcases Bool.or_eq_true_iff.1 ht.symm with h1 | h1
 · exact h1
 · exact absurd (bytes_of_toList (beq_iff_eq.1 h1)).symm hne
section
variable {α : Type} (key : α → ByteArray)
def KSorted (l : List α) : Prop := l.Pairwise fun a b => kless (key a) (key b) = true
variable {key}
theorem ksorted_unique : ∀ {l r : List α}, KSorted key l → KSorted key r → (∀ x, x ∈ l ↔ x ∈ r) → l = r
 | [], [], _, _, _ => rfl
 | [], b :: r, _, _, h => absurd ((h b).2 List.mem_cons_self) List.not_mem_nil
 | a :: l, [], _, _, h => absurd ((h a).1 List.mem_cons_self) List.not_mem_nil
 | a :: l, b :: r, hl, hr, h => by
  obtain ⟨hl1, hl2⟩ := List.pairwise_cons.1 hl
  obtain ⟨hr1, hr2⟩ := List.pairwise_cons.1 hr
  have hab : a = b := by
   rcases List.mem_cons.1 ((h a).1 List.mem_cons_self) with h1 | h1
   · exact h1
   · rcases List.mem_cons.1 ((h b).2 List.mem_cons_self) with h2 | h2
     · exact h2.symm
     · have := kless_trans (hr1 a h1) (hl1 b h2)
       rw [kless_irrefl] at this; cases this
  subst hab
  refine congrArg (a :: ·) (ksorted_unique hl2 hr2 fun x => ⟨fun hx => ?_, fun hx => ?_⟩)
  · rcases List.mem_cons.1 ((h x).1 (List.mem_cons_of_mem _ hx)) with h1 | h1
    · subst h1
      have := hl1 x hx
      rw [kless_irrefl] at this; cases this
    · exact h1
  · rcases List.mem_cons.1 ((h x).2 (List.mem_cons_of_mem _ hx)) with h1 | h1
    · subst h1
      have := hr1 x hx
      rw [kless_irrefl] at this; cases this
    · exact h1
theorem ksorted_apart {l : List α} (h : KSorted key l) : l.Pairwise fun a b => key a ≠ key b :=
 h.imp fun {a b} hlt e => by rw [e, kless_irrefl] at hlt; cases hlt
variable (key)
def putFrom (x : α) : Bool → List α → List α
 | d, [] => if d then [] else [x]
 | d, y :: l => (if !d && !kless (key y) (key x) then [x] else []) ++ (if key y ≠ key x then [y] else []) ++ putFrom x (d || !kless (key y) (key x)) l
def putK (l : List α) (x : α) : List α := putFrom key x false l
variable {key}
theorem mem_putFrom (x z : α) : ∀ (l : List α) (d : Bool), z ∈ putFrom key x d l ↔ (d = false ∧ z = x) ∨ (z ∈ l ∧ key z ≠ key x)
 | [], d => by cases d <;> simp [putFrom]
 | y :: l, d => by
  rw [putFrom, List.mem_append, List.mem_append, mem_putFrom x z l]
  have h2 : (z ∈ if key y ≠ key x then [y] else []) ↔ (z = y ∧ key z ≠ key x) := by
   by_cases h : key y = key x
   · rw [if_neg (by simp [h])]
     exact ⟨fun h' => absurd h' List.not_mem_nil, fun ⟨h1, h2⟩ => absurd (by rw [h1, h]) h2⟩
   · rw [if_pos h, List.mem_singleton]
     exact ⟨fun h' => ⟨h', by rw [h']; exact h⟩, fun h' => h'.1⟩
  rw [h2, List.mem_cons]
  cases d <;> cases hk : kless (key y) (key x) <;> simp <;> grind
theorem sorted_putT (x : α) : ∀ (l : List α), KSorted key l → KSorted key (putFrom key x true l)
 | [], _ => List.Pairwise.nil
 | y :: l, h => by
  obtain ⟨h1, h2⟩ := List.pairwise_cons.1 h
  have ih := sorted_putT x l h2
  rw [putFrom]
  simp only [Bool.not_true, Bool.false_and, Bool.false_eq_true, if_false, List.nil_append, Bool.true_or]
  by_cases hk : key y = key x
  · rw [if_neg (by simp [hk])]; exact ih
  · rw [if_pos hk]
    refine List.pairwise_cons.2 ⟨fun z hz => ?_, ih⟩
    rcases (mem_putFrom x z l true).1 hz with hc | hc
    · cases hc.1
    · exact h1 z hc.1
theorem sorted_put (x : α) : ∀ (l : List α), KSorted key l → KSorted key (putFrom key x false l)
 | [], _ => List.pairwise_singleton _ _
 | y :: l, h => by
  obtain ⟨h1, h2⟩ := List.pairwise_cons.1 h
  cases hk : kless (key y) (key x) with
  | true =>
   have hne : key y ≠ key x := fun e => by rw [e, kless_irrefl] at hk; cases hk
   have ih := sorted_put x l h2
   rw [putFrom, hk]
   simp only [Bool.not_true, Bool.and_false, Bool.false_eq_true, if_false, List.nil_append, Bool.or_false, if_pos hne]
   refine List.pairwise_cons.2 ⟨fun z hz => ?_, ih⟩
   rcases (mem_putFrom x z l false).1 hz with hc | hc
   · rw [hc.2]; exact hk
   · exact h1 z hc.1
  | false =>
   have ih := sorted_putT x (y :: l) h
   have e : putFrom key x false (y :: l) = x :: putFrom key x true (y :: l) := by
    rw [putFrom, putFrom, hk]
    simp
   rw [e]
   refine List.pairwise_cons.2 ⟨fun z hz => ?_, ih⟩
   rcases (mem_putFrom x z (y :: l) true).1 hz with hc | hc
   · cases hc.1
   · rcases List.mem_cons.1 hc.1 with e | hz
     · subst e
       exact kless_of_not hk hc.2
     · have hyz := h1 z hz
       by_cases hxy : key y = key x
       · rw [hxy] at hyz; exact hyz
       · exact kless_trans (kless_of_not hk hxy) hyz
variable (key)
variable {key}
theorem find_self {l : List α} (h : l.Pairwise fun a b => key a ≠ key b) {x : α} (hx : x ∈ l) : l.find? (fun y => decide (key y = key x)) = some x := by
 induction l with
 | nil => cases hx
 | cons a l ih =>
  obtain ⟨h1, h2⟩ := List.pairwise_cons.1 h
  rw [List.find?_cons]
  by_cases e : key a = key x
  · rcases List.mem_cons.1 hx with rfl | hx
    · simp
    · exact absurd e (h1 x hx)
  · rw [decide_eq_false e]
    rcases List.mem_cons.1 hx with rfl | hx
    · exact absurd rfl e
    · exact ih h2 hx
end
end Go.Proofs.YtjgnnobccecpeaaGreatDoor
/- What the loops over rows hold. -/
namespace Go.Proofs.YtjgnnobccecpeaaGreatDoor
open Go.Lib (hid)
open Go.RowKit
def JobsOk (xs : List JobD) : Prop := ∀ x ∈ xs, x.name.size ≤ 9223372036854775807 ∧ x.tag.size ≤ 9223372036854775807
def JobInv (xs : List JobD) (n : Nat) (R : Int) (w : World) (i : Value) (wr : World) : Prop := ∃ k : Nat, k ≤ n ∧ i = .int .i64 k ∧ rowsFrom jobE JobD.name (prevK JobD.name xs k) (xs.drop k) = R ∧ Below w.heap.size w wr
def NodesOk (xs : List NodeD) : Prop := ∀ x ∈ xs, x.name.size ≤ 9223372036854775807 ∧ x.zone.size ≤ 9223372036854775807
def NodeInv (xs : List NodeD) (n : Nat) (R : Int) (w : World) (i : Value) (wr : World) : Prop := ∃ k : Nat, k ≤ n ∧ i = .int .i64 k ∧ rowsFrom nodeE NodeD.name (prevK NodeD.name xs k) (xs.drop k) = R ∧ Below w.heap.size w wr
end Go.Proofs.YtjgnnobccecpeaaGreatDoor
/- The walks of ReadNumber, in the program and in the reference. -/
namespace Go.Proofs.YtjgnnobccecpeaaGreatDoor
open Go.Lib (hid)
open Go.RowKit
theorem idx_str {s : ByteArray} {k c : Nat} (h : k < s.size) (hc : s[k].toNat = c) (W : World) : (Instr.index 9 (.string s) (.int .i64 (k : Int))).run Tryz.prog W = .ok (.int .u8 (c : Int)) W := by
 rw [run_index_string W 9 s .i64 (k : Int) Tryz.underlying9, dif_pos ⟨by omega, by omega⟩]
 subst hc
 simp only [Int.toNat_natCast]
end Go.Proofs.YtjgnnobccecpeaaGreatDoor
/- The walk of the reference's outside. -/
namespace Go.Proofs.YtjgnnobccecpeaaGreatDoor
open Go.Lib (hid)
open Go.RowKit
theorem outside_no (n lo hi : Int) (h1 : lo ≤ n) (h2 : n ≤ hi) (w : World) : Calls Tryz.prog 29 #[.int .i64 n, .int .i64 lo, .int .i64 hi] w fun e w' => e = .returned (.bool false) ∧ w = w' := by
 have e1 : decide (n < lo) = false := decide_eq_false (by omega)
 have e2 : decide (hi < n) = false := decide_eq_false (by omega)
 go_enter Tryz.func29, Tryz.ntmps29
 go_wp2
 go_ret
 exact ⟨rfl, rfl⟩
theorem outside_yes (n lo hi : Int) (h : n < lo ∨ hi < n) (w : World) : Calls Tryz.prog 29 #[.int .i64 n, .int .i64 lo, .int .i64 hi] w fun e w' => e = .returned (.bool true) ∧ w = w' := by
 by_cases h1 : n < lo
 · clear h
   go_enter Tryz.func29, Tryz.ntmps29
   go_wp2
   go_ret
   exact ⟨rfl, rfl⟩
 · have e1 : decide (n < lo) = false := decide_eq_false h1
   have e2 : decide (hi < n) = true := decide_eq_true (by omega)
   clear h
   go_enter Tryz.func29, Tryz.ntmps29
   go_wp2
   go_ret
   exact ⟨rfl, rfl⟩
end Go.Proofs.YtjgnnobccecpeaaGreatDoor
