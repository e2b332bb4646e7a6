/- Of the proof of a statement: PlGone. -/
import Derived.Test.YtjgnnobccecpeaaGreatDoorQPlSt
set_option linter.unusedVariables false
set_option linter.unusedSimpArgs false
/- Names that are to go: in order, and none that is set: plain. -/
namespace Go.Proofs.YtjgnnobccecpeaaGreatDoor
open Go.Op (bytesLess)
def leaseOf (l : List LeaseD) (s : ByteArray) : Option LeaseD := l.find? fun x => decide (x.job = s)
def goneFrom (has : ByteArray → Bool) : Option ByteArray → List ByteArray → Int
  | _, [] => 0
  | p, s :: l => if nameOk s = true then (if before p s = true then (if has s = true then 7 else goneFrom has (some s) l) else 8) else 4
def goneE (has : ByteArray → Bool) (l : List ByteArray) : Int := goneFrom has none l
def selfK (s : ByteArray) : ByteArray := s
section
variable {has : ByteArray → Bool} {l : List ByteArray} {k : Nat} {s : ByteArray}
theorem gone_form (h : l[k]? = some s) (hn : nameOk s = false) : goneFrom has (prevK selfK l k) (l.drop k) = 4 := by
  rw [drop_cons h, goneFrom, if_neg (by rw [hn]; simp)]
theorem gone_order {y : ByteArray} (h : l[k]? = some s) (hn : nameOk s = true) (hk : k ≠ 0) (hy : l[k - 1]? = some y) (hl : bytesLess y.toList s.toList = false) : goneFrom has (prevK selfK l k) (l.drop k) = 8 := by
  rw [drop_cons h, goneFrom, if_pos hn, if_neg]
  unfold prevK before
  rw [if_neg hk, hy]
  simp [selfK, hl]
theorem gone_before (hb : k = 0 ∨ ∃ y, l[k - 1]? = some y ∧ bytesLess y.toList s.toList = true) : before (prevK selfK l k) s = true := by
  unfold prevK before
  rcases hb with rfl | ⟨y, hy, hl⟩
  · rfl
  · by_cases hk : k = 0
    · rw [if_pos hk]
    · rw [if_neg hk, hy]; exact hl
theorem gone_twice (h : l[k]? = some s) (hn : nameOk s = true) (hb : k = 0 ∨ ∃ y, l[k - 1]? = some y ∧ bytesLess y.toList s.toList = true) (hh : has s = true) : goneFrom has (prevK selfK l k) (l.drop k) = 7 := by
  rw [drop_cons h, goneFrom, if_pos hn, if_pos (gone_before hb), if_pos hh]
theorem gone_next (h : l[k]? = some s) (hn : nameOk s = true) (hb : k = 0 ∨ ∃ y, l[k - 1]? = some y ∧ bytesLess y.toList s.toList = true) (hh : has s = false) :
    goneFrom has (prevK selfK l k) (l.drop k) = goneFrom has (prevK selfK l (k + 1)) (l.drop (k + 1)) := by
  have e1 : prevK selfK l (k + 1) = some s := by unfold prevK; rw [if_neg (by omega), Nat.add_sub_cancel, h]; rfl
  rw [drop_cons h, goneFrom, if_pos hn, if_pos (gone_before hb), if_neg (by rw [hh]; simp), e1]
theorem gone_end (h : l.length ≤ k) (p : Option ByteArray) : goneFrom has p (l.drop k) = 0 := by
  rw [List.drop_of_length_le h]; rfl
end
def strV (s : ByteArray) : List Value := [.string s]
theorem strV_len (s : ByteArray) : (strV s).length = 1 := rfl
def lsE (l : LeaseD) : Int := if nameOk l.job && nameOk l.node then (if ranged l.till 0 1099511627776 then 0 else 1) else 4
structure DeltaD where
  from_ : Int
  to_ : Int
  jobs : List JobD
  nodes : List NodeD
  leases : List LeaseD
  gj : List ByteArray
  gn : List ByteArray
  gl : List ByteArray
def dSizes (d : DeltaD) : Bool := decide (d.jobs.length ≤ 40) && decide (d.leases.length ≤ 40) && decide (d.gj.length ≤ 40) && decide (d.gl.length ≤ 40) && decide (d.nodes.length ≤ 20) && decide (d.gn.length ≤ 20)
def dTimes (d : DeltaD) : Bool := ranged d.from_ 0 1099511627776 && decide (d.from_ < d.to_) && decide (d.to_ ≤ 1099511627776)
def firstE : List Int → Int
  | [] => 0
  | e :: l => if e = 0 then firstE l else e
def dRows (d : DeltaD) : List Int :=
  [rowsE jobE JobD.name d.jobs, rowsE nodeE NodeD.name d.nodes, rowsE lsE LeaseD.job d.leases,
   goneE (fun s => (jobOf d.jobs s).isSome) d.gj, goneE (fun s => (nodeOf d.nodes s).isSome) d.gn, goneE (fun s => (leaseOf d.leases s).isSome) d.gl]
def deltaE (d : DeltaD) : Int := if dTimes d = false then 1 else if dSizes d = false then 2 else firstE (dRows d)
theorem firstE_zero {e : Int} {l : List Int} (h : e = 0) : firstE (e :: l) = firstE l := by unfold firstE; rw [if_pos h]; cases l <;> rfl
theorem firstE_stop {e : Int} {l : List Int} (h : e ≠ 0) : firstE (e :: l) = e := by unfold firstE; rw [if_neg h]
end Go.Proofs.YtjgnnobccecpeaaGreatDoor
