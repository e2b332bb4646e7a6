/- Of the proof of a statement: PlChk, Outside. -/
import Derived.Lib.ValidLaws
import Derived.Test.YtjgnnobccecpeaaGreatDoorQMem
set_option linter.unusedVariables false
set_option linter.unusedSimpArgs false
/- What the checks of rows say: plain. -/
namespace Go.Proofs.YtjgnnobccecpeaaGreatDoor
open Go.Lib (validD)
def txtOk (s : ByteArray) : Bool := decide (s.size ≤ 16) && validD s.data.toList
def nameOk (s : ByteArray) : Bool := decide (s.size ≠ 0) && txtOk s
def ranged (n lo hi : Int) : Bool := decide (lo ≤ n) && decide (n ≤ hi)
structure JobD where
  name : ByteArray
  prio : Int
  need : Int
  tries : Int
  tag : ByteArray
structure NodeD where
  name : ByteArray
  room : Int
  zone : ByteArray
structure LeaseD where
  job : ByteArray
  node : ByteArray
  till : Int
def jobV (j : JobD) : List Value := [.string j.name, .int .i64 j.prio, .int .i64 j.need, .int .i64 j.tries, .string j.tag]
def nodeV (n : NodeD) : List Value := [.string n.name, .int .i64 n.room, .string n.zone]
def leaseV (l : LeaseD) : List Value := [.string l.job, .string l.node, .int .i64 l.till]
def jobE (j : JobD) : Int := if nameOk j.name && txtOk j.tag then (if ranged j.prio (-1000) 1000 && ranged j.need 0 1000000 && ranged j.tries 0 100 then 0 else 1) else 4
def nodeE (n : NodeD) : Int := if nameOk n.name && txtOk n.zone then (if ranged n.room 0 1000000 then 0 else 1) else 4
theorem empty_of {s : ByteArray} (h : s.size = 0) : s = ⟨#[]⟩ := ByteArray.ext (Array.eq_empty_of_size_eq_zero h)
theorem beq_nil {s : ByteArray} (h : s.size ≠ 0) : (s.toList == []) = false := by
  rw [beq_eq_false_iff_ne, ByteArray.toList_eq]
  intro e
  have := congrArg List.length e
  rw [Array.length_toList] at this
  exact h this
theorem beq_empty {s : ByteArray} (h : s.size ≠ 0) : (s.toList == ByteArray.toList ⟨#[]⟩) = false := by
  rw [show ByteArray.toList ⟨#[]⟩ = [] from by rw [ByteArray.toList_eq]]; exact beq_nil h
theorem nameOk_empty {s : ByteArray} (h : s.size = 0) : nameOk s = false := by unfold nameOk; rw [decide_eq_false (by omega)]; rfl
theorem nameOk_more {s : ByteArray} (h : s.size ≠ 0) : nameOk s = txtOk s := by unfold nameOk; rw [decide_eq_true h]; rfl
theorem txtOk_long {s : ByteArray} (h : ¬ s.size ≤ 16) : txtOk s = false := by unfold txtOk; rw [decide_eq_false h]; rfl
theorem txtOk_short {s : ByteArray} (h : s.size ≤ 16) : txtOk s = validD s.data.toList := by unfold txtOk; rw [decide_eq_true h]; rfl
theorem ranged_iff {n lo hi : Int} : ranged n lo hi = true ↔ lo ≤ n ∧ n ≤ hi := by unfold ranged; simp
theorem ranged_not {n lo hi : Int} : ranged n lo hi = false ↔ n < lo ∨ hi < n := by
  rw [← Bool.not_eq_true, ranged_iff]; omega
end Go.Proofs.YtjgnnobccecpeaaGreatDoor
/- The walk of the reference's outside. -/
namespace Go.Proofs.YtjgnnobccecpeaaGreatDoor
open Go.RowKit
theorem outside_no (n lo hi : Int) (h1 : lo ≤ n) (h2 : n ≤ hi) (w : World) : Calls Tryz.prog 29 #[.int .i64 n, .int .i64 lo, .int .i64 hi] w fun e w' => e = .returned (.bool false) ∧ w = w' := by
  have e1 : decide (n < lo) = false := decide_eq_false (by omega)
  have e2 : decide (hi < n) = false := decide_eq_false (by omega)
  go_enter Tryz.func29, Tryz.ntmps29
  go_wp2
  go_ret
  exact ⟨rfl, rfl⟩
theorem outside_yes (n lo hi : Int) (h : n < lo ∨ hi < n) (w : World) : Calls Tryz.prog 29 #[.int .i64 n, .int .i64 lo, .int .i64 hi] w fun e w' => e = .returned (.bool true) ∧ w = w' := by
  by_cases h1 : n < lo
  · clear h
    go_enter Tryz.func29, Tryz.ntmps29
    go_wp2
    go_ret
    exact ⟨rfl, rfl⟩
  · have e1 : decide (n < lo) = false := decide_eq_false h1
    have e2 : decide (hi < n) = true := decide_eq_true (by omega)
    clear h
    go_enter Tryz.func29, Tryz.ntmps29
    go_wp2
    go_ret
    exact ⟨rfl, rfl⟩
end Go.Proofs.YtjgnnobccecpeaaGreatDoor
