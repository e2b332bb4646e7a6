/- Rows of a table, each as it should be and in order: plain. -/
import Derived.Test.YtonipllegfgdiaaDoorPlChk
namespace Go.Proofs.YtonipllegfgdiaaDoor
open Go.Op (bytesLess)
theorem less_total : ∀ a b : List UInt8, (!bytesLess a b) = (bytesLess b a || b == a)
  | [], [] => by simp [bytesLess]
  | [], _ :: _ => by simp [bytesLess]
  | _ :: _, [] => by simp [bytesLess]
  | x :: a, y :: b => by
    have ih := less_total a b
    simp only [bytesLess]
    by_cases h1 : x < y
    · have h2 : ¬ y < x := fun h => absurd (UInt8.lt_trans h1 h) (UInt8.lt_irrefl _)
      have h3 : ¬ y = x := fun h => by subst h; exact absurd h1 (UInt8.lt_irrefl _)
      simp [h1, h2, h3]
    · by_cases h2 : y < x
      · have h3 : ¬ x = y := fun h => by subst h; exact absurd h2 (UInt8.lt_irrefl _)
        simp [h1, h2, h3]
      · have h3 : x = y := UInt8.le_antisymm (UInt8.not_lt.1 h2) (UInt8.not_lt.1 h1)
        subst h3
        simpa [h1] using ih
section
variable {α : Type} (E : α → Int) (key : α → ByteArray)
def before (p : Option ByteArray) (s : ByteArray) : Bool := match p with
  | none => true
  | some q => bytesLess q.toList s.toList
def rowsFrom : Option ByteArray → List α → Int
  | _, [] => 0
  | p, x :: l => if E x = 0 then (if before p (key x) = true then rowsFrom (some (key x)) l else 8) else E x
def rowsE (l : List α) : Int := rowsFrom E key none l
def prevK (l : List α) (k : Nat) : Option ByteArray := if k = 0 then none else l[k - 1]?.map key
variable {E key} {l : List α} {k : Nat} {x : α}
theorem drop_cons (h : l[k]? = some x) : l.drop k = x :: l.drop (k + 1) := by
  obtain ⟨hlt, rfl⟩ := List.getElem?_eq_some_iff.1 h
  exact List.drop_eq_getElem_cons hlt
theorem rows_err (h : l[k]? = some x) (he : E x ≠ 0) : rowsFrom E key (prevK key l k) (l.drop k) = E x := by
  rw [drop_cons h, rowsFrom, if_neg he]
theorem rows_order {y : α} (h : l[k]? = some x) (he : E x = 0) (hk : k ≠ 0) (hy : l[k - 1]? = some y) (hl : bytesLess (key y).toList (key x).toList = false) : rowsFrom E key (prevK key l k) (l.drop k) = 8 := by
  rw [drop_cons h, rowsFrom, if_pos he, if_neg]
  unfold prevK before
  rw [if_neg hk, hy]
  simp [hl]
theorem rows_next (h : l[k]? = some x) (he : E x = 0) (hb : k = 0 ∨ ∃ y, l[k - 1]? = some y ∧ bytesLess (key y).toList (key x).toList = true) :
    rowsFrom E key (prevK key l k) (l.drop k) = rowsFrom E key (prevK key l (k + 1)) (l.drop (k + 1)) := by
  have e1 : prevK key l (k + 1) = some (key x) := by unfold prevK; rw [if_neg (by omega), Nat.add_sub_cancel, h]; rfl
  rw [drop_cons h, rowsFrom, if_pos he, e1, if_pos]
  unfold prevK before
  rcases hb with rfl | ⟨y, hy, hl⟩
  · rfl
  · by_cases hk : k = 0
    · rw [if_pos hk]
    · rw [if_neg hk, hy]; exact hl
theorem rows_end (h : l.length ≤ k) (p : Option ByteArray) : rowsFrom E key p (l.drop k) = 0 := by
  rw [List.drop_of_length_le h]; rfl
end
theorem jobV_len (j : JobD) : (jobV j).length = 5 := rfl
theorem nodeV_len (n : NodeD) : (nodeV n).length = 3 := rfl
theorem leaseV_len (l : LeaseD) : (leaseV l).length = 3 := rfl
end Go.Proofs.YtonipllegfgdiaaDoor
