/- Of the proof of a statement: PlRows, Blk, RowsDef. -/
import Derived.Test.YtjgnnobccecpeaaGreatDoorQPlChk
import Derived.Test.YtjgnnobccecpeaaGreatDoorQPush
set_option linter.unusedVariables false
set_option linter.unusedSimpArgs false
/- Rows of a table, each as it should be and in order: plain. -/
namespace Go.Proofs.YtjgnnobccecpeaaGreatDoor
open Go.Op (bytesLess)
theorem less_total : ∀ a b : List UInt8, (!bytesLess a b) = (bytesLess b a || b == a)
  | [], [] => by simp [bytesLess]
  | [], _ :: _ => by simp [bytesLess]
  | _ :: _, [] => by simp [bytesLess]
  | x :: a, y :: b => by
    have ih := less_total a b
    simp only [bytesLess]
    by_cases h1 : x < y
    · have h2 : ¬ y < x := fun h => absurd (UInt8.lt_trans h1 h) (UInt8.lt_irrefl _)
      have h3 : ¬ y = x := fun h => by subst h; exact absurd h1 (UInt8.lt_irrefl _)
      simp [h1, h2, h3]
    · by_cases h2 : y < x
      · have h3 : ¬ x = y := fun h => by subst h; exact absurd h2 (UInt8.lt_irrefl _)
        simp [h1, h2, h3]
      · have h3 : x = y := UInt8.le_antisymm (UInt8.not_lt.1 h2) (UInt8.not_lt.1 h1)
        subst h3
        simpa [h1] using ih
section
variable {α : Type} (E : α → Int) (key : α → ByteArray)
def before (p : Option ByteArray) (s : ByteArray) : Bool := match p with
  | none => true
  | some q => bytesLess q.toList s.toList
def rowsFrom : Option ByteArray → List α → Int
  | _, [] => 0
  | p, x :: l => if E x = 0 then (if before p (key x) = true then rowsFrom (some (key x)) l else 8) else E x
def rowsE (l : List α) : Int := rowsFrom E key none l
def prevK (l : List α) (k : Nat) : Option ByteArray := if k = 0 then none else l[k - 1]?.map key
variable {E key} {l : List α} {k : Nat} {x : α}
theorem drop_cons (h : l[k]? = some x) : l.drop k = x :: l.drop (k + 1) := by
  obtain ⟨hlt, rfl⟩ := List.getElem?_eq_some_iff.1 h
  exact List.drop_eq_getElem_cons hlt
theorem rows_err (h : l[k]? = some x) (he : E x ≠ 0) : rowsFrom E key (prevK key l k) (l.drop k) = E x := by
  rw [drop_cons h, rowsFrom, if_neg he]
theorem rows_order {y : α} (h : l[k]? = some x) (he : E x = 0) (hk : k ≠ 0) (hy : l[k - 1]? = some y) (hl : bytesLess (key y).toList (key x).toList = false) : rowsFrom E key (prevK key l k) (l.drop k) = 8 := by
  rw [drop_cons h, rowsFrom, if_pos he, if_neg]
  unfold prevK before
  rw [if_neg hk, hy]
  simp [hl]
theorem rows_next (h : l[k]? = some x) (he : E x = 0) (hb : k = 0 ∨ ∃ y, l[k - 1]? = some y ∧ bytesLess (key y).toList (key x).toList = true) :
    rowsFrom E key (prevK key l k) (l.drop k) = rowsFrom E key (prevK key l (k + 1)) (l.drop (k + 1)) := by
  have e1 : prevK key l (k + 1) = some (key x) := by unfold prevK; rw [if_neg (by omega), Nat.add_sub_cancel, h]; rfl
  rw [drop_cons h, rowsFrom, if_pos he, e1, if_pos]
  unfold prevK before
  rcases hb with rfl | ⟨y, hy, hl⟩
  · rfl
  · by_cases hk : k = 0
    · rw [if_pos hk]
    · rw [if_neg hk, hy]; exact hl
theorem rows_end (h : l.length ≤ k) (p : Option ByteArray) : rowsFrom E key p (l.drop k) = 0 := by
  rw [List.drop_of_length_le h]; rfl
end
theorem jobV_len (j : JobD) : (jobV j).length = 5 := rfl
theorem nodeV_len (n : NodeD) : (nodeV n).length = 3 := rfl
theorem leaseV_len (l : LeaseD) : (leaseV l).length = 3 := rfl
end Go.Proofs.YtjgnnobccecpeaaGreatDoor
/- Blocks that are known whole; worlds that keep all blocks but one. -/
namespace Go.Proofs.YtjgnnobccecpeaaGreatDoor
open Go.RowKit
/-- A block that is known whole, none of its cells marked. -/
def Blk (w : World) (g : Nat) (t : TypeId) (cs : Array Value) : Prop := w.heap[g]? = some (.cells cs t (0, 0))
theorem Blk.below {w w' : World} {g B : Nat} {t : TypeId} {cs : Array Value} (h : Blk w g t cs) (hb : Below B w w') (hg : g < B) : Blk w' g t cs := (hb.block g hg).trans h
theorem Blk.lt {w : World} {g : Nat} {t : TypeId} {cs : Array Value} (h : Blk w g t cs) : g < w.heap.size := by
  rcases Nat.lt_or_ge g w.heap.size with h1 | h1
  · exact h1
  · unfold Blk at h; rw [Array.getElem?_eq_none h1] at h; cases h
theorem Blk.cell {w : World} {g : Nat} {t : TypeId} {cs : Array Value} (h : Blk w g t cs) (i : Nat) : w.cell? ⟨g, i, none⟩ = cs[i]? := cell_of_row w g i cs t (0, 0) h
theorem Blk.thaw {w : World} {g : Nat} {t : TypeId} {cs : Array Value} (h : Blk w g t cs) (i : Nat) : w.frozen? ⟨g, i, none⟩ = false := by unfold Blk at h; simp [World.frozen?, h]
theorem Blk.set {w : World} {g : Nat} {t : TypeId} {cs : Array Value} (h : Blk w g t cs) (i : Nat) (v : Value) : Blk (w.setCell ⟨g, i, none⟩ v) g t (cs.setIfInBounds i v) := by
  unfold Blk at h ⊢
  simp [World.setCell, Array.getElem?_modify, h]
theorem Blk.alloc {w : World} {g : Nat} {t : TypeId} {cs : Array Value} (h : Blk w g t cs) (o : Obj) : Blk (w.alloc o) g t cs := h.below ((Below.refl w.heap.size w).alloc (Nat.le_refl _) o) h.lt
theorem Blk.eq {w : World} {g : Nat} {t : TypeId} {cs cs' : Array Value} (h : Blk w g t cs) (e : cs = cs') : Blk w g t cs' := e ▸ h
section
variable {w a b : World} {g : Nat}
theorem bes_below (h : w.grownBy a (some g)) (hb : Below a.heap.size a b) : w.grownBy b (some g) :=
  ⟨hb.os.trans h.os, hb.tape.trans h.tape, hb.output.trans h.output, Nat.le_trans h.size hb.size, fun k hk hne => (hb.block k (Nat.lt_of_lt_of_le hk h.size)).trans (h.block k hk hne)⟩
theorem bes_set (h : w.grownBy a (some g)) (i : Nat) (v : Value) : w.grownBy (a.setCell ⟨g, i, none⟩ v) (some g) :=
  ⟨h.os, h.tape, h.output, by have := h.size; simp [World.setCell]; omega, fun k hk hne => (Below.heap_setCell a ⟨g, i, none⟩ v k (fun e => hne (by rw [e]))).trans (h.block k hk hne)⟩
theorem Blk.grew {v v' : Value} {t : TypeId} {cs : Array Value} (h : Blk a g t cs) (hg : Grew a b v v') (hv : ∀ k, v.ownBlock = some k → g < k) : Blk b g t cs :=
  (hg.grown.block g h.lt (fun e => by have := hv g e.symm; omega)).trans h
end
end Go.Proofs.YtjgnnobccecpeaaGreatDoor
/- What the loops over rows hold. -/
namespace Go.Proofs.YtjgnnobccecpeaaGreatDoor
open Go.RowKit
def JobsOk (xs : List JobD) : Prop := ∀ x ∈ xs, x.name.size ≤ 9223372036854775807 ∧ x.tag.size ≤ 9223372036854775807
def JobInv (xs : List JobD) (n : Nat) (R : Int) (w : World) (i : Value) (wr : World) : Prop := ∃ k : Nat, k ≤ n ∧ i = .int .i64 k ∧ rowsFrom jobE JobD.name (prevK JobD.name xs k) (xs.drop k) = R ∧ Below w.heap.size w wr
def NodesOk (xs : List NodeD) : Prop := ∀ x ∈ xs, x.name.size ≤ 9223372036854775807 ∧ x.zone.size ≤ 9223372036854775807
def NodeInv (xs : List NodeD) (n : Nat) (R : Int) (w : World) (i : Value) (wr : World) : Prop := ∃ k : Nat, k ≤ n ∧ i = .int .i64 k ∧ rowsFrom nodeE NodeD.name (prevK NodeD.name xs k) (xs.drop k) = R ∧ Below w.heap.size w wr
end Go.Proofs.YtjgnnobccecpeaaGreatDoor
