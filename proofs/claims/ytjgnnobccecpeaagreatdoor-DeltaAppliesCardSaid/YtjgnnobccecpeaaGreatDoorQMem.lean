/- Of the proof of a statement: Kit, Mem. -/
import Derived.Test.YtjgnnobccecpeaaGreatDoorRows
import Derived.WalkKit
import Derived.Lib.Hide
import Derived.WalkSpells
import Derived.WalkLawsBesides
import Derived.Laws.OwnMore
import Derived.Laws.Rows
set_option linter.unusedVariables false
set_option linter.unusedSimpArgs false
/- Small words that all walks use: an ending by its value. -/
namespace Go.Proofs.YtjgnnobccecpeaaGreatDoor
open Go.RowKit
theorem ret_int {k : IntKind} {a b : Int} (h : a = b) : Ending.returned (.int k a) = .returned (.int k b) := by rw [h]
theorem ret_bool {a b : Bool} (h : a = b) : Ending.returned (.bool a) = .returned (.bool b) := by rw [h]
end Go.Proofs.YtjgnnobccecpeaaGreatDoor
/- Words for memory: a row of cells, and a slice that reads as a list of cells. -/
namespace Go.Proofs.YtjgnnobccecpeaaGreatDoor
open Go.RowKit
/-- From address (b, off) on the cells hold xs. -/
def RowAt (w : World) (b off : Nat) (xs : List Value) : Prop := ∀ j u, xs[j]? = some u → w.cell? ⟨b, off + j, none⟩ = some u
/-- A slice of n elements, sz cells each, that reads as xs, in blocks below B. -/
structure SlAt (w : World) (B sz : Nat) (A : Option Addr) (n : Nat) (xs : List Value) : Prop where
  len : xs.length = n * sz
  at_ : 0 < n → ∃ b off, A = some ⟨b, off, none⟩ ∧ b < B ∧ RowAt w b off xs
section
variable {w w' : World} {B B' b off sz n : Nat} {A : Option Addr} {xs : List Value}
theorem RowAt.cell {j : Nat} {u : Value} (h : RowAt w b off xs) (hu : xs[j]? = some u) : w.cell? ⟨b, off + j, none⟩ = some u := h j u hu
theorem RowAt.below (h : RowAt w b off xs) (hb : Below B w w') (hB : b < B) : RowAt w' b off xs := fun j u hu => (hb.cell (p := ⟨b, off + j, none⟩) hB).trans (h j u hu)
theorem RowAt.drop (h : RowAt w b off xs) (k : Nat) : RowAt w b (off + k) (xs.drop k) := fun j u hu => by
  rw [Nat.add_assoc]; exact h (k + j) u (by rw [← hu, List.getElem?_drop])
theorem RowAt.take (h : RowAt w b off xs) (k : Nat) : RowAt w b off (xs.take k) := fun j u hu => h j u (by
  rw [List.getElem?_take] at hu; split at hu
  · exact hu
  · cases hu)
theorem SlAt.below (h : SlAt w B sz A n xs) (hb : Below B w w') : SlAt w' B sz A n xs :=
  ⟨h.len, fun hn => by obtain ⟨b, off, e, hB, hr⟩ := h.at_ hn; exact ⟨b, off, e, hB, hr.below hb hB⟩⟩
theorem SlAt.more (h : SlAt w B sz A n xs) (hB : B ≤ B') : SlAt w B' sz A n xs :=
  ⟨h.len, fun hn => by obtain ⟨b, off, e, hb, hr⟩ := h.at_ hn; exact ⟨b, off, e, by omega, hr⟩⟩
theorem SlAt.nil : SlAt w B sz A 0 [] := ⟨by simp, fun h => absurd h (by omega)⟩
theorem SlAt.cell (h : SlAt w B sz A n xs) {j : Nat} (hj : j < n * sz) : ∃ b off u, A = some ⟨b, off, none⟩ ∧ b < B ∧ xs[j]? = some u ∧ w.cell? ⟨b, off + j, none⟩ = some u := by
  have hn : 0 < n := by
    rcases Nat.eq_zero_or_pos n with h0 | h0
    · subst h0; omega
    · exact h0
  obtain ⟨b, off, e, hB, hr⟩ := h.at_ hn
  have hl : j < xs.length := by rw [h.len]; exact hj
  exact ⟨b, off, xs[j], e, hB, List.getElem?_eq_getElem hl, hr j _ (List.getElem?_eq_getElem hl)⟩
theorem RowAt.new (w : World) (t : TypeId) (cs : Array Value) : RowAt (w.alloc (.cells cs t)) w.heap.size 0 cs.toList := fun j u hu => by
  rw [cell_of_row (w.alloc (.cells cs t)) w.heap.size (0 + j) cs t (0, 0) (heap_alloc_new w _), Nat.zero_add]
  simpa using hu
theorem SlAt.new (w : World) (t : TypeId) (cs : Array Value) (h : cs.size = n * sz) : SlAt (w.alloc (.cells cs t)) (w.heap.size + 1) sz (some ⟨w.heap.size, 0, none⟩) n cs.toList :=
  ⟨by simpa using h, fun _ => ⟨_, _, rfl, by omega, RowAt.new w t cs⟩⟩
theorem SlAt.alloc (h : SlAt w B sz A n xs) (hB : B ≤ w.heap.size) (o : Obj) : SlAt (w.alloc o) B sz A n xs := h.below ((Below.refl B w).alloc hB o)
theorem SlAt.drew (h : SlAt w B sz A n xs) : SlAt w.drew B sz A n xs := ⟨h.len, h.at_⟩
theorem RowAt.drew (h : RowAt w b off xs) : RowAt w.drew b off xs := h
end
/-- What lay below a block number still lies there: as two rules for the walk. -/
theorem bcell {B : Nat} {W w1 : World} (hb : Below B W w1) : (∀ b o, b < B → w1.cell? ⟨b, o, none⟩ = W.cell? ⟨b, o, none⟩) ∧ (∀ b o, b < B → w1.frozen? ⟨b, o, none⟩ = W.frozen? ⟨b, o, none⟩) :=
  ⟨fun b o h => hb.cell (p := ⟨b, o, none⟩) h, fun b o h => hb.frozen (p := ⟨b, o, none⟩) h⟩
end Go.Proofs.YtjgnnobccecpeaaGreatDoor
