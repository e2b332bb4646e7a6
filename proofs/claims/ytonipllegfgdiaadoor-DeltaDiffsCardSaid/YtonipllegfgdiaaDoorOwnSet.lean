/- A cell of a row of the call's own is set. -/
import Derived.Test.YtonipllegfgdiaaDoorTake
set_option linter.unusedVariables false
set_option linter.unusedSimpArgs false
namespace Go.Proofs.YtonipllegfgdiaaDoor
open Go.RowKit
theorem ownT_set {w : World} {base sz n g c : Nat} {e : TypeId} {xs : List Value} (ho : w.ownsRow base e sz (.slice (some ⟨g, 0, none⟩) n c) n xs) (j : Nat) (hj : j < n * sz) (u : Value) :
    (w.setCell ⟨g, j, none⟩ u).ownsRow base e sz (.slice (some ⟨g, 0, none⟩) n c) n (xs.set j u) ∧ w.frozen? ⟨g, j, none⟩ = false ∧ g < w.heap.size ∧ base ≤ g := by
  obtain ⟨h1, h | ⟨q, cap, cur, hv, hq, hgq, h2, h3, h4, h5⟩⟩ := ho
  · cases h.1
  · injection hv with e1 e2 e3
    injection e1 with e1
    injection e1 with e1
    subst e1
    subst e3
    have hB : Blk w g e cur := hgq
    refine ⟨⟨by simpa using h1, .inr ⟨g, c, cur.setIfInBounds j u, rfl, hq, hB.set j u, h2, h3, by simpa using h4, ?_⟩⟩, hB.thaw j, hB.lt, hq⟩
    rw [Array.toList_setIfInBounds, List.take_set, h5]
theorem rowsV_set {α : Type} {enc : α → List Value} {sz : Nat} (h : ∀ a, (enc a).length = sz) : ∀ (l : List α) (i k : Nat) (a a' : α) (u : Value), l[i]? = some a → k < sz → (enc a).set k u = enc a' → (rowsV enc l).set (i * sz + k) u = rowsV enc (l.set i a')
  | [], i, k, a, a', u, hi, _, _ => by simp at hi
  | b :: l, 0, k, a, a', u, hi, hk, he => by
    simp only [List.getElem?_cons_zero, Option.some.injEq] at hi
    subst hi
    unfold rowsV
    rw [List.set_cons_zero, List.flatMap_cons, List.flatMap_cons, Nat.zero_mul, Nat.zero_add, List.set_append_left _ _ (by rw [h]; exact hk), he]
  | b :: l, i + 1, k, a, a', u, hi, hk, he => by
    have ih := rowsV_set h l i k a a' u (by simpa using hi) hk he
    unfold rowsV at ih ⊢
    rw [List.set_cons_succ, List.flatMap_cons, List.flatMap_cons, List.set_append_right _ _ (by rw [h, Nat.add_mul]; omega), h, show (i + 1) * sz + k - sz = i * sz + k from by rw [Nat.add_mul]; omega, ih]
end Go.Proofs.YtonipllegfgdiaaDoor
