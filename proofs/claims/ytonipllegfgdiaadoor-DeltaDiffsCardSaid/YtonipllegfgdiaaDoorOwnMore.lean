/- Rows of the call's own: what becomes of them where something else turns. -/
import Derived.Test.YtonipllegfgdiaaDoorOwnSet
import Derived.Test.YtonipllegfgdiaaDoorStOwn
set_option linter.unusedVariables false
set_option linter.unusedSimpArgs false
namespace Go.Proofs.YtonipllegfgdiaaDoor
open Go.RowKit
theorem ownU_below {w w' : World} {base n sz : Nat} {e : TypeId} {v : Value} {xs : List Value} (ho : w.ownsRow base e sz v n xs) (hb : Below w.heap.size w w') : w'.ownsRow base e sz v n xs := by
  rcases ho with ⟨h1, h | ⟨q, cap, cur, hv, hq, hgq, r⟩⟩
  · exact ⟨h1, .inl h⟩
  · have hlt : q < w.heap.size := (Array.getElem?_eq_some_iff.1 hgq).1
    exact ⟨h1, .inr ⟨q, cap, cur, hv, hq, (hb.block q hlt).trans hgq, r⟩⟩
/-- A cell of a row of the call's own is set: by the address as it stands. -/
theorem own_setAt {w : World} {base sz n b off c : Nat} {e : TypeId} {xs : List Value} (ho : w.ownsRow base e sz (.slice (some ⟨b, off, none⟩) n c) n xs) (j : Nat) (hj : j < n * sz) (u : Value) :
    (w.setCell ⟨b, off + j, none⟩ u).ownsRow base e sz (.slice (some ⟨b, off, none⟩) n c) n (xs.set j u) ∧ w.frozen? ⟨b, off + j, none⟩ = false ∧ b < w.heap.size ∧ base ≤ b ∧ ∃ cs, w.heap[b]? = some (.cells cs e (0, 0)) := by
  have h0 : off = 0 := by
    rcases ho.2 with ⟨h, _⟩ | ⟨q, cap, cur, hv, _⟩
    · cases h
    · injection hv with e1 e2 e3
      injection e1 with e1
      injection e1
  subst h0
  obtain ⟨h1, h2, h3, h4⟩ := ownT_set ho j hj u
  refine ⟨by rw [Nat.zero_add]; exact h1, by rw [Nat.zero_add]; exact h2, h3, h4, ?_⟩
  rcases ho.2 with ⟨h, _⟩ | ⟨q, cap, cur, hv, _, hg, _⟩
  · cases h
  · injection hv with e1 e2 e3
    injection e1 with e1
    injection e1 with e1
    subst e1
    exact ⟨_, hg⟩
/-- Rows of another type, where a cell of a row is set. -/
theorem own_setOther {w : World} {base sz n b i : Nat} {e e' : TypeId} {v u : Value} {xs : List Value} {cs : Array Value} (ho : w.ownsRow base e sz v n xs) (hb : w.heap[b]? = some (.cells cs e' (0, 0))) (hne : e ≠ e') : (w.setCell ⟨b, i, none⟩ u).ownsRow base e sz v n xs := by
  rcases ho with ⟨h1, h | ⟨q, cap, cur, hv, hq, hgq, r⟩⟩
  · exact ⟨h1, .inl h⟩
  · refine ⟨h1, .inr ⟨q, cap, cur, hv, hq, ?_, r⟩⟩
    rw [Below.heap_setCell w ⟨b, i, none⟩ u q (fun e1 => ?_)]
    · exact hgq
    · have e1 : q = b := e1
      rw [e1, hb] at hgq
      simp only [Option.some.injEq, Obj.cells.injEq] at hgq
      exact hne hgq.2.1.symm
theorem own_rec {α : Type} {enc : α → List Value} {w : World} {base sz n c : Nat} {T : TypeId} {A : Option Addr} {l : List α} (hz : ∀ a, (enc a).length = sz) (h : w.ownsRow base T sz (.slice A n c) n (rowsV enc l)) (hl : l.length = n) {i : Nat} {a : α} (hi : l[i]? = some a) :
    ∃ b off, A = some ⟨b, off, none⟩ ∧ base ≤ b ∧ b < w.heap.size ∧ ∀ j u, (enc a)[j]? = some u → w.cell? ⟨b, off + i * sz + j, none⟩ = some u := by
  obtain ⟨b, off, e, hb, hc⟩ := (own_slAt h).rec_ hz hl hi
  refine ⟨b, off, e, ?_, hb, hc⟩
  subst e
  rcases h.2 with ⟨h', _⟩ | ⟨q, cap, cur, hv, hq, _⟩
  · cases h'
  · injection hv with e1
    injection e1 with e1
    injection e1 with e1
    omega
theorem blk_setOther {w : World} {S b i : Nat} {T e : TypeId} {u : Value} {cs cs' : Array Value} (h : Blk w S T cs) (hb : w.heap[b]? = some (.cells cs' e (0, 0))) (hne : T ≠ e) : Blk (w.setCell ⟨b, i, none⟩ u) S T cs := by
  unfold Blk at h ⊢
  rw [Below.heap_setCell w ⟨b, i, none⟩ u S (fun e1 => ?_)]
  · exact h
  · have e1 : S = b := e1
    rw [e1, hb] at h
    simp only [Option.some.injEq, Obj.cells.injEq] at h
    exact hne h.2.1.symm
theorem below_setB {w0 w : World} {base b i : Nat} {u : Value} (h : Below base w0 w) (hb : base ≤ b) : Below base w0 (w.setCell ⟨b, i, none⟩ u) :=
  ⟨h.os, h.tape, h.output, by have := h.size; simpa [World.setCell] using this, fun k hk => (Below.heap_setCell w ⟨b, i, none⟩ u k (by show k ≠ b; omega)).trans (h.block k hk)⟩
theorem own_grewOther {w w' : World} {base b' sz sz' n n' : Nat} {e e' : TypeId} {v u u' : Value} {xs ys : List Value} (ho : w.ownsRow base e sz v n xs) (hg : Grew w w' u u') (hu : w.ownsRow b' e' sz' u n' ys) (hne : e ≠ e') : w'.ownsRow base e sz v n xs := by
  rcases ho with ⟨h1, h | ⟨q, cap, cur, hv, hq, hgq, r⟩⟩
  · exact ⟨h1, .inl h⟩
  · have hlt : q < w.heap.size := (Array.getElem?_eq_some_iff.1 hgq).1
    refine ⟨h1, .inr ⟨q, cap, cur, hv, hq, (hg.grown.block q hlt ?_).trans hgq, r⟩⟩
    intro e1
    rcases hu.2 with ⟨rfl, _⟩ | ⟨q', cap', cur', rfl, _, hgq', _⟩
    · simp [Value.ownBlock] at e1
    · simp [Value.ownBlock] at e1
      subst e1
      rw [hgq] at hgq'
      simp only [Option.some.injEq, Obj.cells.injEq] at hgq'
      exact hne hgq'.2.1
theorem own_setNe {w : World} {base sz n J i : Nat} {e : TypeId} {v u : Value} {xs : List Value} (ho : w.ownsRow base e sz v n xs) (hne : ∀ q, v.ownBlock = some q → q ≠ J) : (w.setCell ⟨J, i, none⟩ u).ownsRow base e sz v n xs := by
  rcases ho with ⟨h1, h | ⟨q, cap, cur, hv, hq, hgq, r⟩⟩
  · exact ⟨h1, .inl h⟩
  · refine ⟨h1, .inr ⟨q, cap, cur, hv, hq, ?_, r⟩⟩
    rw [Below.heap_setCell w ⟨J, i, none⟩ u q (hne q (by rw [hv]; simp [Value.ownBlock]))]
    exact hgq
theorem map_take_succ {α β : Type} (f : α → β) {l : List α} {k : Nat} {y : α} (h : l[k]? = some y) : (l.take (k + 1)).map f = (l.take k).map f ++ [f y] := by rw [List.take_add_one, h]; simp
theorem id_take_succ {α : Type} {l : List α} {k : Nat} {y : α} (h : l[k]? = some y) : l.take (k + 1) = l.take k ++ [y] := by rw [List.take_add_one, h]; rfl
end Go.Proofs.YtonipllegfgdiaaDoor
