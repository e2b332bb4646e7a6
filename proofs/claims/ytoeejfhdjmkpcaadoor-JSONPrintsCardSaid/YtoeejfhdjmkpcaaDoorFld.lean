/- The printer's fields in memory. -/
import Derived.Test.YtoeejfhdjmkpcaaDoorJs
set_option linter.unusedVariables false
set_option linter.unusedSimpArgs false
namespace Go.Proofs.YtoeejfhdjmkpcaaDoor
open Go.RowKit
/-- A block that is no row of bytes. -/
def Solid (w : World) (b : Nat) : Prop := ∃ o, w.heap[b]? = some o ∧ ∀ c fz, o ≠ .cells c 5 fz
theorem Solid.same {w w' : World} {b : Nat} (h : Solid w b) (hk : Lib.OthersKept 5 none w w') : w'.heap[b]? = w.heap[b]? := by
  obtain ⟨o, h1, h2⟩ := h
  rw [hk b o h1 (by simp) h2, h1]
theorem Solid.kept {w w' : World} {b : Nat} (h : Solid w b) (hk : Lib.OthersKept 5 none w w') : Solid w' b := by
  have e := h.same hk
  obtain ⟨o, h1, h2⟩ := h
  exact ⟨o, e.trans h1, h2⟩
theorem cell_of_block {w w' : World} {b o : Nat} (h : w'.heap[b]? = w.heap[b]?) : w'.cell? ⟨b, o, none⟩ = w.cell? ⟨b, o, none⟩ := by
  unfold World.cell?
  rw [show w'.heap[(⟨b, o, none⟩ : Addr).block]? = w.heap[(⟨b, o, none⟩ : Addr).block]? from h]
/-- A field's value: a number or a text below B. -/
def FvAt (B : Nat) (w : World) (v : FV) (p q : Value) : Prop := match v with
  | .num x => q = .pointer none ∧ ∃ b o, p = .pointer (some ⟨b, o, none⟩) ∧ b < B ∧ w.cell? ⟨b, o, none⟩ = some (.int .i64 x)
  | .txt s => p = .pointer none ∧ ∃ b o, q = .pointer (some ⟨b, o, none⟩) ∧ b < B ∧ w.cell? ⟨b, o, none⟩ = some (.string s)
theorem FvAt.kept {B : Nat} {w w' : World} {v : FV} {p q : Value} (h : FvAt B w v p q) (hb : Below B w w') : FvAt B w' v p q := by
  cases v with
  | num x => obtain ⟨h0, b, o, h1, h2, h3⟩ := h; exact ⟨h0, b, o, h1, h2, (hb.cell (p := ⟨b, o, none⟩) h2).trans h3⟩
  | txt s => obtain ⟨h0, b, o, h1, h2, h3⟩ := h; exact ⟨h0, b, o, h1, h2, (hb.cell (p := ⟨b, o, none⟩) h2).trans h3⟩
structure FldAt (B : Nat) (w : World) (fb fo : Nat) (fs : List (ByteArray × FV)) : Prop where
  solid : Solid w fb
  at_ : ∀ k nm v, fs[k]? = some (nm, v) → ∃ p q, w.cell? ⟨fb, fo + k * 3, none⟩ = some (.string nm) ∧ w.cell? ⟨fb, fo + k * 3 + 1, none⟩ = some p ∧ w.cell? ⟨fb, fo + k * 3 + 2, none⟩ = some q ∧ FvAt B w v p q
theorem FldAt.kept {B : Nat} {w w' : World} {fb fo : Nat} {fs : List (ByteArray × FV)} (h : FldAt B w fb fo fs) (hb : Below B w w') (hk : Lib.OthersKept 5 none w w') : FldAt B w' fb fo fs := by
  have e := h.solid.same hk
  refine ⟨h.solid.kept hk, fun k nm v hkv => ?_⟩
  obtain ⟨p, q, h1, h2, h3, h4⟩ := h.at_ k nm v hkv
  exact ⟨p, q, (cell_of_block e).trans h1, (cell_of_block e).trans h2, (cell_of_block e).trans h3, h4.kept hb⟩
end Go.Proofs.YtoeejfhdjmkpcaaDoor
