/- Of the proof of a statement: Rdr, RdRow, Take, Fld. -/
import Derived.Lib.ValidLaws
import Derived.Laws.Bits64b
import Derived.Laws.BitsAllLaws
import Derived.Below
import Derived.Test.YtcodhhabfacnjaaGreatDoorSDig
import Derived.Test.YtcodhhabfacnjaaGreatDoorSRowsL
import Derived.Test.YtcodhhabfacnjaaGreatDoorSUtf
set_option linter.unusedVariables false
set_option linter.unusedSimpArgs false
/- The walks of a Reader. -/
namespace Go.Proofs.YtcodhhabfacnjaaGreatDoor
open Go.RowKit
theorem grow_refl (w : World) (g : Nat) : w.grownBy w (some g) := ⟨rfl, rfl, rfl, Nat.le_refl _, fun _ _ _ => rfl⟩
theorem grow_trans {w w' w'' : World} {g : Nat} (h : w.grownBy w' (some g)) (h' : w'.grownBy w'' (some g)) : w.grownBy w'' (some g) :=
  ⟨h'.os.trans h.os, h'.tape.trans h.tape, h'.output.trans h.output, Nat.le_trans h.size h'.size, fun k hk hne => (h'.block k (Nat.lt_of_lt_of_le hk h.size) hne).trans (h.block k hk hne)⟩
theorem grow_below {w w' : World} (g : Nat) (h : Below w.heap.size w w') : w.grownBy w' (some g) := ⟨h.os, h.tape, h.output, h.size, fun k hk _ => h.block k hk⟩
theorem grow_blk {w w' : World} {g k : Nat} {t : TypeId} {cs : Array Value} (h : w.grownBy w' (some g)) (hk : Blk w k t cs) (hne : k ≠ g) : Blk w' k t cs :=
  (h.block k hk.lt (by simp; exact hne)).trans hk
theorem grow_set (w : World) (g i : Nat) (v : Value) : w.grownBy (w.setCell ⟨g, i, none⟩ v) (some g) := bes_set (grow_refl w g) i v
end Go.Proofs.YtcodhhabfacnjaaGreatDoor
/- The walks of a Reader's rows: a job, a node, a lease. -/
namespace Go.Proofs.YtcodhhabfacnjaaGreatDoor
open Go.RowKit
theorem Tabs.grow {w w' : World} {b : Nat} (h : Tabs w) (h3 : ren.g 3 ≠ b) (h4 : ren.g 4 ≠ b) (hg : w.grownBy w' (some b)) : Tabs w' := by
  have cell : ∀ {a : Addr} {v : Value}, a.block ≠ b → w.cell? a = some v → w'.cell? a = some v := fun {a v} hne hc => by
    have hlt : a.block < w.heap.size := by
      rcases Nat.lt_or_ge a.block w.heap.size with h' | h'
      · exact h'
      · simp [World.cell?, Array.getElem?_eq_none h'] at hc
    have := hg.block a.block hlt (by simp; exact hne)
    rw [← hc]
    unfold World.cell?
    rw [this]
  exact ⟨fun c hc => cell h3 (h.1 c hc), fun i hi => ⟨cell h4 (h.2 i hi).1, cell h4 (h.2 i hi).2⟩⟩
end Go.Proofs.YtcodhhabfacnjaaGreatDoor
/- The walks of Take: the rows of a table, read one by one. -/
namespace Go.Proofs.YtcodhhabfacnjaaGreatDoor
open Go.RowKit
theorem infoJobT : (Tryz.prog.info? 39).map (fun i => (i.zero, i.size, i.bytes)) = some (some (.agg #[.string ⟨#[]⟩, .int .i64 0, .int .i64 0, .int .i64 0, .string ⟨#[]⟩]), 5, 56) := by kernel_rfl
theorem infoNodeT : (Tryz.prog.info? 43).map (fun i => (i.zero, i.size, i.bytes)) = some (some (.agg #[.string ⟨#[]⟩, .int .i64 0, .string ⟨#[]⟩]), 3, 40) := by kernel_rfl
theorem infoLeaseT : (Tryz.prog.info? 47).map (fun i => (i.zero, i.size, i.bytes)) = some (some (.agg #[.string ⟨#[]⟩, .string ⟨#[]⟩, .int .i64 0]), 3, 40) := by kernel_rfl
theorem jobV_oneT (x : JobD) : ∀ u ∈ jobV x, u.oneCell' = true := by intro u hu; simp [jobV] at hu; rcases hu with rfl | rfl | rfl | rfl | rfl <;> rfl
theorem nodeV_oneT (x : NodeD) : ∀ u ∈ nodeV x, u.oneCell' = true := by intro u hu; simp [nodeV] at hu; rcases hu with rfl | rfl | rfl <;> rfl
theorem leaseV_oneT (x : LeaseD) : ∀ u ∈ leaseV x, u.oneCell' = true := by intro u hu; simp [leaseV] at hu; rcases hu with rfl | rfl | rfl <;> rfl
/-- Rows of the call's own, where another block turned. -/
theorem ownT_grow {w w' : World} {base g n sz : Nat} {e : TypeId} {v : Value} {xs : List Value} (ho : w.ownsRow base e sz v n xs) (hg : w.grownBy w' (some g)) (hgb : g < base) : w'.ownsRow base e sz v n xs := by
  rcases ho with ⟨h1, h | ⟨q, cap, cur, hv, hq, hgq, r⟩⟩
  · exact ⟨h1, .inl h⟩
  · have hlt : q < w.heap.size := (Array.getElem?_eq_some_iff.1 hgq).1
    exact ⟨h1, .inr ⟨q, cap, cur, hv, hq, (hg.block q hlt (by simp; omega)).trans hgq, r⟩⟩
theorem Blk.grewT {w w' : World} {k base : Nat} {t : TypeId} {cs : Array Value} {v v' : Value} (h : Blk w k t cs) (hg : Grew w w' v v') (hv : ∀ q, v.ownBlock = some q → base ≤ q) (hkb : k < base) : Blk w' k t cs :=
  (hg.grown.block k h.lt (fun e => by have := hv k e.symm; omega)).trans h
end Go.Proofs.YtcodhhabfacnjaaGreatDoor
/- The printer's fields in memory. -/
namespace Go.Proofs.YtcodhhabfacnjaaGreatDoor
open Go.RowKit
/-- A block that is no row of bytes. -/
def Solid (w : World) (b : Nat) : Prop := ∃ o, w.heap[b]? = some o ∧ ∀ c fz, o ≠ .cells c 5 fz
theorem Solid.same {w w' : World} {b : Nat} (h : Solid w b) (hk : Lib.OthersKept 5 none w w') : w'.heap[b]? = w.heap[b]? := by
  obtain ⟨o, h1, h2⟩ := h
  rw [hk b o h1 (by simp) h2, h1]
theorem Solid.kept {w w' : World} {b : Nat} (h : Solid w b) (hk : Lib.OthersKept 5 none w w') : Solid w' b := by
  have e := h.same hk
  obtain ⟨o, h1, h2⟩ := h
  exact ⟨o, e.trans h1, h2⟩
theorem cell_of_block {w w' : World} {b o : Nat} (h : w'.heap[b]? = w.heap[b]?) : w'.cell? ⟨b, o, none⟩ = w.cell? ⟨b, o, none⟩ := by
  unfold World.cell?
  rw [show w'.heap[(⟨b, o, none⟩ : Addr).block]? = w.heap[(⟨b, o, none⟩ : Addr).block]? from h]
/-- A field's value: a number or a text below B. -/
def FvAt (B : Nat) (w : World) (v : FV) (p q : Value) : Prop := match v with
  | .num x => q = .pointer none ∧ ∃ b o, p = .pointer (some ⟨b, o, none⟩) ∧ b < B ∧ w.cell? ⟨b, o, none⟩ = some (.int .i64 x)
  | .txt s => p = .pointer none ∧ ∃ b o, q = .pointer (some ⟨b, o, none⟩) ∧ b < B ∧ w.cell? ⟨b, o, none⟩ = some (.string s)
theorem FvAt.kept {B : Nat} {w w' : World} {v : FV} {p q : Value} (h : FvAt B w v p q) (hb : Below B w w') : FvAt B w' v p q := by
  cases v with
  | num x => obtain ⟨h0, b, o, h1, h2, h3⟩ := h; exact ⟨h0, b, o, h1, h2, (hb.cell (p := ⟨b, o, none⟩) h2).trans h3⟩
  | txt s => obtain ⟨h0, b, o, h1, h2, h3⟩ := h; exact ⟨h0, b, o, h1, h2, (hb.cell (p := ⟨b, o, none⟩) h2).trans h3⟩
structure FldAt (B : Nat) (w : World) (fb fo : Nat) (fs : List (ByteArray × FV)) : Prop where
  solid : Solid w fb
  at_ : ∀ k nm v, fs[k]? = some (nm, v) → ∃ p q, w.cell? ⟨fb, fo + k * 3, none⟩ = some (.string nm) ∧ w.cell? ⟨fb, fo + k * 3 + 1, none⟩ = some p ∧ w.cell? ⟨fb, fo + k * 3 + 2, none⟩ = some q ∧ FvAt B w v p q
theorem FldAt.kept {B : Nat} {w w' : World} {fb fo : Nat} {fs : List (ByteArray × FV)} (h : FldAt B w fb fo fs) (hb : Below B w w') (hk : Lib.OthersKept 5 none w w') : FldAt B w' fb fo fs := by
  have e := h.solid.same hk
  refine ⟨h.solid.kept hk, fun k nm v hkv => ?_⟩
  obtain ⟨p, q, h1, h2, h3, h4⟩ := h.at_ k nm v hkv
  exact ⟨p, q, (cell_of_block e).trans h1, (cell_of_block e).trans h2, (cell_of_block e).trans h3, h4.kept hb⟩
end Go.Proofs.YtcodhhabfacnjaaGreatDoor
