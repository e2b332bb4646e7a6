/- Of the proof of a statement: Jrd. -/
import Derived.Test.YtcodhhabfacnjaaGreatDoorSLayJs
import Derived.Test.YtcodhhabfacnjaaGreatDoorSPlJp
import Derived.Test.YtcodhhabfacnjaaGreatDoorSRTab
import Derived.Test.YtcodhhabfacnjaaGreatDoorSTake
set_option linter.unusedVariables false
set_option linter.unusedSimpArgs false
/- The walks of the program's reader of JSON: is, must, number. -/
namespace Go.Proofs.YtcodhhabfacnjaaGreatDoor
open Go.RowKit
open Go.Lib (hasPrefix trimPrefix atoiAll atoiSat)
/-- The reader's block. -/
def JrAt (w : World) (g : Nat) (σ : JS) : Prop := Blk w g 34 #[.string (BA σ.1), .bool σ.2]
/-- What a reader's method leaves. -/
def JrPost (g : Nat) (σ : JS) (v : Value) (w : World) (e : Ending) (w' : World) : Prop := e = .returned v ∧ JrAt w' g σ ∧ w.grownBy w' (some g)
set_option maxRecDepth 100000 in
theorem jis (g : Nat) (σ : JS) (p : ByteArray) (w : World) (h : JrAt w g σ) :
    Calls Tryz.prog 28 #[.pointer (some ⟨g, 0, none⟩), .string p] w (JrPost g (trimPrefix σ.1 p.data.toList, σ.2) (.bool (hasPrefix σ.1 p.data.toList)) w) := by
  have y0 : w.cell? ⟨g, 0, none⟩ = some (.string (BA σ.1)) := Blk.cell h 0
  have z0 : w.frozen? ⟨g, 0, none⟩ = false := Blk.thaw h 0
  have hl := Blk.lt h
  have HC := Lib.hid (Any.strings_CutPrefix layCut (BA σ.1) p w)
  have HE := Lib.hid (show JrPost g (trimPrefix σ.1 p.data.toList, σ.2) (.bool (hasPrefix σ.1 p.data.toList)) w (.returned (.bool (hasPrefix σ.1 p.data.toList))) (w.setCell ⟨g, 0, none⟩ (.string (BA (trimPrefix σ.1 p.data.toList)))) from ⟨rfl, Blk.eq (Blk.set h 0 _) (by simp), grow_set _ _ _ _⟩)
  obtain ⟨R, hR⟩ : ∃ R, BA (trimPrefix σ.1 p.data.toList) = R := ⟨_, rfl⟩
  obtain ⟨H, hH⟩ : ∃ H, hasPrefix σ.1 p.data.toList = H := ⟨_, rfl⟩
  rw [show (⟨(trimPrefix (BA σ.1).data.toList p.data.toList).toArray⟩ : ByteArray) = R from hR, show hasPrefix (BA σ.1).data.toList p.data.toList = H from hH] at HC
  rw [hR, hH] at HE
  rw [hH]
  clear h hR hH
  go_enter Tryz.func28, Tryz.ntmps28
  go_wp2_with fail
  refine Calls.mono HC.out ?_
  rintro e w1 ⟨rfl, rfl⟩
  go_wp2
  go_ret
  exact HE.out
set_option maxRecDepth 100000 in
theorem jmust (g : Nat) (σ : JS) (p : ByteArray) (w : World) (h : JrAt w g σ) :
    Calls Tryz.prog 7 #[.pointer (some ⟨g, 0, none⟩), .string p] w (JrPost g (mustJ p.data.toList σ) (.tuple #[]) w) := by
  obtain ⟨l, b⟩ := σ
  have y1 : w.cell? ⟨g, 1, none⟩ = some (.bool b) := Blk.cell h 1
  have hl := Blk.lt h
  cases b with
  | true =>
    have z1 : w.frozen? ⟨g, 1, none⟩ = false := Blk.thaw h 1
    have HE := Lib.hid (show JrPost g (mustJ p.data.toList (l, true)) (.tuple #[]) w (.returned (.tuple #[])) (w.setCell ⟨g, 1, none⟩ (.bool true)) from ⟨rfl, Blk.eq (Blk.set h 1 _) (by simp [mustJ]), grow_set _ _ _ _⟩)
    clear h
    go_enter Tryz.func7, Tryz.ntmps7
    go_wp2
    go_end0
    exact HE.out
  | false =>
    have HI := Lib.hid (jis g (l, false) p w h)
    have Hm := Lib.hid (show mustJ p.data.toList (l, false) = (trimPrefix l p.data.toList, !hasPrefix l p.data.toList) from rfl)
    obtain ⟨M, hM⟩ : ∃ M, mustJ p.data.toList (l, false) = M := ⟨_, rfl⟩
    rw [hM] at Hm ⊢
    obtain ⟨H, hH⟩ : ∃ H, hasPrefix l p.data.toList = H := ⟨_, rfl⟩
    rw [hH] at Hm
    simp only [hH] at HI
    clear h hM hH
    go_enter Tryz.func7, Tryz.ntmps7
    go_wp2_with fail
    refine Calls.mono HI.out ?_
    rintro e w1 ⟨rfl, hJ, hg⟩
    have x1 : w1.cell? ⟨g, 1, none⟩ = some (.bool false) := Blk.cell hJ 1
    have z1 : w1.frozen? ⟨g, 1, none⟩ = false := Blk.thaw hJ 1
    have hl1 := Blk.lt hJ
    have HE := Lib.hid (show JrPost g M (.tuple #[]) w (.returned (.tuple #[])) (w1.setCell ⟨g, 1, none⟩ (.bool (!H))) from ⟨rfl, Blk.eq (Blk.set hJ 1 _) (by rw [Hm.out]; simp), bes_set hg _ _⟩)
    clear hJ hg
    go_wp2
    go_end0
    exact HE.out
/-- The variables that the library's errors lie in. -/
structure ErrVars (w : World) (g : Nat) : Prop where
  s : ∃ t p, w.cell? ⟨0, 0, none⟩ = some (.iface t p)
  r : ∃ t p, w.cell? ⟨1, 0, none⟩ = some (.iface t p)
  sne : 0 ≠ g
  rne : 1 ≠ g
theorem cell_but {w w' : World} {g b o : Nat} {v : Value} (hg : w.grownBy w' (some g)) (hne : b ≠ g) (h : w.cell? ⟨b, o, none⟩ = some v) : w'.cell? ⟨b, o, none⟩ = some v :=
  (World.cell?_of_block (hg.block b (block_lt_of_cell h) (by simp [hne]))).trans h
theorem ErrVars.grow {w w' : World} {g : Nat} (h : ErrVars w g) (hg : w.grownBy w' (some g)) : ErrVars w' g := by
  obtain ⟨⟨t, p, h1⟩, ⟨t', p', h2⟩, h3, h4⟩ := h
  exact ⟨⟨t, p, cell_but hg h3 h1⟩, ⟨t', p', cell_but hg h4 h2⟩, h3, h4⟩
/-- The reader, and what its methods want. -/
structure JrOk (w : World) (g : Nat) (σ : JS) : Prop where
  at_ : JrAt w g σ
  err : ErrVars w g
  len : σ.1.length ≤ 60000
def JoPost (g : Nat) (σ : JS) (v : Value) (w : World) (e : Ending) (w' : World) : Prop := e = .returned v ∧ JrOk w' g σ ∧ w.grownBy w' (some g)
theorem JrOk.drew {w : World} {g : Nat} {σ : JS} (h : JrOk w g σ) : JrOk w.drew g σ := ⟨h.at_, ⟨h.err.s, h.err.r, h.err.sne, h.err.rne⟩, h.len⟩
theorem JoPost.drew {g : Nat} {σ : JS} {v : Value} {w W : World} {e : Ending} (h : JoPost g σ v w e W) : JoPost g σ v w e W.drew := ⟨h.1, h.2.1.drew, h.2.2.os, h.2.2.tape, h.2.2.output, h.2.2.size, h.2.2.block⟩
theorem jis_any (g : Nat) (σ : JS) (p : ByteArray) (w : World) (h : JrOk w g σ) :
    Calls Tryz.prog 28 #[.pointer (some ⟨g, 0, none⟩), .string p] w (JoPost g (trimPrefix σ.1 p.data.toList, σ.2) (.bool (hasPrefix σ.1 p.data.toList)) w) :=
  (jis g σ p w h.at_).mono fun e w' ⟨h1, h2, h3⟩ => ⟨h1, ⟨h2, h.err.grow h3, Nat.le_trans (trim_len _ _) h.len⟩, h3⟩
theorem jmust_any (g : Nat) (σ : JS) (p : ByteArray) (w : World) (h : JrOk w g σ) :
    Calls Tryz.prog 7 #[.pointer (some ⟨g, 0, none⟩), .string p] w (JoPost g (mustJ p.data.toList σ) (.tuple #[]) w) :=
  (jmust g σ p w h.at_).mono fun e w' ⟨h1, h2, h3⟩ => ⟨h1, ⟨h2, h.err.grow h3, Nat.le_trans (must_len _ _) h.len⟩, h3⟩
theorem atoi_any (l : List UInt8) (hl : l.length ≤ 60000) (w : World) (g : Nat) (h : ErrVars w g) :
    Calls Tryz.prog 29 #[.string (BA l)] w fun e w' => ∃ v E, e = .returned (.tuple #[.int .i64 v, E]) ∧ Below w.heap.size w w' ∧ ((E = .nilIface ∧ atoiAll l = .ok v) ∨ (∃ t p, E = .iface t p ∧ atoiAll l = atoiAll [] ∧ v = 0) ∨ (∃ t p, E = .iface t p ∧ atoiAll l = .range ∧ v = atoiSat l)) := by
  have hz : (BA l).size ≤ 60000 := by rw [BA_size]; exact hl
  rcases ha : atoiAll l with v | _ | _
  · refine (Any.strconv_Atoi_ok layAtoi (BA l) (by omega) v ha w).mono ?_
    rintro e w' ⟨rfl, hw⟩
    refine ⟨v, _, rfl, ?_, .inl ⟨rfl, rfl⟩⟩
    rcases hw with rfl | ⟨t, rfl⟩
    · exact Below.refl _ _
    · exact Lib.bytesWorld_below _ _ _
  · obtain ⟨t, p, hc⟩ := h.s
    refine (Any.strconv_Atoi_syntax layAtoi (BA l) (by omega) ha _ w hc (.inr ⟨t, p, rfl⟩)).mono ?_
    rintro e w' ⟨N, rfl, _, _, hb⟩
    exact ⟨0, _, rfl, hb, .inr (.inl ⟨_, _, rfl, rfl, rfl⟩)⟩
  · obtain ⟨t, p, hc⟩ := h.r
    refine (Any.strconv_Atoi_range layAtoi (BA l) (by omega) ha _ w hc (.inr ⟨t, p, rfl⟩)).mono ?_
    rintro e w' ⟨N, rfl, _, _, hb⟩
    exact ⟨_, _, rfl, hb, .inr (.inr ⟨_, _, rfl, rfl, rfl⟩)⟩
end Go.Proofs.YtcodhhabfacnjaaGreatDoor
