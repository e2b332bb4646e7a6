/- Of the proof of a statement: Recs, Pk, TabM, PlUtf. -/
import Derived.Deep.AppendLies
import Derived.Lib.QuietBelow
import Derived.Maps.OwnSet
import Derived.StringKeys
import Derived.Lib.ValidLaws
import Derived.Test.YtjgnnobccecpeaaGreatDoorPPush
set_option linter.unusedVariables false
set_option linter.unusedSimpArgs false
set_option maxRecDepth 100000
set_option maxHeartbeats 8000000
/- Rows of records: lists of elements of several cells each. -/
namespace Go.Proofs.YtjgnnobccecpeaaGreatDoor
open Go.Lib (hid)
open Go.RowKit
def rowsV {α : Type} (enc : α → List Value) (l : List α) : List Value := l.flatMap enc
section
variable {α : Type} {enc : α → List Value} {sz : Nat}
theorem rowsV_append (l k : List α) : rowsV enc (l ++ k) = rowsV enc l ++ rowsV enc k := List.flatMap_append
theorem rowsV_one (a : α) : rowsV enc [a] = enc a := by simp [rowsV]
theorem rowsV_length (h : ∀ a, (enc a).length = sz) : ∀ l : List α, (rowsV enc l).length = l.length * sz
 | [] => by simp [rowsV]
 | a :: l => by
  have := rowsV_length h l
  unfold rowsV at this ⊢
  rw [List.flatMap_cons, List.length_append, this, h, List.length_cons, Nat.add_mul]; omega
theorem rowsV_get (h : ∀ a, (enc a).length = sz) : ∀ (l : List α) (i j : Nat) (a : α), l[i]? = some a → j < sz → (rowsV enc l)[i * sz + j]? = (enc a)[j]?
 | [], i, j, a, hi, _ => by simp at hi
 | b :: l, 0, j, a, hi, hj => by
  simp only [List.getElem?_cons_zero, Option.some.injEq] at hi
  subst hi
  unfold rowsV
  rw [List.flatMap_cons, Nat.zero_mul, Nat.zero_add, List.getElem?_append_left (by rw [h]; exact hj)]
 | b :: l, i + 1, j, a, hi, hj => by
  have := rowsV_get h l i j a (by simpa using hi) hj
  unfold rowsV at this ⊢
  rw [List.flatMap_cons, List.getElem?_append_right (by rw [h, Nat.add_mul]; omega), h, show (i + 1) * sz + j - sz = i * sz + j from by rw [Nat.add_mul]; omega]
  exact this
theorem SlAt.rec_ {w : World} {B n : Nat} {A : Option Addr} {l : List α} (hz : ∀ a, (enc a).length = sz) (h : SlAt w B sz A n (rowsV enc l)) (hl : l.length = n) {i : Nat} {a : α} (hi : l[i]? = some a) :
 ∃ b off, A = some ⟨b, off, none⟩ ∧ b < B ∧ ∀ j u, (enc a)[j]? = some u → w.cell? ⟨b, off + i * sz + j, none⟩ = some u := by
 have hin : i < n := by
  rw [← hl]
  rcases Nat.lt_or_ge i l.length with h1 | h1
  · exact h1
  · rw [List.getElem?_eq_none h1] at hi; cases hi
 obtain ⟨b, off, e, hB, hr⟩ := h.at_ (by omega)
 refine ⟨b, off, e, hB, fun j u hu => ?_⟩
 rw [Nat.add_assoc]
 refine hr _ _ ?_
 have hj : j < sz := by
  rw [← hz a]
  rcases Nat.lt_or_ge j (enc a).length with h1 | h1
  · exact h1
  · rw [List.getElem?_eq_none h1] at hu; cases hu
 rw [rowsV_get hz l i j a hi hj]; exact hu
end
theorem own_slAt {w : World} {base : Nat} {e : TypeId} {sz n c : Nat} {A : Option Addr} {xs : List Value} (h : w.ownsRow base e sz (.slice A n c) n xs) : SlAt w w.heap.size sz A n xs :=
 ⟨h.1, fun hn => by
  obtain ⟨g, cap, hv, hb, hg⟩ := h.form hn
  injection hv with hA _ hc
  subst hA; subst hc
  refine ⟨g, 0, rfl, hg, fun j u hu => ?_⟩
  have hj : j < n * sz := by
   rw [← h.1]
   rcases Nat.lt_or_ge j xs.length with h1 | h1
   · exact h1
   · rw [List.getElem?_eq_none h1] at hu; cases hu
  rw [Nat.zero_add, h.cellAt j hj]; exact hu⟩
section
variable {P : Program} {w : World} {ops : Array Oper} {rest : List Oper} {o : Oper} {a : Act} {Q : Exit → Act → World → Prop}
theorem push_rec {α : Type} (enc : α → List Value) (hgd : o.guard = none) (s x : Operand) (t e : TypeId) (z : Value) (sz bytes : Nat) (ho : o.op = .call { callee := .builtin .append, args := #[s, x], argTypes := #[t, t] })
 (ht : P.underlying t = some (.slice e)) (hinfo : (P.info? e).map (fun i => (i.zero, i.size, i.bytes)) = some (some z, sz, bytes)) (hzs : z.cells.size = sz) (hsz : 0 < sz)
 (henc : ∀ a, (enc a).length = sz) (h1 : ∀ a, ∀ u ∈ enc a, u.oneCell' = true)
 (base : Nat) (A : Option Addr) (m c : Nat) (l : List α) (hs : a.eval s = .slice A m c) (hown : w.ownsRow base e sz (.slice A m c) m (rowsV enc l))
 (cs : Array Value) (b : α) (hu : cs.toList = enc b) (g : Nat) (hg : w.heap.size = g) (hx : a.eval x = .slice (some ⟨g, 0, none⟩) 1 1) (hm : (m + 1) * bytes ≤ 140737488355328) (h63 : m + 1 ≤ maxLen) (hbase : base ≤ w.heap.size)
 (h : ∀ A' c' w', w'.ownsRow base e sz (.slice A' (m + 1) c') (m + 1) (rowsV enc (l ++ [b])) → Grew w w' (.slice A m c) (.slice A' (m + 1) c') → wpList P ops Q rest (a.put o.dst (.slice A' (m + 1) c')) w') :
 wpList P ops Q (o :: rest) a (w.alloc (.cells cs e)) := by
 subst hg
 obtain ⟨i0, hi, hz0, hz1, hz2⟩ := info_parts hinfo
 have hcs : cs.size = 1 * sz := by rw [← Array.length_toList, hu, henc, Nat.one_mul]
 refine wpList_push hgd s x t ho base e i0 z sz bytes ht hi hz0 hz1 hz2 hzs hsz _ m _ hs hown cs 1 (by omega) hx hcs (fun u hu' => ?_) h63 hm hbase (fun v' w' o' g' b' _ => ?_)
 · rw [hu] at hu'
   exact h1 _ _ hu'
 · have e1 : rowsV enc l ++ cs.toList = rowsV enc (l ++ [b]) := by rw [hu, rowsV_append, rowsV_one]
   rw [e1] at o'
   obtain ⟨g, cap, hv, _⟩ := o'.form (by omega)
   subst hv
   exact h _ _ _ o' ⟨g', b'⟩
end
end Go.Proofs.YtjgnnobccecpeaaGreatDoor
/- Cells of a block, several at a time. -/
namespace Go.Proofs.YtjgnnobccecpeaaGreatDoor
open Go.Lib (hid)
section
variable {w : World} {g : Nat} {t : TypeId} {l r : List Value} {a0 a1 a2 a3 a4 a5 a6 a7 a8 a9 b0 b1 b2 b3 : Value}
theorem Blk.g0 (w : World) (g : Nat) : w.grownBy w (some g) := ⟨rfl, rfl, rfl, Nat.le_refl _, fun _ _ _ => rfl⟩
theorem Blk.ci (h : Blk w g t (List.toArray l)) (i : Nat) : w.cell? ⟨g, i, none⟩ = l[i]? := by rw [h.cell i]; simp
theorem Blk.c2 (h : Blk w g t (List.toArray (a0 :: a1 :: r))) : w.cell? ⟨g, 0, none⟩ = some a0 ∧ w.cell? ⟨g, 1, none⟩ = some a1 := ⟨h.ci 0, h.ci 1⟩
theorem Blk.c4 (h : Blk w g t (List.toArray (a0 :: a1 :: a2 :: a3 :: r))) : w.cell? ⟨g, 0, none⟩ = some a0 ∧ w.cell? ⟨g, 1, none⟩ = some a1 ∧ w.cell? ⟨g, 2, none⟩ = some a2 ∧ w.cell? ⟨g, 3, none⟩ = some a3 := ⟨h.ci 0, h.ci 1, h.ci 2, h.ci 3⟩
theorem Blk.c5 (h : Blk w g t (List.toArray (a0 :: a1 :: a2 :: a3 :: a4 :: r))) : w.cell? ⟨g, 0, none⟩ = some a0 ∧ w.cell? ⟨g, 1, none⟩ = some a1 ∧ w.cell? ⟨g, 2, none⟩ = some a2 ∧ w.cell? ⟨g, 3, none⟩ = some a3 ∧ w.cell? ⟨g, 4, none⟩ = some a4 := ⟨h.ci 0, h.ci 1, h.ci 2, h.ci 3, h.ci 4⟩
theorem Blk.c8 (h : Blk w g t (List.toArray (a0 :: a1 :: a2 :: a3 :: a4 :: a5 :: a6 :: a7 :: r))) : w.cell? ⟨g, 0, none⟩ = some a0 ∧ w.cell? ⟨g, 1, none⟩ = some a1 ∧ w.cell? ⟨g, 2, none⟩ = some a2 ∧ w.cell? ⟨g, 3, none⟩ = some a3 ∧ w.cell? ⟨g, 4, none⟩ = some a4 ∧ w.cell? ⟨g, 5, none⟩ = some a5 ∧ w.cell? ⟨g, 6, none⟩ = some a6 ∧ w.cell? ⟨g, 7, none⟩ = some a7 := ⟨h.ci 0, h.ci 1, h.ci 2, h.ci 3, h.ci 4, h.ci 5, h.ci 6, h.ci 7⟩
theorem Blk.c14 (h : Blk w g t (List.toArray (a0 :: a1 :: a2 :: a3 :: a4 :: a5 :: a6 :: a7 :: a8 :: a9 :: b0 :: b1 :: b2 :: b3 :: r))) : w.cell? ⟨g, 0, none⟩ = some a0 ∧ w.cell? ⟨g, 1, none⟩ = some a1 ∧ w.cell? ⟨g, 2, none⟩ = some a2 ∧ w.cell? ⟨g, 3, none⟩ = some a3 ∧ w.cell? ⟨g, 4, none⟩ = some a4 ∧ w.cell? ⟨g, 5, none⟩ = some a5 ∧ w.cell? ⟨g, 6, none⟩ = some a6 ∧ w.cell? ⟨g, 7, none⟩ = some a7 ∧
 w.cell? ⟨g, 8, none⟩ = some a8 ∧ w.cell? ⟨g, 9, none⟩ = some a9 ∧ w.cell? ⟨g, 10, none⟩ = some b0 ∧ w.cell? ⟨g, 11, none⟩ = some b1 ∧ w.cell? ⟨g, 12, none⟩ = some b2 ∧ w.cell? ⟨g, 13, none⟩ = some b3 := ⟨h.ci 0, h.ci 1, h.ci 2, h.ci 3, h.ci 4, h.ci 5, h.ci 6, h.ci 7, h.ci 8, h.ci 9, h.ci 10, h.ci 11, h.ci 12, h.ci 13⟩
theorem Blk.z2 (h : Blk w g t (List.toArray l)) : w.frozen? ⟨g, 0, none⟩ = false ∧ w.frozen? ⟨g, 1, none⟩ = false := ⟨h.thaw 0, h.thaw 1⟩
theorem Blk.z4 (h : Blk w g t (List.toArray l)) : w.frozen? ⟨g, 0, none⟩ = false ∧ w.frozen? ⟨g, 1, none⟩ = false ∧ w.frozen? ⟨g, 2, none⟩ = false ∧ w.frozen? ⟨g, 3, none⟩ = false := ⟨h.thaw 0, h.thaw 1, h.thaw 2, h.thaw 3⟩
theorem Blk.z8 (h : Blk w g t (List.toArray l)) : w.frozen? ⟨g, 0, none⟩ = false ∧ w.frozen? ⟨g, 1, none⟩ = false ∧ w.frozen? ⟨g, 2, none⟩ = false ∧ w.frozen? ⟨g, 3, none⟩ = false ∧ w.frozen? ⟨g, 4, none⟩ = false ∧ w.frozen? ⟨g, 5, none⟩ = false ∧ w.frozen? ⟨g, 6, none⟩ = false ∧ w.frozen? ⟨g, 7, none⟩ = false := ⟨h.thaw 0, h.thaw 1, h.thaw 2, h.thaw 3, h.thaw 4, h.thaw 5, h.thaw 6, h.thaw 7⟩
theorem Blk.z14 (h : Blk w g t (List.toArray l)) : w.frozen? ⟨g, 0, none⟩ = false ∧ w.frozen? ⟨g, 1, none⟩ = false ∧ w.frozen? ⟨g, 2, none⟩ = false ∧ w.frozen? ⟨g, 3, none⟩ = false ∧ w.frozen? ⟨g, 4, none⟩ = false ∧ w.frozen? ⟨g, 5, none⟩ = false ∧ w.frozen? ⟨g, 6, none⟩ = false ∧ w.frozen? ⟨g, 7, none⟩ = false ∧ w.frozen? ⟨g, 8, none⟩ = false ∧ w.frozen? ⟨g, 9, none⟩ = false ∧ w.frozen? ⟨g, 10, none⟩ = false ∧ w.frozen? ⟨g, 11, none⟩ = false ∧ w.frozen? ⟨g, 12, none⟩ = false ∧ w.frozen? ⟨g, 13, none⟩ = false := ⟨h.thaw 0, h.thaw 1, h.thaw 2, h.thaw 3, h.thaw 4, h.thaw 5, h.thaw 6, h.thaw 7, h.thaw 8, h.thaw 9, h.thaw 10, h.thaw 11, h.thaw 12, h.thaw 13⟩
theorem Blk.r4 (h : Blk w g t (List.toArray (a0 :: a1 :: a2 :: a3 :: r))) : (∀ d os, (Sort.grow (redrawn w d) os).cell? ⟨g, 0, none⟩ = some a0) ∧ (∀ d os, (Sort.grow (redrawn w d) os).cell? ⟨g, 1, none⟩ = some a1) ∧ (∀ d os, (Sort.grow (redrawn w d) os).cell? ⟨g, 2, none⟩ = some a2) ∧ ∀ d os, (Sort.grow (redrawn w d) os).cell? ⟨g, 3, none⟩ = some a3 :=
 ⟨fun d os => cell_regrown (h.ci 0) d os, fun d os => cell_regrown (h.ci 1) d os, fun d os => cell_regrown (h.ci 2) d os, fun d os => cell_regrown (h.ci 3) d os⟩
theorem Blk.r5 (h : Blk w g t (List.toArray (a0 :: a1 :: a2 :: a3 :: a4 :: r))) : (∀ d os, (Sort.grow (redrawn w d) os).cell? ⟨g, 0, none⟩ = some a0) ∧ (∀ d os, (Sort.grow (redrawn w d) os).cell? ⟨g, 1, none⟩ = some a1) ∧ (∀ d os, (Sort.grow (redrawn w d) os).cell? ⟨g, 2, none⟩ = some a2) ∧ (∀ d os, (Sort.grow (redrawn w d) os).cell? ⟨g, 3, none⟩ = some a3) ∧ ∀ d os, (Sort.grow (redrawn w d) os).cell? ⟨g, 4, none⟩ = some a4 :=
 ⟨fun d os => cell_regrown (h.ci 0) d os, fun d os => cell_regrown (h.ci 1) d os, fun d os => cell_regrown (h.ci 2) d os, fun d os => cell_regrown (h.ci 3) d os, fun d os => cell_regrown (h.ci 4) d os⟩
theorem Blk.S2 (h : Blk w g t (List.toArray (a0 :: a1 :: r))) (v0 v1 : Value) : Blk ((w.setCell ⟨g, 0, none⟩ v0).setCell ⟨g, 1, none⟩ v1) g t (List.toArray (v0 :: v1 :: r)) ∧ w.grownBy ((w.setCell ⟨g, 0, none⟩ v0).setCell ⟨g, 1, none⟩ v1) (some g) :=
 ⟨Blk.eq ((h.set 0 v0).set 1 v1) (by simp), bes_set (bes_set (Blk.g0 w g) 0 v0) 1 v1⟩
theorem Blk.S4 (h : Blk w g t (List.toArray (a0 :: a1 :: a2 :: a3 :: r))) (v0 v1 v2 v3 : Value) : Blk ((((w.setCell ⟨g, 0, none⟩ v0).setCell ⟨g, 1, none⟩ v1).setCell ⟨g, 2, none⟩ v2).setCell ⟨g, 3, none⟩ v3) g t (List.toArray (v0 :: v1 :: v2 :: v3 :: r)) ∧ w.grownBy ((((w.setCell ⟨g, 0, none⟩ v0).setCell ⟨g, 1, none⟩ v1).setCell ⟨g, 2, none⟩ v2).setCell ⟨g, 3, none⟩ v3) (some g) :=
 ⟨Blk.eq ((((h.set 0 v0).set 1 v1).set 2 v2).set 3 v3) (by simp), bes_set (bes_set (bes_set (bes_set (Blk.g0 w g) 0 v0) 1 v1) 2 v2) 3 v3⟩
theorem Blk.S8 (h : Blk w g t (List.toArray (a0 :: a1 :: a2 :: a3 :: a4 :: a5 :: a6 :: a7 :: r))) (v0 v1 v2 v3 v4 v5 v6 v7 : Value) : Blk ((((((((w.setCell ⟨g, 0, none⟩ v0).setCell ⟨g, 1, none⟩ v1).setCell ⟨g, 2, none⟩ v2).setCell ⟨g, 3, none⟩ v3).setCell ⟨g, 4, none⟩ v4).setCell ⟨g, 5, none⟩ v5).setCell ⟨g, 6, none⟩ v6).setCell ⟨g, 7, none⟩ v7) g t (List.toArray (v0 :: v1 :: v2 :: v3 :: v4 :: v5 :: v6 :: v7 :: r)) ∧ w.grownBy ((((((((w.setCell ⟨g, 0, none⟩ v0).setCell ⟨g, 1, none⟩ v1).setCell ⟨g, 2, none⟩ v2).setCell ⟨g, 3, none⟩ v3).setCell ⟨g, 4, none⟩ v4).setCell ⟨g, 5, none⟩ v5).setCell ⟨g, 6, none⟩ v6).setCell ⟨g, 7, none⟩ v7) (some g) := by
 obtain ⟨h1, g1⟩ := h.S4 v0 v1 v2 v3
 exact ⟨Blk.eq ((((h1.set 4 v4).set 5 v5).set 6 v6).set 7 v7) (by simp), bes_set (bes_set (bes_set (bes_set g1 4 v4) 5 v5) 6 v6) 7 v7⟩
theorem rc3 {b o : Nat} (h : ∀ j u, (a0 :: a1 :: a2 :: r)[j]? = some u → w.cell? ⟨b, o + j, none⟩ = some u) : w.cell? ⟨b, o, none⟩ = some a0 ∧ w.cell? ⟨b, o + 1, none⟩ = some a1 ∧ w.cell? ⟨b, o + 2, none⟩ = some a2 := ⟨h 0 _ rfl, h 1 _ rfl, h 2 _ rfl⟩
theorem rc5 {b o : Nat} (h : ∀ j u, (a0 :: a1 :: a2 :: a3 :: a4 :: r)[j]? = some u → w.cell? ⟨b, o + j, none⟩ = some u) : w.cell? ⟨b, o, none⟩ = some a0 ∧ w.cell? ⟨b, o + 1, none⟩ = some a1 ∧ w.cell? ⟨b, o + 2, none⟩ = some a2 ∧ w.cell? ⟨b, o + 3, none⟩ = some a3 ∧ w.cell? ⟨b, o + 4, none⟩ = some a4 := ⟨h 0 _ rfl, h 1 _ rfl, h 2 _ rfl, h 3 _ rfl, h 4 _ rfl⟩
theorem rc14 {b o : Nat} (h : ∀ j u, (a0 :: a1 :: a2 :: a3 :: a4 :: a5 :: a6 :: a7 :: a8 :: a9 :: b0 :: b1 :: b2 :: b3 :: r)[j]? = some u → w.cell? ⟨b, o + j, none⟩ = some u) : w.cell? ⟨b, o, none⟩ = some a0 ∧ w.cell? ⟨b, o + 1, none⟩ = some a1 ∧ w.cell? ⟨b, o + 2, none⟩ = some a2 ∧ w.cell? ⟨b, o + 3, none⟩ = some a3 ∧ w.cell? ⟨b, o + 4, none⟩ = some a4 ∧ w.cell? ⟨b, o + 5, none⟩ = some a5 ∧ w.cell? ⟨b, o + 6, none⟩ = some a6 ∧ w.cell? ⟨b, o + 7, none⟩ = some a7 ∧
 w.cell? ⟨b, o + 8, none⟩ = some a8 ∧ w.cell? ⟨b, o + 9, none⟩ = some a9 ∧ w.cell? ⟨b, o + 10, none⟩ = some b0 ∧ w.cell? ⟨b, o + 11, none⟩ = some b1 ∧ w.cell? ⟨b, o + 12, none⟩ = some b2 ∧ w.cell? ⟨b, o + 13, none⟩ = some b3 := ⟨h 0 _ rfl, h 1 _ rfl, h 2 _ rfl, h 3 _ rfl, h 4 _ rfl, h 5 _ rfl, h 6 _ rfl, h 7 _ rfl, h 8 _ rfl, h 9 _ rfl, h 10 _ rfl, h 11 _ rfl, h 12 _ rfl, h 13 _ rfl⟩
end
abbrev zDel : Array Value := #[.int .i64 0, .int .i64 0, .slice none 0 0, .slice none 0 0, .slice none 0 0, .slice none 0 0, .slice none 0 0, .slice none 0 0]
abbrev zSta : Array Value := #[.int .i64 0, .slice none 0 0, .slice none 0 0, .slice none 0 0]
end Go.Proofs.YtjgnnobccecpeaaGreatDoor
/- Maps keyed by texts that the call itself has made: what they hold, as a function. -/
namespace Go.Proofs.YtjgnnobccecpeaaGreatDoor
open Go.Lib (hid)
open Go.RowKit Go.Maps
def heldR : Value → Option (DataW Value × List MemPlace) := fun v => some (.held v, [])
def MapIs (w : World) (b n : Nat) (g : ByteArray → Option Value) : Prop :=
 ∃ D : DataW Value, w.ownsMap Tryz.prog 9 heldR b n D ∧ ∀ (s : ByteArray) (z : DataW Value), D.atKey (.string s.data.toList) z = match g s with
  | none => z
  | some v => .held v
theorem lawS : Keyed Tryz.prog 9 := string_keyed Tryz.underlying9
section
variable {w w' : World} {b n : Nat} {g : ByteArray → Option Value}
theorem MapIs.made (w : World) : MapIs (w.alloc (.map #[] 0)) w.heap.size 0 (fun _ => none) := ⟨.map [], World.ownsMap_made w _ _ _, fun _ _ => rfl⟩
theorem MapIs.lt (h : MapIs w b n g) : b < w.heap.size := h.choose_spec.1.lt
theorem MapIs.same (h : MapIs w b n g) (e : w'.heap[b]? = w.heap[b]?) : MapIs w' b n g := by
 obtain ⟨D, ⟨es, clock, hb, r⟩, hD⟩ := h
 exact ⟨D, ⟨es, clock, e.trans hb, r⟩, hD⟩
theorem MapIs.below {B : Nat} (h : MapIs w b n g) (hb : Below B w w') (hB : b < B) : MapIs w' b n g := h.same (hb.block b hB)
theorem MapIs.but {c : Nat} (h : MapIs w b n g) (hg : w.grownBy w' (some c)) (hne : b ≠ c) : MapIs w' b n g := h.same (hg.block b h.lt (by simp [hne]))
theorem MapIs.congr {g' : ByteArray → Option Value} (h : MapIs w b n g) (e : ∀ s, g s = g' s) : MapIs w b n g' := by
 obtain ⟨D, ho, hD⟩ := h
 exact ⟨D, ho, fun s z => by rw [hD, e]⟩
theorem MapIs.mono {m : Nat} (h : MapIs w b n g) (hm : n ≤ m) : MapIs w b m g := by
 obtain ⟨D, ho, hD⟩ := h
 exact ⟨D, ho.mono hm, hD⟩
theorem data_inj {s t : ByteArray} (h : (Lit.string s.data.toList) = .string t.data.toList) : s = t := by
 injection h with h
 exact ByteArray.ext (Array.toList_inj.1 h)
theorem MapIs.put {t e : TypeId} (h : MapIs w b n g) (ht : Tryz.prog.underlying t = some (.map 9 e)) (hn : n < maxLen) (s : ByteArray) (hs : s.size ≤ maxLen) (v : Value) :
 ∃ w', (Instr.mapUpdate t (.map (some b)) (.string s) v).run Tryz.prog w = .ok () w' ∧ MapIs w' b (n + 1) (fun x => if x = s then some v else g x) ∧ w.grownBy w' (some b) := by
 obtain ⟨D, ho, hD⟩ := h
 obtain ⟨w', hr, ho', hg⟩ := ho.update lawS ht hn (Go.WideMaps.keyOf_string_mk Tryz.underlying9 hs) (val := v) (d := .held v) (ps := []) rfl
 refine ⟨w', hr, ⟨_, ho', fun x z => ?_⟩, hg⟩
 by_cases hx : x = s
 · subst hx
   rw [atKey_put_same ho.isMap (by simp [WideAt.IsKeyLit])]
   simp
 · rw [atKey_put_other (fun e => hx (data_inj e)), hD x z]
   simp [hx]
theorem MapIs.look {t e : TypeId} (h : MapIs w b n g) (ht : Tryz.prog.underlying t = some (.map 9 e)) {z : Value} (hz : (zeroValue e).run Tryz.prog w = .ok z w) (s : ByteArray) (hs : s.size ≤ maxLen) :
 (Instr.lookup t (.map (some b)) (.string s) false).run Tryz.prog w = .ok ((g s).getD z) w := by
 obtain ⟨D, ho, hD⟩ := h
 obtain ⟨v, ps, hr, hv⟩ := ho.lookup lawS ht hz (zd := .held z) (zp := []) rfl (Go.WideMaps.keyOf_string_mk Tryz.underlying9 hs)
 rw [hD] at hv
 have hv1 : (DataW.held v : DataW Value) = match g s with | none => .held z | some v => .held v := by
  have := congrArg (fun o => o.map Prod.fst) hv
  simpa [heldR] using this
 have e : v = (g s).getD z := by
  cases hg : g s with
  | none => rw [hg] at hv1; injection hv1
  | some u => rw [hg] at hv1; injection hv1
 rw [hr, e]
theorem MapIs.look_ok {t e : TypeId} (h : MapIs w b n g) (ht : Tryz.prog.underlying t = some (.map 9 e)) {z : Value} (hz : (zeroValue e).run Tryz.prog w = .ok z w) (s : ByteArray) (hs : s.size ≤ maxLen) :
 (Instr.lookup t (.map (some b)) (.string s) true).run Tryz.prog w = .ok (.tuple #[(g s).getD z, .bool (g s).isSome]) w := by
 obtain ⟨D, ho, hD⟩ := h
 obtain ⟨v, ps, hr, hv⟩ := ho.look_ok lawS ht hz (zd := .held z) (zp := []) rfl (Go.WideMaps.keyOf_string_mk Tryz.underlying9 hs)
 rw [hD] at hv
 have hv1 : (DataW.held v : DataW Value) = match g s with | none => .held z | some v => .held v := by
  have := congrArg (fun o => o.map Prod.fst) hv
  simpa [heldR] using this
 cases hg : g s with
 | none =>
  rw [hg] at hv1
  have e : v = z := by injection hv1
  have hh : Maps.has D (.string s.data.toList) = false := Maps.has_false_of_atKey (fun x => by rw [hD, hg])
  rw [hr, e, hh]; rfl
 | some u =>
  rw [hg] at hv1
  have e : v = u := by injection hv1
  have hh : Maps.has D (.string s.data.toList) = true := Maps.has_true_of_atKey (y := .held u) (fun x => by rw [hD, hg])
  rw [hr, e, hh]; rfl
end
end Go.Proofs.YtjgnnobccecpeaaGreatDoor
/- What the reference's test of UTF-8 says, byte by byte, is what the library's decoder says: plain lemmas. -/
namespace Go.Proofs.YtjgnnobccecpeaaGreatDoor
open Go.Lib (hid)
open Go.Lib
def okAt (l : List UInt8) (lo hi k : Nat) : Prop := (if k = 1 then lo else 128) ≤ (l.getD k 0).toNat ∧ (l.getD k 0).toNat ≤ (if k = 1 then hi else 191)
theorem check_short (n b1 b2 b3 m lo hi : Nat) (h : n < m + 1) : checkN n b1 b2 b3 (m + 1) lo hi = none := by
 unfold checkN
 repeat' split
 all_goals first | rfl | omega
theorem check_bad (l : List UInt8) (n m lo hi k : Nat) (hm : m = 1 ∨ m = 2 ∨ m = 3) (h1 : 1 ≤ k) (hk : k ≤ m) (h : ¬ okAt l lo hi k) :
 checkN n (l.getD 1 0).toNat (l.getD 2 0).toNat (l.getD 3 0).toNat (m + 1) lo hi = none := by
 unfold okAt at h
 unfold checkN
 rcases hm with rfl | rfl | rfl
 all_goals (have : k = 1 ∨ k = 2 ∨ k = 3 := by omega)
 all_goals rcases this with rfl | rfl | rfl
 all_goals simp at h ⊢
 all_goals omega
theorem check_ok (l : List UInt8) (n m lo hi : Nat) (hm : m = 1 ∨ m = 2 ∨ m = 3) (hn : m + 1 ≤ n) (h : ∀ k, 1 ≤ k → k ≤ m → okAt l lo hi k) :
 checkN n (l.getD 1 0).toNat (l.getD 2 0).toNat (l.getD 3 0).toNat (m + 1) lo hi = some (m + 1) := by
 have h1 := h 1
 have h2 := h 2
 have h3 := h 3
 unfold okAt at h1 h2 h3
 unfold checkN
 rcases hm with rfl | rfl | rfl
 all_goals simp at h1 h2 h3 ⊢
 all_goals omega
def leadOf (c : Nat) : Option (Nat × Nat × Nat) :=
 if c < 194 then none
 else if c ≤ 223 then some (1, 128, 191)
 else if c ≤ 239 then some (2, if c = 224 then 160 else 128, if c = 237 then 159 else 191)
 else if c ≤ 244 then some (3, if c = 240 then 144 else 128, if c = 244 then 143 else 191)
 else none
def leadOk (c : Nat) : Bool := match leadOf c with
 | none => decide (firstT c % 8 ≠ 2 ∧ firstT c % 8 ≠ 3 ∧ firstT c % 8 ≠ 4)
 | some (m, lo, hi) => decide (firstT c % 8 = m + 1 ∧ accLo (firstT c / 16) = lo ∧ accHi (firstT c / 16) = hi)
theorem lead_tab : ∀ c : Fin 256, 128 ≤ c.val → leadOk c.val = true := by decide +kernel
theorem validD_none (l : List UInt8) (hne : l ≠ []) (h0 : 128 ≤ (l.getD 0 0).toNat) (h : leadOf (l.getD 0 0).toNat = none) : validD l = false := by
 have ht := lead_tab ⟨(l.getD 0 0).toNat, (l.getD 0 0).toNat_lt⟩ h0
 simp only [leadOk, h, decide_eq_true_eq] at ht
 rw [validD_lead l hne h0]
 unfold checkN
 rw [if_neg ht.1, if_neg ht.2.1, if_neg ht.2.2]
theorem validD_some (l : List UInt8) (hne : l ≠ []) (h0 : 128 ≤ (l.getD 0 0).toNat) {m lo hi : Nat} (h : leadOf (l.getD 0 0).toNat = some (m, lo, hi)) :
 validD l = match checkN l.length (l.getD 1 0).toNat (l.getD 2 0).toNat (l.getD 3 0).toNat (m + 1) lo hi with
  | none => false
  | some k => validD (l.drop k) := by
 have ht := lead_tab ⟨(l.getD 0 0).toNat, (l.getD 0 0).toNat_lt⟩ h0
 simp only [leadOk, h, decide_eq_true_eq] at ht
 rw [validD_lead l hne h0, ht.1, ht.2.1, ht.2.2]
 rfl
theorem lead_many {c m lo hi : Nat} (h : leadOf c = some (m, lo, hi)) : m = 1 ∨ m = 2 ∨ m = 3 := by
 unfold leadOf at h
 repeat' split at h
 all_goals simp at h
 all_goals omega
theorem validD_short (l : List UInt8) (hne : l ≠ []) (h0 : 128 ≤ (l.getD 0 0).toNat) {m lo hi : Nat} (h : leadOf (l.getD 0 0).toNat = some (m, lo, hi)) (hs : l.length < m + 1) : validD l = false := by
 rw [validD_some l hne h0 h, check_short _ _ _ _ _ _ _ hs]
theorem validD_bad (l : List UInt8) (hne : l ≠ []) (h0 : 128 ≤ (l.getD 0 0).toNat) {m lo hi : Nat} (h : leadOf (l.getD 0 0).toNat = some (m, lo, hi)) (k : Nat) (h1 : 1 ≤ k) (hk : k ≤ m) (hb : ¬ okAt l lo hi k) : validD l = false := by
 rw [validD_some l hne h0 h, check_bad l _ m lo hi k (lead_many h) h1 hk hb]
theorem validD_ok (l : List UInt8) (hne : l ≠ []) (h0 : 128 ≤ (l.getD 0 0).toNat) {m lo hi : Nat} (h : leadOf (l.getD 0 0).toNat = some (m, lo, hi)) (hs : m + 1 ≤ l.length) (hb : ∀ k, 1 ≤ k → k ≤ m → okAt l lo hi k) : validD l = validD (l.drop (m + 1)) := by
 rw [validD_some l hne h0 h, check_ok l _ m lo hi (lead_many h) hs hb]
structure Cls (l : List UInt8) (m lo hi : Nat) : Prop where
 le : m ≤ 3
 short : l.length < m + 1 → validD l = false
 bad : ∀ k, 1 ≤ k → k ≤ m → ¬ okAt l lo hi k → validD l = false
 ok : m + 1 ≤ l.length → (∀ k, 1 ≤ k → k ≤ m → okAt l lo hi k) → validD l = validD (l.drop (m + 1))
theorem Cls.of {l : List UInt8} {c m lo hi : Nat} (hne : l ≠ []) (hc : (l.getD 0 0).toNat = c) (h0 : 128 ≤ c) (h : leadOf c = some (m, lo, hi)) : Cls l m lo hi := by
 subst hc
 exact ⟨by have := lead_many h; omega, validD_short l hne h0 h, validD_bad l hne h0 h, validD_ok l hne h0 h⟩
theorem Cls.ascii {l : List UInt8} {c : Nat} (hne : l ≠ []) (hc : (l.getD 0 0).toNat = c) (h0 : c < 128) : Cls l 0 128 191 := by
 subst hc
 match l, hne with
 | b :: r, _ =>
  exact ⟨by omega, fun h => by simp at h, fun k h1 h2 => by omega, fun _ _ => validD_cons b r (by simpa using h0)⟩
theorem validD_wrong {l : List UInt8} {c : Nat} (hne : l ≠ []) (hc : (l.getD 0 0).toNat = c) (h0 : 128 ≤ c) (h : leadOf c = none) : validD l = false := by
 subst hc; exact validD_none l hne h0 h
def lowAt (lo j : Nat) : Nat := if j = 1 then lo else 128
def highAt (hi j : Nat) : Nat := if j = 1 then hi else 191
theorem okAt_at {l : List UInt8} {lo hi d k : Nat} (h : (l.getD k 0).toNat = d) : okAt l lo hi k ↔ lowAt lo k ≤ d ∧ d ≤ highAt hi k := by unfold okAt lowAt highAt; subst h; rfl
end Go.Proofs.YtjgnnobccecpeaaGreatDoor
