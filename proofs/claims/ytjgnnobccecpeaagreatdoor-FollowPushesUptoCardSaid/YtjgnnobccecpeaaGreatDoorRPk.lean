/- Of the proof of a statement: PlTextR, Zig, PlFrame, Reads, Blk, Pk. -/
import Derived.Lib.ValidLaws
import Derived.Test.YtjgnnobccecpeaaGreatDoorRows
import Derived.Lib.QuietBelow
import Derived.Test.YtjgnnobccecpeaaGreatDoorRPlSum
set_option linter.unusedVariables false
set_option linter.unusedSimpArgs false
set_option maxRecDepth 100000
set_option maxHeartbeats 8000000
/- What ReadText gives: plain. -/
namespace Go.Proofs.YtjgnnobccecpeaaGreatDoor
open Go.Lib (hid)
open Go.Lib (validD)
def txtR (s : ByteArray) : ByteArray × Nat × Nat :=
 match rdNum s with
 | (n, k, e) =>
  if e = 0 then
   if 16 < n then (⟨#[]⟩, 0, 2)
   else if s.size < k + n then (⟨#[]⟩, 0, 3)
   else if validD (s.extract k (k + n)).data.toList = true then (s.extract k (k + n), k + n, 0)
   else (⟨#[]⟩, 0, 4)
  else (⟨#[]⟩, 0, e)
variable {s : ByteArray} {n k e : Nat}
theorem txtR_num (h : rdNum s = (n, k, e)) (he : e ≠ 0) : txtR s = (⟨#[]⟩, 0, e) := by unfold txtR; rw [h]; simp only; rw [if_neg he]
theorem txtR_large (h : rdNum s = (n, k, 0)) (hn : 16 < n) : txtR s = (⟨#[]⟩, 0, 2) := by unfold txtR; rw [h]; simp only; rw [if_pos trivial, if_pos hn]
theorem txtR_short (h : rdNum s = (n, k, 0)) (hn : ¬ 16 < n) (hl : s.size < k + n) : txtR s = (⟨#[]⟩, 0, 3) := by unfold txtR; rw [h]; simp only; rw [if_pos trivial, if_neg hn, if_pos hl]
theorem txtR_ok (h : rdNum s = (n, k, 0)) (hn : ¬ 16 < n) (hl : ¬ s.size < k + n) (hv : validD (s.extract k (k + n)).data.toList = true) : txtR s = (s.extract k (k + n), k + n, 0) := by unfold txtR; rw [h]; simp only; rw [if_pos trivial, if_neg hn, if_neg hl, if_pos hv]
theorem txtR_form (h : rdNum s = (n, k, 0)) (hn : ¬ 16 < n) (hl : ¬ s.size < k + n) (hv : validD (s.extract k (k + n)).data.toList = false) : txtR s = (⟨#[]⟩, 0, 4) := by unfold txtR; rw [h]; simp only; rw [if_pos trivial, if_neg hn, if_neg hl, if_neg (by rw [hv]; simp)]
end Go.Proofs.YtjgnnobccecpeaaGreatDoor
/- The walks of Zig and Zag, in the program and in the reference. -/
namespace Go.Proofs.YtjgnnobccecpeaaGreatDoor
open Go.Lib (hid)
open Go.RowKit
theorem zag_any (n : Int) (h : 0 ≤ n) (h' : n < 18446744073709551616) (w : World) :
 Calls Tryz.prog 334 #[.int .u64 n] w fun e w' => e = .returned (.int .i64 (zagZ n)) ∧ w = w' := by
 have hx := hid (zag_xor n h h')
 go_enter Tryz.func334, Tryz.ntmps334
 go_wp2
 go_ret
 exact ⟨ret_int hx.out, rfl⟩
end Go.Proofs.YtjgnnobccecpeaaGreatDoor
/- Frames: plain. -/
namespace Go.Proofs.YtjgnnobccecpeaaGreatDoor
open Go.Lib (hid)
def sum4 (l : List UInt8) : List UInt8 := [UInt8.ofNat (crcSum l / 16777216), UInt8.ofNat (crcSum l / 65536), UInt8.ofNat (crcSum l / 256), UInt8.ofNat (crcSum l)]
theorem crcSum_lt (l : List UInt8) : crcSum l < 4294967296 := by unfold crcSum; omega
end Go.Proofs.YtjgnnobccecpeaaGreatDoor
/- The law PrimReads. -/
namespace Go.Proofs.YtjgnnobccecpeaaGreatDoor
open Go.Lib (hid)
open Go.RowKit
theorem toList_take_succ {s : ByteArray} {k : Nat} (h : k < s.size) : s.data.toList.take (k + 1) = s.data.toList.take k ++ [s[k]] := by
 rw [List.take_succ_eq_append_getElem (by simpa using h)]; rfl
theorem read_eq {s : ByteArray} {a k e : Nat} (h : rdNum s = (a, k, e)) (w : World) (hs : s.size ≤ 9223372036854775807) :
 Calls Tryz.prog 227 #[.string s] w fun x w' => x = .returned (.tuple #[.int .u64 (a : Int), .int .i64 (k : Int), .int .i64 (e : Int)]) ∧ w = w' :=
 (read_any s w hs).mono fun _ _ ⟨h1, h2⟩ => ⟨by rw [h1, rdV_of h], h2⟩
end Go.Proofs.YtjgnnobccecpeaaGreatDoor
/- Blocks that are known whole; worlds that keep all blocks but one. -/
namespace Go.Proofs.YtjgnnobccecpeaaGreatDoor
open Go.Lib (hid)
open Go.RowKit
def Blk (w : World) (g : Nat) (t : TypeId) (cs : Array Value) : Prop := w.heap[g]? = some (.cells cs t (0, 0))
theorem Blk.below {w w' : World} {g B : Nat} {t : TypeId} {cs : Array Value} (h : Blk w g t cs) (hb : Below B w w') (hg : g < B) : Blk w' g t cs := (hb.block g hg).trans h
theorem Blk.lt {w : World} {g : Nat} {t : TypeId} {cs : Array Value} (h : Blk w g t cs) : g < w.heap.size := by
 rcases Nat.lt_or_ge g w.heap.size with h1 | h1
 · exact h1
 · unfold Blk at h; rw [Array.getElem?_eq_none h1] at h; cases h
theorem Blk.cell {w : World} {g : Nat} {t : TypeId} {cs : Array Value} (h : Blk w g t cs) (i : Nat) : w.cell? ⟨g, i, none⟩ = cs[i]? := cell_of_row w g i cs t (0, 0) h
theorem Blk.thaw {w : World} {g : Nat} {t : TypeId} {cs : Array Value} (h : Blk w g t cs) (i : Nat) : w.frozen? ⟨g, i, none⟩ = false := by unfold Blk at h; simp [World.frozen?, h]
theorem Blk.set {w : World} {g : Nat} {t : TypeId} {cs : Array Value} (h : Blk w g t cs) (i : Nat) (v : Value) : Blk (w.setCell ⟨g, i, none⟩ v) g t (cs.setIfInBounds i v) := by
 unfold Blk at h ⊢
 simp [World.setCell, Array.getElem?_modify, h]
theorem Blk.alloc {w : World} {g : Nat} {t : TypeId} {cs : Array Value} (h : Blk w g t cs) (o : Obj) : Blk (w.alloc o) g t cs := h.below ((Below.refl w.heap.size w).alloc (Nat.le_refl _) o) h.lt
theorem Blk.eq {w : World} {g : Nat} {t : TypeId} {cs cs' : Array Value} (h : Blk w g t cs) (e : cs = cs') : Blk w g t cs' := e ▸ h
section
variable {w a b : World} {g : Nat}
theorem bes_below (h : w.grownBy a (some g)) (hb : Below a.heap.size a b) : w.grownBy b (some g) :=
 ⟨hb.os.trans h.os, hb.tape.trans h.tape, hb.output.trans h.output, Nat.le_trans h.size hb.size, fun k hk hne => (hb.block k (Nat.lt_of_lt_of_le hk h.size)).trans (h.block k hk hne)⟩
theorem bes_set (h : w.grownBy a (some g)) (i : Nat) (v : Value) : w.grownBy (a.setCell ⟨g, i, none⟩ v) (some g) :=
 ⟨h.os, h.tape, h.output, by have := h.size; simp [World.setCell]; omega, fun k hk hne => (Below.heap_setCell a ⟨g, i, none⟩ v k (fun e => hne (by rw [e]))).trans (h.block k hk hne)⟩
theorem bes_grew {v v' : Value} (h : w.grownBy a (some g)) (hg : Grew a b v v') (hv : ∀ k, v.ownBlock = some k → w.heap.size ≤ k) : w.grownBy b (some g) :=
 ⟨hg.grown.os.trans h.os, hg.grown.tape.trans h.tape, hg.grown.output.trans h.output, Nat.le_trans h.size hg.grown.size, fun k hk hne =>
  (hg.grown.block k (Nat.lt_of_lt_of_le hk h.size) (fun e => by have := hv k e.symm; omega)).trans (h.block k hk hne)⟩
theorem Blk.grew {v v' : Value} {t : TypeId} {cs : Array Value} (h : Blk a g t cs) (hg : Grew a b v v') (hv : ∀ k, v.ownBlock = some k → g < k) : Blk b g t cs :=
 (hg.grown.block g h.lt (fun e => by have := hv g e.symm; omega)).trans h
end
end Go.Proofs.YtjgnnobccecpeaaGreatDoor
/- Cells of a block, several at a time. -/
namespace Go.Proofs.YtjgnnobccecpeaaGreatDoor
open Go.Lib (hid)
section
variable {w : World} {g : Nat} {t : TypeId} {l r : List Value} {a0 a1 a2 a3 a4 a5 a6 a7 a8 a9 b0 b1 b2 b3 : Value}
theorem Blk.g0 (w : World) (g : Nat) : w.grownBy w (some g) := ⟨rfl, rfl, rfl, Nat.le_refl _, fun _ _ _ => rfl⟩
theorem Blk.ci (h : Blk w g t (List.toArray l)) (i : Nat) : w.cell? ⟨g, i, none⟩ = l[i]? := by rw [h.cell i]; simp
theorem Blk.c2 (h : Blk w g t (List.toArray (a0 :: a1 :: r))) : w.cell? ⟨g, 0, none⟩ = some a0 ∧ w.cell? ⟨g, 1, none⟩ = some a1 := ⟨h.ci 0, h.ci 1⟩
theorem Blk.c4 (h : Blk w g t (List.toArray (a0 :: a1 :: a2 :: a3 :: r))) : w.cell? ⟨g, 0, none⟩ = some a0 ∧ w.cell? ⟨g, 1, none⟩ = some a1 ∧ w.cell? ⟨g, 2, none⟩ = some a2 ∧ w.cell? ⟨g, 3, none⟩ = some a3 := ⟨h.ci 0, h.ci 1, h.ci 2, h.ci 3⟩
theorem Blk.c5 (h : Blk w g t (List.toArray (a0 :: a1 :: a2 :: a3 :: a4 :: r))) : w.cell? ⟨g, 0, none⟩ = some a0 ∧ w.cell? ⟨g, 1, none⟩ = some a1 ∧ w.cell? ⟨g, 2, none⟩ = some a2 ∧ w.cell? ⟨g, 3, none⟩ = some a3 ∧ w.cell? ⟨g, 4, none⟩ = some a4 := ⟨h.ci 0, h.ci 1, h.ci 2, h.ci 3, h.ci 4⟩
theorem Blk.c8 (h : Blk w g t (List.toArray (a0 :: a1 :: a2 :: a3 :: a4 :: a5 :: a6 :: a7 :: r))) : w.cell? ⟨g, 0, none⟩ = some a0 ∧ w.cell? ⟨g, 1, none⟩ = some a1 ∧ w.cell? ⟨g, 2, none⟩ = some a2 ∧ w.cell? ⟨g, 3, none⟩ = some a3 ∧ w.cell? ⟨g, 4, none⟩ = some a4 ∧ w.cell? ⟨g, 5, none⟩ = some a5 ∧ w.cell? ⟨g, 6, none⟩ = some a6 ∧ w.cell? ⟨g, 7, none⟩ = some a7 := ⟨h.ci 0, h.ci 1, h.ci 2, h.ci 3, h.ci 4, h.ci 5, h.ci 6, h.ci 7⟩
theorem Blk.c14 (h : Blk w g t (List.toArray (a0 :: a1 :: a2 :: a3 :: a4 :: a5 :: a6 :: a7 :: a8 :: a9 :: b0 :: b1 :: b2 :: b3 :: r))) : w.cell? ⟨g, 0, none⟩ = some a0 ∧ w.cell? ⟨g, 1, none⟩ = some a1 ∧ w.cell? ⟨g, 2, none⟩ = some a2 ∧ w.cell? ⟨g, 3, none⟩ = some a3 ∧ w.cell? ⟨g, 4, none⟩ = some a4 ∧ w.cell? ⟨g, 5, none⟩ = some a5 ∧ w.cell? ⟨g, 6, none⟩ = some a6 ∧ w.cell? ⟨g, 7, none⟩ = some a7 ∧
 w.cell? ⟨g, 8, none⟩ = some a8 ∧ w.cell? ⟨g, 9, none⟩ = some a9 ∧ w.cell? ⟨g, 10, none⟩ = some b0 ∧ w.cell? ⟨g, 11, none⟩ = some b1 ∧ w.cell? ⟨g, 12, none⟩ = some b2 ∧ w.cell? ⟨g, 13, none⟩ = some b3 := ⟨h.ci 0, h.ci 1, h.ci 2, h.ci 3, h.ci 4, h.ci 5, h.ci 6, h.ci 7, h.ci 8, h.ci 9, h.ci 10, h.ci 11, h.ci 12, h.ci 13⟩
theorem Blk.z2 (h : Blk w g t (List.toArray l)) : w.frozen? ⟨g, 0, none⟩ = false ∧ w.frozen? ⟨g, 1, none⟩ = false := ⟨h.thaw 0, h.thaw 1⟩
theorem Blk.z4 (h : Blk w g t (List.toArray l)) : w.frozen? ⟨g, 0, none⟩ = false ∧ w.frozen? ⟨g, 1, none⟩ = false ∧ w.frozen? ⟨g, 2, none⟩ = false ∧ w.frozen? ⟨g, 3, none⟩ = false := ⟨h.thaw 0, h.thaw 1, h.thaw 2, h.thaw 3⟩
theorem Blk.z8 (h : Blk w g t (List.toArray l)) : w.frozen? ⟨g, 0, none⟩ = false ∧ w.frozen? ⟨g, 1, none⟩ = false ∧ w.frozen? ⟨g, 2, none⟩ = false ∧ w.frozen? ⟨g, 3, none⟩ = false ∧ w.frozen? ⟨g, 4, none⟩ = false ∧ w.frozen? ⟨g, 5, none⟩ = false ∧ w.frozen? ⟨g, 6, none⟩ = false ∧ w.frozen? ⟨g, 7, none⟩ = false := ⟨h.thaw 0, h.thaw 1, h.thaw 2, h.thaw 3, h.thaw 4, h.thaw 5, h.thaw 6, h.thaw 7⟩
theorem Blk.z14 (h : Blk w g t (List.toArray l)) : w.frozen? ⟨g, 0, none⟩ = false ∧ w.frozen? ⟨g, 1, none⟩ = false ∧ w.frozen? ⟨g, 2, none⟩ = false ∧ w.frozen? ⟨g, 3, none⟩ = false ∧ w.frozen? ⟨g, 4, none⟩ = false ∧ w.frozen? ⟨g, 5, none⟩ = false ∧ w.frozen? ⟨g, 6, none⟩ = false ∧ w.frozen? ⟨g, 7, none⟩ = false ∧ w.frozen? ⟨g, 8, none⟩ = false ∧ w.frozen? ⟨g, 9, none⟩ = false ∧ w.frozen? ⟨g, 10, none⟩ = false ∧ w.frozen? ⟨g, 11, none⟩ = false ∧ w.frozen? ⟨g, 12, none⟩ = false ∧ w.frozen? ⟨g, 13, none⟩ = false := ⟨h.thaw 0, h.thaw 1, h.thaw 2, h.thaw 3, h.thaw 4, h.thaw 5, h.thaw 6, h.thaw 7, h.thaw 8, h.thaw 9, h.thaw 10, h.thaw 11, h.thaw 12, h.thaw 13⟩
theorem Blk.r4 (h : Blk w g t (List.toArray (a0 :: a1 :: a2 :: a3 :: r))) : (∀ d os, (Sort.grow (redrawn w d) os).cell? ⟨g, 0, none⟩ = some a0) ∧ (∀ d os, (Sort.grow (redrawn w d) os).cell? ⟨g, 1, none⟩ = some a1) ∧ (∀ d os, (Sort.grow (redrawn w d) os).cell? ⟨g, 2, none⟩ = some a2) ∧ ∀ d os, (Sort.grow (redrawn w d) os).cell? ⟨g, 3, none⟩ = some a3 :=
 ⟨fun d os => cell_regrown (h.ci 0) d os, fun d os => cell_regrown (h.ci 1) d os, fun d os => cell_regrown (h.ci 2) d os, fun d os => cell_regrown (h.ci 3) d os⟩
theorem Blk.r5 (h : Blk w g t (List.toArray (a0 :: a1 :: a2 :: a3 :: a4 :: r))) : (∀ d os, (Sort.grow (redrawn w d) os).cell? ⟨g, 0, none⟩ = some a0) ∧ (∀ d os, (Sort.grow (redrawn w d) os).cell? ⟨g, 1, none⟩ = some a1) ∧ (∀ d os, (Sort.grow (redrawn w d) os).cell? ⟨g, 2, none⟩ = some a2) ∧ (∀ d os, (Sort.grow (redrawn w d) os).cell? ⟨g, 3, none⟩ = some a3) ∧ ∀ d os, (Sort.grow (redrawn w d) os).cell? ⟨g, 4, none⟩ = some a4 :=
 ⟨fun d os => cell_regrown (h.ci 0) d os, fun d os => cell_regrown (h.ci 1) d os, fun d os => cell_regrown (h.ci 2) d os, fun d os => cell_regrown (h.ci 3) d os, fun d os => cell_regrown (h.ci 4) d os⟩
theorem Blk.S2 (h : Blk w g t (List.toArray (a0 :: a1 :: r))) (v0 v1 : Value) : Blk ((w.setCell ⟨g, 0, none⟩ v0).setCell ⟨g, 1, none⟩ v1) g t (List.toArray (v0 :: v1 :: r)) ∧ w.grownBy ((w.setCell ⟨g, 0, none⟩ v0).setCell ⟨g, 1, none⟩ v1) (some g) :=
 ⟨Blk.eq ((h.set 0 v0).set 1 v1) (by simp), bes_set (bes_set (Blk.g0 w g) 0 v0) 1 v1⟩
theorem Blk.S4 (h : Blk w g t (List.toArray (a0 :: a1 :: a2 :: a3 :: r))) (v0 v1 v2 v3 : Value) : Blk ((((w.setCell ⟨g, 0, none⟩ v0).setCell ⟨g, 1, none⟩ v1).setCell ⟨g, 2, none⟩ v2).setCell ⟨g, 3, none⟩ v3) g t (List.toArray (v0 :: v1 :: v2 :: v3 :: r)) ∧ w.grownBy ((((w.setCell ⟨g, 0, none⟩ v0).setCell ⟨g, 1, none⟩ v1).setCell ⟨g, 2, none⟩ v2).setCell ⟨g, 3, none⟩ v3) (some g) :=
 ⟨Blk.eq ((((h.set 0 v0).set 1 v1).set 2 v2).set 3 v3) (by simp), bes_set (bes_set (bes_set (bes_set (Blk.g0 w g) 0 v0) 1 v1) 2 v2) 3 v3⟩
theorem Blk.S8 (h : Blk w g t (List.toArray (a0 :: a1 :: a2 :: a3 :: a4 :: a5 :: a6 :: a7 :: r))) (v0 v1 v2 v3 v4 v5 v6 v7 : Value) : Blk ((((((((w.setCell ⟨g, 0, none⟩ v0).setCell ⟨g, 1, none⟩ v1).setCell ⟨g, 2, none⟩ v2).setCell ⟨g, 3, none⟩ v3).setCell ⟨g, 4, none⟩ v4).setCell ⟨g, 5, none⟩ v5).setCell ⟨g, 6, none⟩ v6).setCell ⟨g, 7, none⟩ v7) g t (List.toArray (v0 :: v1 :: v2 :: v3 :: v4 :: v5 :: v6 :: v7 :: r)) ∧ w.grownBy ((((((((w.setCell ⟨g, 0, none⟩ v0).setCell ⟨g, 1, none⟩ v1).setCell ⟨g, 2, none⟩ v2).setCell ⟨g, 3, none⟩ v3).setCell ⟨g, 4, none⟩ v4).setCell ⟨g, 5, none⟩ v5).setCell ⟨g, 6, none⟩ v6).setCell ⟨g, 7, none⟩ v7) (some g) := by
 obtain ⟨h1, g1⟩ := h.S4 v0 v1 v2 v3
 exact ⟨Blk.eq ((((h1.set 4 v4).set 5 v5).set 6 v6).set 7 v7) (by simp), bes_set (bes_set (bes_set (bes_set g1 4 v4) 5 v5) 6 v6) 7 v7⟩
theorem rc3 {b o : Nat} (h : ∀ j u, (a0 :: a1 :: a2 :: r)[j]? = some u → w.cell? ⟨b, o + j, none⟩ = some u) : w.cell? ⟨b, o, none⟩ = some a0 ∧ w.cell? ⟨b, o + 1, none⟩ = some a1 ∧ w.cell? ⟨b, o + 2, none⟩ = some a2 := ⟨h 0 _ rfl, h 1 _ rfl, h 2 _ rfl⟩
theorem rc5 {b o : Nat} (h : ∀ j u, (a0 :: a1 :: a2 :: a3 :: a4 :: r)[j]? = some u → w.cell? ⟨b, o + j, none⟩ = some u) : w.cell? ⟨b, o, none⟩ = some a0 ∧ w.cell? ⟨b, o + 1, none⟩ = some a1 ∧ w.cell? ⟨b, o + 2, none⟩ = some a2 ∧ w.cell? ⟨b, o + 3, none⟩ = some a3 ∧ w.cell? ⟨b, o + 4, none⟩ = some a4 := ⟨h 0 _ rfl, h 1 _ rfl, h 2 _ rfl, h 3 _ rfl, h 4 _ rfl⟩
theorem rc14 {b o : Nat} (h : ∀ j u, (a0 :: a1 :: a2 :: a3 :: a4 :: a5 :: a6 :: a7 :: a8 :: a9 :: b0 :: b1 :: b2 :: b3 :: r)[j]? = some u → w.cell? ⟨b, o + j, none⟩ = some u) : w.cell? ⟨b, o, none⟩ = some a0 ∧ w.cell? ⟨b, o + 1, none⟩ = some a1 ∧ w.cell? ⟨b, o + 2, none⟩ = some a2 ∧ w.cell? ⟨b, o + 3, none⟩ = some a3 ∧ w.cell? ⟨b, o + 4, none⟩ = some a4 ∧ w.cell? ⟨b, o + 5, none⟩ = some a5 ∧ w.cell? ⟨b, o + 6, none⟩ = some a6 ∧ w.cell? ⟨b, o + 7, none⟩ = some a7 ∧
 w.cell? ⟨b, o + 8, none⟩ = some a8 ∧ w.cell? ⟨b, o + 9, none⟩ = some a9 ∧ w.cell? ⟨b, o + 10, none⟩ = some b0 ∧ w.cell? ⟨b, o + 11, none⟩ = some b1 ∧ w.cell? ⟨b, o + 12, none⟩ = some b2 ∧ w.cell? ⟨b, o + 13, none⟩ = some b3 := ⟨h 0 _ rfl, h 1 _ rfl, h 2 _ rfl, h 3 _ rfl, h 4 _ rfl, h 5 _ rfl, h 6 _ rfl, h 7 _ rfl, h 8 _ rfl, h 9 _ rfl, h 10 _ rfl, h 11 _ rfl, h 12 _ rfl, h 13 _ rfl⟩
end
abbrev zDel : Array Value := #[.int .i64 0, .int .i64 0, .slice none 0 0, .slice none 0 0, .slice none 0 0, .slice none 0 0, .slice none 0 0, .slice none 0 0]
abbrev zSta : Array Value := #[.int .i64 0, .slice none 0 0, .slice none 0 0, .slice none 0 0]
end Go.Proofs.YtjgnnobccecpeaaGreatDoor
