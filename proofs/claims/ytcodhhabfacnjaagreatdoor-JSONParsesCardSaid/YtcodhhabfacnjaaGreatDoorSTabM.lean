/- Of the proof of a statement: Put, Read, Blk, TabM. -/
import Derived.Laws.BitsAllLaws
import Derived.Below
import Derived.Laws.Bits64b
import Derived.Maps.OwnSet
import Derived.StringKeys
import Derived.Test.YtcodhhabfacnjaaGreatDoorSPush
set_option linter.unusedVariables false
set_option linter.unusedSimpArgs false
/- The walks of Put and Number, in the program and in the reference. -/
namespace Go.Proofs.YtcodhhabfacnjaaGreatDoor
open Go.RowKit
/-- What Put leaves: a row of the call's own with the number's bytes behind. -/
def PutPost (base : Nat) (A : Option Addr) (m c : Nat) (l : List UInt8) (w : World) (e : Ending) (w' : World) : Prop :=
  ∃ A' m' c', e = .returned (.slice A' m' c') ∧ w'.ownsRow base 5 1 (.slice A' m' c') m' (bytesV l) ∧ Grew w w' (.slice A m c) (.slice A' m' c')
/-- chr: one byte. -/
theorem chr_any (n : Int) (w : World) (h0 : 0 ≤ n) (h1 : n < 18446744073709551616) :
    Calls Tryz.prog 39 #[.int .u64 n] w fun e w' => e = .returned (.string ⟨#[UInt8.ofNat n.toNat]⟩) ∧ Below w.heap.size w w' := by
  have hb : n % 256 = (((UInt8.ofNat n.toNat).toNat : Nat) : Int) := by rw [UInt8.toNat_ofNat']; omega
  have hrun := run_string_new (P := Tryz.prog) (w := w) (n := 1) (c := 1) (cs := #[.int .u8 (n % 256)]) (l := [UInt8.ofNat n.toNat]) Tryz.underlying78 Tryz.underlying5 Tryz.underlying9 (by simp [bytesV, hb]) rfl
  clear hb
  go_enter Tryz.func39, Tryz.ntmps39
  go_wp2
  go_ret
  exact ⟨rfl, (Below.refl _ _).alloc (Nat.le_refl _) _⟩
end Go.Proofs.YtcodhhabfacnjaaGreatDoor
/- The walks of ReadNumber, in the program and in the reference. -/
namespace Go.Proofs.YtcodhhabfacnjaaGreatDoor
open Go.RowKit
/-- s[k] of a string. -/
theorem idx_str {s : ByteArray} {k c : Nat} (h : k < s.size) (hc : s[k].toNat = c) (W : World) : (Instr.index 9 (.string s) (.int .i64 (k : Int))).run Tryz.prog W = .ok (.int .u8 (c : Int)) W := by
  rw [run_index_string W 9 s .i64 (k : Int) Tryz.underlying9, dif_pos ⟨by omega, by omega⟩]
  subst hc
  simp only [Int.toNat_natCast]
end Go.Proofs.YtcodhhabfacnjaaGreatDoor
/- Blocks that are known whole; worlds that keep all blocks but one. -/
namespace Go.Proofs.YtcodhhabfacnjaaGreatDoor
open Go.RowKit
/-- A block that is known whole, none of its cells marked. -/
def Blk (w : World) (g : Nat) (t : TypeId) (cs : Array Value) : Prop := w.heap[g]? = some (.cells cs t (0, 0))
theorem Blk.below {w w' : World} {g B : Nat} {t : TypeId} {cs : Array Value} (h : Blk w g t cs) (hb : Below B w w') (hg : g < B) : Blk w' g t cs := (hb.block g hg).trans h
theorem Blk.lt {w : World} {g : Nat} {t : TypeId} {cs : Array Value} (h : Blk w g t cs) : g < w.heap.size := by
  rcases Nat.lt_or_ge g w.heap.size with h1 | h1
  · exact h1
  · unfold Blk at h; rw [Array.getElem?_eq_none h1] at h; cases h
theorem Blk.cell {w : World} {g : Nat} {t : TypeId} {cs : Array Value} (h : Blk w g t cs) (i : Nat) : w.cell? ⟨g, i, none⟩ = cs[i]? := cell_of_row w g i cs t (0, 0) h
theorem Blk.thaw {w : World} {g : Nat} {t : TypeId} {cs : Array Value} (h : Blk w g t cs) (i : Nat) : w.frozen? ⟨g, i, none⟩ = false := by unfold Blk at h; simp [World.frozen?, h]
theorem Blk.set {w : World} {g : Nat} {t : TypeId} {cs : Array Value} (h : Blk w g t cs) (i : Nat) (v : Value) : Blk (w.setCell ⟨g, i, none⟩ v) g t (cs.setIfInBounds i v) := by
  unfold Blk at h ⊢
  simp [World.setCell, Array.getElem?_modify, h]
theorem Blk.alloc {w : World} {g : Nat} {t : TypeId} {cs : Array Value} (h : Blk w g t cs) (o : Obj) : Blk (w.alloc o) g t cs := h.below ((Below.refl w.heap.size w).alloc (Nat.le_refl _) o) h.lt
theorem Blk.eq {w : World} {g : Nat} {t : TypeId} {cs cs' : Array Value} (h : Blk w g t cs) (e : cs = cs') : Blk w g t cs' := e ▸ h
section
variable {w a b : World} {g : Nat}
theorem bes_below (h : w.grownBy a (some g)) (hb : Below a.heap.size a b) : w.grownBy b (some g) :=
  ⟨hb.os.trans h.os, hb.tape.trans h.tape, hb.output.trans h.output, Nat.le_trans h.size hb.size, fun k hk hne => (hb.block k (Nat.lt_of_lt_of_le hk h.size)).trans (h.block k hk hne)⟩
theorem bes_set (h : w.grownBy a (some g)) (i : Nat) (v : Value) : w.grownBy (a.setCell ⟨g, i, none⟩ v) (some g) :=
  ⟨h.os, h.tape, h.output, by have := h.size; simp [World.setCell]; omega, fun k hk hne => (Below.heap_setCell a ⟨g, i, none⟩ v k (fun e => hne (by rw [e]))).trans (h.block k hk hne)⟩
theorem bes_grew {v v' : Value} (h : w.grownBy a (some g)) (hg : Grew a b v v') (hv : ∀ k, v.ownBlock = some k → w.heap.size ≤ k) : w.grownBy b (some g) :=
  ⟨hg.grown.os.trans h.os, hg.grown.tape.trans h.tape, hg.grown.output.trans h.output, Nat.le_trans h.size hg.grown.size, fun k hk hne =>
    (hg.grown.block k (Nat.lt_of_lt_of_le hk h.size) (fun e => by have := hv k e.symm; omega)).trans (h.block k hk hne)⟩
theorem Blk.grew {v v' : Value} {t : TypeId} {cs : Array Value} (h : Blk a g t cs) (hg : Grew a b v v') (hv : ∀ k, v.ownBlock = some k → g < k) : Blk b g t cs :=
  (hg.grown.block g h.lt (fun e => by have := hv g e.symm; omega)).trans h
end
end Go.Proofs.YtcodhhabfacnjaaGreatDoor
/- Maps keyed by texts that the call itself has made: what they hold, as a function. -/
namespace Go.Proofs.YtcodhhabfacnjaaGreatDoor
open Go.RowKit Go.Maps
def heldR : Value → Option (DataW Value × List MemPlace) := fun v => some (.held v, [])
/-- Block b is a map of at most n entries: at the text s it holds g s. -/
def MapIs (w : World) (b n : Nat) (g : ByteArray → Option Value) : Prop :=
  ∃ D : DataW Value, w.ownsMap Tryz.prog 9 heldR b n D ∧ ∀ (s : ByteArray) (z : DataW Value), D.atKey (.string s.data.toList) z = match g s with
    | none => z
    | some v => .held v
theorem lawS : Keyed Tryz.prog 9 := string_keyed Tryz.underlying9
section
variable {w w' : World} {b n : Nat} {g : ByteArray → Option Value}
theorem MapIs.made (w : World) : MapIs (w.alloc (.map #[] 0)) w.heap.size 0 (fun _ => none) := ⟨.map [], World.ownsMap_made w _ _ _, fun _ _ => rfl⟩
theorem MapIs.lt (h : MapIs w b n g) : b < w.heap.size := h.choose_spec.1.lt
theorem MapIs.same (h : MapIs w b n g) (e : w'.heap[b]? = w.heap[b]?) : MapIs w' b n g := by
  obtain ⟨D, ⟨es, clock, hb, r⟩, hD⟩ := h
  exact ⟨D, ⟨es, clock, e.trans hb, r⟩, hD⟩
theorem MapIs.below {B : Nat} (h : MapIs w b n g) (hb : Below B w w') (hB : b < B) : MapIs w' b n g := h.same (hb.block b hB)
theorem MapIs.but {c : Nat} (h : MapIs w b n g) (hg : w.grownBy w' (some c)) (hne : b ≠ c) : MapIs w' b n g := h.same (hg.block b h.lt (by simp [hne]))
theorem MapIs.congr {g' : ByteArray → Option Value} (h : MapIs w b n g) (e : ∀ s, g s = g' s) : MapIs w b n g' := by
  obtain ⟨D, ho, hD⟩ := h
  exact ⟨D, ho, fun s z => by rw [hD, e]⟩
theorem MapIs.mono {m : Nat} (h : MapIs w b n g) (hm : n ≤ m) : MapIs w b m g := by
  obtain ⟨D, ho, hD⟩ := h
  exact ⟨D, ho.mono hm, hD⟩
theorem data_inj {s t : ByteArray} (h : (Lit.string s.data.toList) = .string t.data.toList) : s = t := by
  injection h with h
  exact ByteArray.ext (Array.toList_inj.1 h)
theorem MapIs.put {t e : TypeId} (h : MapIs w b n g) (ht : Tryz.prog.underlying t = some (.map 9 e)) (hn : n < maxLen) (s : ByteArray) (hs : s.size ≤ maxLen) (v : Value) :
    ∃ w', (Instr.mapUpdate t (.map (some b)) (.string s) v).run Tryz.prog w = .ok () w' ∧ MapIs w' b (n + 1) (fun x => if x = s then some v else g x) ∧ w.grownBy w' (some b) := by
  obtain ⟨D, ho, hD⟩ := h
  obtain ⟨w', hr, ho', hg⟩ := ho.update lawS ht hn (Go.WideMaps.keyOf_string_mk Tryz.underlying9 hs) (val := v) (d := .held v) (ps := []) rfl
  refine ⟨w', hr, ⟨_, ho', fun x z => ?_⟩, hg⟩
  by_cases hx : x = s
  · subst hx
    rw [atKey_put_same ho.isMap (by simp [WideAt.IsKeyLit])]
    simp
  · rw [atKey_put_other (fun e => hx (data_inj e)), hD x z]
    simp [hx]
theorem MapIs.look {t e : TypeId} (h : MapIs w b n g) (ht : Tryz.prog.underlying t = some (.map 9 e)) {z : Value} (hz : (zeroValue e).run Tryz.prog w = .ok z w) (s : ByteArray) (hs : s.size ≤ maxLen) :
    (Instr.lookup t (.map (some b)) (.string s) false).run Tryz.prog w = .ok ((g s).getD z) w := by
  obtain ⟨D, ho, hD⟩ := h
  obtain ⟨v, ps, hr, hv⟩ := ho.lookup lawS ht hz (zd := .held z) (zp := []) rfl (Go.WideMaps.keyOf_string_mk Tryz.underlying9 hs)
  rw [hD] at hv
  have hv1 : (DataW.held v : DataW Value) = match g s with | none => .held z | some v => .held v := by
    have := congrArg (fun o => o.map Prod.fst) hv
    simpa [heldR] using this
  have e : v = (g s).getD z := by
    cases hg : g s with
    | none => rw [hg] at hv1; injection hv1
    | some u => rw [hg] at hv1; injection hv1
  rw [hr, e]
theorem MapIs.look_ok {t e : TypeId} (h : MapIs w b n g) (ht : Tryz.prog.underlying t = some (.map 9 e)) {z : Value} (hz : (zeroValue e).run Tryz.prog w = .ok z w) (s : ByteArray) (hs : s.size ≤ maxLen) :
    (Instr.lookup t (.map (some b)) (.string s) true).run Tryz.prog w = .ok (.tuple #[(g s).getD z, .bool (g s).isSome]) w := by
  obtain ⟨D, ho, hD⟩ := h
  obtain ⟨v, ps, hr, hv⟩ := ho.look_ok lawS ht hz (zd := .held z) (zp := []) rfl (Go.WideMaps.keyOf_string_mk Tryz.underlying9 hs)
  rw [hD] at hv
  have hv1 : (DataW.held v : DataW Value) = match g s with | none => .held z | some v => .held v := by
    have := congrArg (fun o => o.map Prod.fst) hv
    simpa [heldR] using this
  cases hg : g s with
  | none =>
    rw [hg] at hv1
    have e : v = z := by injection hv1
    have hh : Maps.has D (.string s.data.toList) = false := Maps.has_false_of_atKey (fun x => by rw [hD, hg])
    rw [hr, e, hh]; rfl
  | some u =>
    rw [hg] at hv1
    have e : v = u := by injection hv1
    have hh : Maps.has D (.string s.data.toList) = true := Maps.has_true_of_atKey (y := .held u) (fun x => by rw [hD, hg])
    rw [hr, e, hh]; rfl
end
end Go.Proofs.YtcodhhabfacnjaaGreatDoor
