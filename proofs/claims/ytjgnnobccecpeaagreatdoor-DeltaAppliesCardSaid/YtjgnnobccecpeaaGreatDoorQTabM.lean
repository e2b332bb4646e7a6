/- Of the proof of a statement: TabM. -/
import Derived.Maps.OwnSet
import Derived.StringKeys
import Derived.Test.YtjgnnobccecpeaaGreatDoorQBlk
set_option linter.unusedVariables false
set_option linter.unusedSimpArgs false
/- Maps keyed by texts that the call itself has made: what they hold, as a function. -/
namespace Go.Proofs.YtjgnnobccecpeaaGreatDoor
open Go.RowKit Go.Maps
def heldR : Value → Option (DataW Value × List MemPlace) := fun v => some (.held v, [])
/-- Block b is a map of at most n entries: at the text s it holds g s. -/
def MapIs (w : World) (b n : Nat) (g : ByteArray → Option Value) : Prop :=
  ∃ D : DataW Value, w.ownsMap Tryz.prog 9 heldR b n D ∧ ∀ (s : ByteArray) (z : DataW Value), D.atKey (.string s.data.toList) z = match g s with
    | none => z
    | some v => .held v
theorem lawS : Keyed Tryz.prog 9 := string_keyed Tryz.underlying9
section
variable {w w' : World} {b n : Nat} {g : ByteArray → Option Value}
theorem MapIs.made (w : World) : MapIs (w.alloc (.map #[] 0)) w.heap.size 0 (fun _ => none) := ⟨.map [], World.ownsMap_made w _ _ _, fun _ _ => rfl⟩
theorem MapIs.lt (h : MapIs w b n g) : b < w.heap.size := h.choose_spec.1.lt
theorem MapIs.same (h : MapIs w b n g) (e : w'.heap[b]? = w.heap[b]?) : MapIs w' b n g := by
  obtain ⟨D, ⟨es, clock, hb, r⟩, hD⟩ := h
  exact ⟨D, ⟨es, clock, e.trans hb, r⟩, hD⟩
theorem MapIs.below {B : Nat} (h : MapIs w b n g) (hb : Below B w w') (hB : b < B) : MapIs w' b n g := h.same (hb.block b hB)
theorem MapIs.but {c : Nat} (h : MapIs w b n g) (hg : w.grownBy w' (some c)) (hne : b ≠ c) : MapIs w' b n g := h.same (hg.block b h.lt (by simp [hne]))
theorem MapIs.congr {g' : ByteArray → Option Value} (h : MapIs w b n g) (e : ∀ s, g s = g' s) : MapIs w b n g' := by
  obtain ⟨D, ho, hD⟩ := h
  exact ⟨D, ho, fun s z => by rw [hD, e]⟩
theorem MapIs.mono {m : Nat} (h : MapIs w b n g) (hm : n ≤ m) : MapIs w b m g := by
  obtain ⟨D, ho, hD⟩ := h
  exact ⟨D, ho.mono hm, hD⟩
theorem data_inj {s t : ByteArray} (h : (Lit.string s.data.toList) = .string t.data.toList) : s = t := by
  injection h with h
  exact ByteArray.ext (Array.toList_inj.1 h)
theorem MapIs.put {t e : TypeId} (h : MapIs w b n g) (ht : Tryz.prog.underlying t = some (.map 9 e)) (hn : n < maxLen) (s : ByteArray) (hs : s.size ≤ maxLen) (v : Value) :
    ∃ w', (Instr.mapUpdate t (.map (some b)) (.string s) v).run Tryz.prog w = .ok () w' ∧ MapIs w' b (n + 1) (fun x => if x = s then some v else g x) ∧ w.grownBy w' (some b) := by
  obtain ⟨D, ho, hD⟩ := h
  obtain ⟨w', hr, ho', hg⟩ := ho.update lawS ht hn (Go.WideMaps.keyOf_string_mk Tryz.underlying9 hs) (val := v) (d := .held v) (ps := []) rfl
  refine ⟨w', hr, ⟨_, ho', fun x z => ?_⟩, hg⟩
  by_cases hx : x = s
  · subst hx
    rw [atKey_put_same ho.isMap (by simp [WideAt.IsKeyLit])]
    simp
  · rw [atKey_put_other (fun e => hx (data_inj e)), hD x z]
    simp [hx]
theorem MapIs.look {t e : TypeId} (h : MapIs w b n g) (ht : Tryz.prog.underlying t = some (.map 9 e)) {z : Value} (hz : (zeroValue e).run Tryz.prog w = .ok z w) (s : ByteArray) (hs : s.size ≤ maxLen) :
    (Instr.lookup t (.map (some b)) (.string s) false).run Tryz.prog w = .ok ((g s).getD z) w := by
  obtain ⟨D, ho, hD⟩ := h
  obtain ⟨v, ps, hr, hv⟩ := ho.lookup lawS ht hz (zd := .held z) (zp := []) rfl (Go.WideMaps.keyOf_string_mk Tryz.underlying9 hs)
  rw [hD] at hv
  have hv1 : (DataW.held v : DataW Value) = match g s with | none => .held z | some v => .held v := by
    have := congrArg (fun o => o.map Prod.fst) hv
    simpa [heldR] using this
  have e : v = (g s).getD z := by
    cases hg : g s with
    | none => rw [hg] at hv1; injection hv1
    | some u => rw [hg] at hv1; injection hv1
  rw [hr, e]
theorem MapIs.look_ok {t e : TypeId} (h : MapIs w b n g) (ht : Tryz.prog.underlying t = some (.map 9 e)) {z : Value} (hz : (zeroValue e).run Tryz.prog w = .ok z w) (s : ByteArray) (hs : s.size ≤ maxLen) :
    (Instr.lookup t (.map (some b)) (.string s) true).run Tryz.prog w = .ok (.tuple #[(g s).getD z, .bool (g s).isSome]) w := by
  obtain ⟨D, ho, hD⟩ := h
  obtain ⟨v, ps, hr, hv⟩ := ho.look_ok lawS ht hz (zd := .held z) (zp := []) rfl (Go.WideMaps.keyOf_string_mk Tryz.underlying9 hs)
  rw [hD] at hv
  have hv1 : (DataW.held v : DataW Value) = match g s with | none => .held z | some v => .held v := by
    have := congrArg (fun o => o.map Prod.fst) hv
    simpa [heldR] using this
  cases hg : g s with
  | none =>
    rw [hg] at hv1
    have e : v = z := by injection hv1
    have hh : Maps.has D (.string s.data.toList) = false := Maps.has_false_of_atKey (fun x => by rw [hD, hg])
    rw [hr, e, hh]; rfl
  | some u =>
    rw [hg] at hv1
    have e : v = u := by injection hv1
    have hh : Maps.has D (.string s.data.toList) = true := Maps.has_true_of_atKey (y := .held u) (fun x => by rw [hD, hg])
    rw [hr, e, hh]; rfl
end
end Go.Proofs.YtjgnnobccecpeaaGreatDoor
