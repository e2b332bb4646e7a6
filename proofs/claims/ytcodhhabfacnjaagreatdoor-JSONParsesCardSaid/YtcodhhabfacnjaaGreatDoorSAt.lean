/- Of the proof of a statement: At. -/
import Derived.Test.YtcodhhabfacnjaaGreatDoorSRowsR
import Derived.Test.YtcodhhabfacnjaaGreatDoorSStAt
set_option linter.unusedVariables false
set_option linter.unusedSimpArgs false
/- The walks of JobAt and NodeAt. -/
namespace Go.Proofs.YtcodhhabfacnjaaGreatDoor
open Go.RowKit
section
variable {α : Type} {p : α → Bool} {l : List α} {k : Nat} {x : α}
theorem take_snoc (h : l[k]? = some x) : l.take (k + 1) = l.take k ++ [x] := by
  obtain ⟨hlt, rfl⟩ := List.getElem?_eq_some_iff.1 h
  exact (List.take_append_getElem hlt).symm
theorem find_hit (h0 : (l.take k).find? p = none) (h : l[k]? = some x) (hp : p x = true) : l.find? p = some x := by
  have e : l = l.take k ++ x :: l.drop (k + 1) := by rw [← drop_cons h, List.take_append_drop]
  rw [e, List.find?_append, h0, List.find?_cons, hp]; rfl
theorem find_miss (h0 : (l.take k).find? p = none) (h : l[k]? = some x) (hp : p x = false) : (l.take (k + 1)).find? p = none := by
  rw [take_snoc h, List.find?_append, h0, List.find?_cons, hp]; rfl
theorem find_out (h0 : (l.take k).find? p = none) (h : l.length ≤ k) : l.find? p = none := by rwa [List.take_of_length_le h] at h0
end
theorem beq_same (s : ByteArray) : (s.toList == s.toList) = true := beq_iff_eq.2 rfl
theorem beq_diff {s t : ByteArray} (h : s ≠ t) : (s.toList == t.toList) = false := by
  rw [beq_eq_false_iff_ne, ByteArray.toList_eq, ByteArray.toList_eq]
  exact fun e => h (ByteArray.ext (Array.toList_inj.1 e))
def JobAtPost (xs : List JobD) (s : ByteArray) (w : World) (e : Ending) (w' : World) : Prop :=
  ∃ i : Int, e = .returned (.int .i64 i) ∧ Below w.heap.size w w' ∧ ((i = -1 ∧ jobOf xs s = none) ∨ ∃ (k : Nat) (x : JobD), i = (k : Int) ∧ xs[k]? = some x ∧ jobOf xs s = some x)
def JobAtInv (xs : List JobD) (s : ByteArray) (n : Nat) (w : World) (i : Value) (wr : World) : Prop := ∃ k : Nat, k ≤ n ∧ i = .int .i64 k ∧ (xs.take k).find? (fun x => decide (x.name = s)) = none ∧ Below w.heap.size w wr
set_option maxRecDepth 100000 in
set_option maxHeartbeats 1000000 in
theorem jobAt_any (xs : List JobD) (s : ByteArray) (A : Option Addr) (n c : Nat) (w : World) (hx : SlAt w w.heap.size 5 A n (rowsV jobV xs)) (hl : xs.length = n) (hn : n ≤ 9223372036854775807) :
    Calls Tryz.prog 63 #[.slice A n c, .string s] w (JobAtPost xs s w) := by
  have Hl := Lib.hid hl
  clear hl
  go_enter Tryz.func63, Tryz.ntmps63
  go_wp2
  go_loopw [4, 5, 6, 9] (fun _ _ _ i wr => JobAtInv xs s n w i wr) (fun _ _ _ i _ => n - (intOf i).toNat)
  case atStart => exact ⟨0, Nat.zero_le _, rfl, by simp, Below.refl _ _⟩
  case round =>
    obtain ⟨k, hk, rfl, hnone, hb⟩ := hrel
    have Hnone := Lib.hid hnone
    have Hb := Lib.hid hb
    have hsz := hb.size
    clear hnone
    by_cases hlt : k < n
    · obtain ⟨x, hf⟩ : ∃ x, xs[k]? = some x := ⟨_, List.getElem?_eq_getElem (by rw [Hl.out]; exact hlt)⟩
      obtain ⟨b, off, rfl, hbB, hc⟩ := (hx.below hb).rec_ jobV_len Hl.out hf
      have Hf := Lib.hid hf
      obtain ⟨name, prio, need, tries, tag⟩ := x
      have c0 : wr.cell? ⟨b, off + k * 5, none⟩ = some (.string name) := hc 0 _ rfl
      have c1 : wr.cell? ⟨b, off + k * 5 + 1, none⟩ = some (.int .i64 prio) := hc 1 _ rfl
      have c2 : wr.cell? ⟨b, off + k * 5 + 2, none⟩ = some (.int .i64 need) := hc 2 _ rfl
      have c3 : wr.cell? ⟨b, off + k * 5 + 3, none⟩ = some (.int .i64 tries) := hc 3 _ rfl
      have c4 : wr.cell? ⟨b, off + k * 5 + 4, none⟩ = some (.string tag) := hc 4 _ rfl
      clear hc hf hx hb
      have hlb : b < wr.heap.size := by omega
      have hBa := Lib.hid (Hb.out.alloc Hb.out.size (.cells #[.string name, .int .i64 prio, .int .i64 need, .int .i64 tries, .string tag] 39))
      by_cases hs : name = s
      · subst hs
        have e1 := beq_same name
        have fin := Lib.hid (find_hit Hnone.out Hf.out (by simp))
        go_wp2
        go_ret
        exact ⟨_, rfl, hBa.out, .inr ⟨k, _, rfl, Hf.out, fin.out⟩⟩
      · have e1 := beq_diff hs
        have fin := Lib.hid (find_miss Hnone.out Hf.out (by simp [hs]))
        go_wp2
        go_roundw
        case rel => exact ⟨k + 1, by omega, by go_num, fin.out, hBa.out⟩
        case measure => simp [intOf]; omega
    · have fin := Lib.hid (find_out Hnone.out (by rw [Hl.out]; omega))
      clear hx
      go_wp2
      go_ret
      exact ⟨_, rfl, Hb.out, .inl ⟨rfl, fin.out⟩⟩
def NodeAtPost (xs : List NodeD) (s : ByteArray) (w : World) (e : Ending) (w' : World) : Prop :=
  ∃ i : Int, e = .returned (.int .i64 i) ∧ Below w.heap.size w w' ∧ ((i = -1 ∧ nodeOf xs s = none) ∨ ∃ (k : Nat) (x : NodeD), i = (k : Int) ∧ xs[k]? = some x ∧ nodeOf xs s = some x)
def NodeAtInv (xs : List NodeD) (s : ByteArray) (n : Nat) (w : World) (i : Value) (wr : World) : Prop := ∃ k : Nat, k ≤ n ∧ i = .int .i64 k ∧ (xs.take k).find? (fun x => decide (x.name = s)) = none ∧ Below w.heap.size w wr
set_option maxRecDepth 100000 in
set_option maxHeartbeats 1000000 in
theorem nodeAt_any (xs : List NodeD) (s : ByteArray) (A : Option Addr) (n c : Nat) (w : World) (hx : SlAt w w.heap.size 3 A n (rowsV nodeV xs)) (hl : xs.length = n) (hn : n ≤ 9223372036854775807) :
    Calls Tryz.prog 64 #[.slice A n c, .string s] w (NodeAtPost xs s w) := by
  have Hl := Lib.hid hl
  clear hl
  go_enter Tryz.func64, Tryz.ntmps64
  go_wp2
  go_loopw [4, 5, 6, 9] (fun _ _ _ i wr => NodeAtInv xs s n w i wr) (fun _ _ _ i _ => n - (intOf i).toNat)
  case atStart => exact ⟨0, Nat.zero_le _, rfl, by simp, Below.refl _ _⟩
  case round =>
    obtain ⟨k, hk, rfl, hnone, hb⟩ := hrel
    have Hnone := Lib.hid hnone
    have Hb := Lib.hid hb
    have hsz := hb.size
    clear hnone
    by_cases hlt : k < n
    · obtain ⟨x, hf⟩ : ∃ x, xs[k]? = some x := ⟨_, List.getElem?_eq_getElem (by rw [Hl.out]; exact hlt)⟩
      obtain ⟨b, off, rfl, hbB, hc⟩ := (hx.below hb).rec_ nodeV_len Hl.out hf
      have Hf := Lib.hid hf
      obtain ⟨name, room, zone⟩ := x
      have c0 : wr.cell? ⟨b, off + k * 3, none⟩ = some (.string name) := hc 0 _ rfl
      have c1 : wr.cell? ⟨b, off + k * 3 + 1, none⟩ = some (.int .i64 room) := hc 1 _ rfl
      have c2 : wr.cell? ⟨b, off + k * 3 + 2, none⟩ = some (.string zone) := hc 2 _ rfl
      clear hc hf hx hb
      have hlb : b < wr.heap.size := by omega
      have hBa := Lib.hid (Hb.out.alloc Hb.out.size (.cells #[.string name, .int .i64 room, .string zone] 43))
      by_cases hs : name = s
      · subst hs
        have e1 := beq_same name
        have fin := Lib.hid (find_hit Hnone.out Hf.out (by simp))
        go_wp2
        go_ret
        exact ⟨_, rfl, hBa.out, .inr ⟨k, _, rfl, Hf.out, fin.out⟩⟩
      · have e1 := beq_diff hs
        have fin := Lib.hid (find_miss Hnone.out Hf.out (by simp [hs]))
        go_wp2
        go_roundw
        case rel => exact ⟨k + 1, by omega, by go_num, fin.out, hBa.out⟩
        case measure => simp [intOf]; omega
    · have fin := Lib.hid (find_out Hnone.out (by rw [Hl.out]; omega))
      clear hx
      go_wp2
      go_ret
      exact ⟨_, rfl, Hb.out, .inl ⟨rfl, fin.out⟩⟩
end Go.Proofs.YtcodhhabfacnjaaGreatDoor
