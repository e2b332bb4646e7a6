/- Of the proof of a statement: RowsR, At, Clone. -/
import Derived.Deep.QuietTactic
import Derived.BigQuiet
import Derived.Test.YtjgnnobccecpeaaGreatDoorPHasF
set_option linter.unusedVariables false
set_option linter.unusedSimpArgs false
set_option maxRecDepth 100000
set_option maxHeartbeats 8000000
/- The walks of jobsCheck and nodesCheck in the reference. -/
namespace Go.Proofs.YtjgnnobccecpeaaGreatDoor
open Go.Lib (hid)
open Go.RowKit
theorem jobsCheck_any (xs : List JobD) (A : Option Addr) (n c : Nat) (w : World) (hx : SlAt w w.heap.size 5 A n (rowsV jobV xs)) (hl : xs.length = n) (hn : n ≤ 9223372036854775807) (hok : JobsOk xs) :
 Calls Tryz.prog 30 #[.slice A n c] w fun e w' => e = .returned (.int .i64 (rowsE jobE JobD.name xs)) ∧ Below w.heap.size w w' := by
 obtain ⟨R, hR⟩ : ∃ R, rowsE jobE JobD.name xs = R := ⟨_, rfl⟩
 rw [hR]
 have HR := hid hR
 have Hl := hid hl
 have Hok := hid hok
 clear hl hR hok
 go_enter Tryz.func30, Tryz.ntmps30
 go_wp2
 go_loopw [2, 3, 4, 5, 8, 14] (fun _ _ _ _ i _ wr => JobInv xs n R w i wr) (fun _ _ _ _ i _ _ => n - (intOf i).toNat)
 case atStart => exact ⟨0, Nat.zero_le _, rfl, by rw [← HR.out]; rfl, Below.refl _ _⟩
 case round =>
  obtain ⟨k, hk, rfl, hrow, hb⟩ := hrel
  have Hrow := hid hrow
  have Hb := hid hb
  have hsz := hb.size
  clear hrow
  by_cases hlt : k < n
  · obtain ⟨x, hf⟩ : ∃ x, xs[k]? = some x := ⟨_, List.getElem?_eq_getElem (by rw [Hl.out]; exact hlt)⟩
    obtain ⟨b, off, rfl, hbB, hc⟩ := (hx.below hb).rec_ jobV_len Hl.out hf
    have hso := hid (Hok.out x (List.mem_of_getElem? hf))
    have Hf := hid hf
    obtain ⟨E, hE⟩ : ∃ E, jobE x = E := ⟨_, rfl⟩
    have HE := hid hE
    obtain ⟨name, prio, need, tries, tag⟩ := x
    have c0 : wr.cell? ⟨b, off + k * 5, none⟩ = some (.string name) := hc 0 _ rfl
    have c1 : wr.cell? ⟨b, off + k * 5 + 1, none⟩ = some (.int .i64 prio) := hc 1 _ rfl
    have c2 : wr.cell? ⟨b, off + k * 5 + 2, none⟩ = some (.int .i64 need) := hc 2 _ rfl
    have c3 : wr.cell? ⟨b, off + k * 5 + 3, none⟩ = some (.int .i64 tries) := hc 3 _ rfl
    have c4 : wr.cell? ⟨b, off + k * 5 + 4, none⟩ = some (.string tag) := hc 4 _ rfl
    clear hc hf hE
    have hlb : b < wr.heap.size := by omega
    have hBa := hid (Hb.out.alloc Hb.out.size (.cells #[.string name, .int .i64 prio, .int .i64 need, .int .i64 tries, .string tag] 38))
    go_wp2_with fail
    refine Calls.mono (jobCheck_any ⟨name, prio, need, tries, tag⟩ _ hso.out.1 hso.out.2) ?_
    rintro e w1 ⟨rfl, hb1⟩
    rw [HE.out]
    have hA0 := (Below.refl wr.heap.size wr).alloc (Nat.le_refl _) (.cells #[.string name, .int .i64 prio, .int .i64 need, .int .i64 tries, .string tag] 38)
    have hA1 := hA0.trans (hb1.mono hA0.size)
    have hB1 := hid (hBa.out.trans (hb1.mono hBa.out.size))
    by_cases he : E = 0
    · subst he
      have l0 : w1.cell? ⟨wr.heap.size, 0, none⟩ = some (.string name) := by rw [(bcell hb1).1 _ _ (by simp)]; simp [go_sem]
      by_cases hk0 : k = 0
      · subst hk0
        have hst := hid (rows_next (key := JobD.name) Hf.out HE.out (.inl rfl))
        clear c0 c1 c2 c3 c4 hb1 hx hA0 hA1
        have hB2 := hid hB1.out.drew
        go_wp2
        go_region
        go_wp2
        go_roundw
        case rel => exact ⟨1, by omega, by go_num, by rw [← hst.out]; exact Hrow.out, hB2.out⟩
        case measure => simp [intOf]; omega
      · obtain ⟨y, hy⟩ : ∃ y, xs[k - 1]? = some y := ⟨_, List.getElem?_eq_getElem (by rw [Hl.out]; omega)⟩
        obtain ⟨b', off', hbo, hbB', hp⟩ := (hx.below hb).rec_ jobV_len Hl.out hy
        obtain ⟨rfl, rfl⟩ : b = b' ∧ off = off' := by simpa using hbo
        have Hy := hid hy
        obtain ⟨name', prio', need', tries', tag'⟩ := y
        have q0 : wr.cell? ⟨b, off + (k - 1) * 5, none⟩ = some (.string name') := hp 0 _ rfl
        have p0 : w1.cell? ⟨b, off + (k - 1) * 5, none⟩ = some (.string name') := ((bcell hA1).1 _ _ hlb).trans q0
        clear q0 c0 c1 c2 c3 c4 hp hy hb1 hx hA0 hA1
        have hkp : decide ((0 : Int) < (k : Int)) = true := decide_eq_true (by omega)
        have hkn : 0 < k := by omega
        have hB2 := hid hB1.out.drew
        obtain ⟨B, hB⟩ : ∃ B, Op.bytesLess name'.toList name.toList = B := ⟨_, rfl⟩
        have HL := hid hB
        cases B
        · have hst := hid (rows_order (key := JobD.name) Hf.out HE.out hk0 Hy.out HL.out)
          go_wp2
          go_region
          go_wp2
          go_ret
          exact ⟨ret_int (by rw [← Hrow.out]; exact hst.out.symm), hB2.out⟩
        · have hst := hid (rows_next (key := JobD.name) Hf.out HE.out (.inr ⟨_, Hy.out, HL.out⟩))
          go_wp2
          go_region
          go_wp2
          go_roundw
          case rel => exact ⟨k + 1, by omega, by go_num, by rw [← hst.out]; exact Hrow.out, hB2.out⟩
          case measure => simp [intOf]; omega
    · have hst := hid (rows_err (E := jobE) (key := JobD.name) Hf.out (by rw [HE.out]; exact he))
      have e1 : (E == 0) = false := beq_eq_false_iff_ne.2 he
      have e2 : (E != 0) = true := bne_iff_ne.2 he
      clear c0 c1 c2 c3 c4 hb1 hx hA0 hA1
      go_wp2
      go_ret
      exact ⟨ret_int (by rw [← Hrow.out, hst.out]; exact HE.out.symm), hB1.out⟩
  · obtain rfl : k = n := by omega
    have fin := hid (show R = 0 by rw [← Hrow.out]; exact rows_end (by rw [Hl.out]; exact Nat.le_refl _) _)
    clear hb hx
    go_wp2
    go_ret
    exact ⟨ret_int fin.out.symm, Hb.out⟩
theorem nodesCheck_any (xs : List NodeD) (A : Option Addr) (n c : Nat) (w : World) (hx : SlAt w w.heap.size 3 A n (rowsV nodeV xs)) (hl : xs.length = n) (hn : n ≤ 9223372036854775807) (hok : NodesOk xs) :
 Calls Tryz.prog 31 #[.slice A n c] w fun e w' => e = .returned (.int .i64 (rowsE nodeE NodeD.name xs)) ∧ Below w.heap.size w w' := by
 obtain ⟨R, hR⟩ : ∃ R, rowsE nodeE NodeD.name xs = R := ⟨_, rfl⟩
 rw [hR]
 have HR := hid hR
 have Hl := hid hl
 have Hok := hid hok
 clear hl hR hok
 go_enter Tryz.func31, Tryz.ntmps31
 go_wp2
 go_loopw [2, 3, 4, 5, 8, 14] (fun _ _ _ _ i _ wr => NodeInv xs n R w i wr) (fun _ _ _ _ i _ _ => n - (intOf i).toNat)
 case atStart => exact ⟨0, Nat.zero_le _, rfl, by rw [← HR.out]; rfl, Below.refl _ _⟩
 case round =>
  obtain ⟨k, hk, rfl, hrow, hb⟩ := hrel
  have Hrow := hid hrow
  have Hb := hid hb
  have hsz := hb.size
  clear hrow
  by_cases hlt : k < n
  · obtain ⟨x, hf⟩ : ∃ x, xs[k]? = some x := ⟨_, List.getElem?_eq_getElem (by rw [Hl.out]; exact hlt)⟩
    obtain ⟨b, off, rfl, hbB, hc⟩ := (hx.below hb).rec_ nodeV_len Hl.out hf
    have hso := hid (Hok.out x (List.mem_of_getElem? hf))
    have Hf := hid hf
    obtain ⟨E, hE⟩ : ∃ E, nodeE x = E := ⟨_, rfl⟩
    have HE := hid hE
    obtain ⟨name, room, zone⟩ := x
    have c0 : wr.cell? ⟨b, off + k * 3, none⟩ = some (.string name) := hc 0 _ rfl
    have c1 : wr.cell? ⟨b, off + k * 3 + 1, none⟩ = some (.int .i64 room) := hc 1 _ rfl
    have c2 : wr.cell? ⟨b, off + k * 3 + 2, none⟩ = some (.string zone) := hc 2 _ rfl
    clear hc hf hE
    have hlb : b < wr.heap.size := by omega
    have hBa := hid (Hb.out.alloc Hb.out.size (.cells #[.string name, .int .i64 room, .string zone] 40))
    go_wp2_with fail
    refine Calls.mono (nodeCheck_any ⟨name, room, zone⟩ _ hso.out.1 hso.out.2) ?_
    rintro e w1 ⟨rfl, hb1⟩
    rw [HE.out]
    have hA0 := (Below.refl wr.heap.size wr).alloc (Nat.le_refl _) (.cells #[.string name, .int .i64 room, .string zone] 40)
    have hA1 := hA0.trans (hb1.mono hA0.size)
    have hB1 := hid (hBa.out.trans (hb1.mono hBa.out.size))
    by_cases he : E = 0
    · subst he
      have l0 : w1.cell? ⟨wr.heap.size, 0, none⟩ = some (.string name) := by rw [(bcell hb1).1 _ _ (by simp)]; simp [go_sem]
      by_cases hk0 : k = 0
      · subst hk0
        have hst := hid (rows_next (key := NodeD.name) Hf.out HE.out (.inl rfl))
        clear c0 c1 c2 hb1 hx hA0 hA1
        have hB2 := hid hB1.out.drew
        go_wp2
        go_region
        go_wp2
        go_roundw
        case rel => exact ⟨1, by omega, by go_num, by rw [← hst.out]; exact Hrow.out, hB2.out⟩
        case measure => simp [intOf]; omega
      · obtain ⟨y, hy⟩ : ∃ y, xs[k - 1]? = some y := ⟨_, List.getElem?_eq_getElem (by rw [Hl.out]; omega)⟩
        obtain ⟨b', off', hbo, hbB', hp⟩ := (hx.below hb).rec_ nodeV_len Hl.out hy
        obtain ⟨rfl, rfl⟩ : b = b' ∧ off = off' := by simpa using hbo
        have Hy := hid hy
        obtain ⟨name', room', zone'⟩ := y
        have q0 : wr.cell? ⟨b, off + (k - 1) * 3, none⟩ = some (.string name') := hp 0 _ rfl
        have p0 : w1.cell? ⟨b, off + (k - 1) * 3, none⟩ = some (.string name') := ((bcell hA1).1 _ _ hlb).trans q0
        clear q0 c0 c1 c2 hp hy hb1 hx hA0 hA1
        have hkp : decide ((0 : Int) < (k : Int)) = true := decide_eq_true (by omega)
        have hkn : 0 < k := by omega
        have hB2 := hid hB1.out.drew
        obtain ⟨B, hB⟩ : ∃ B, Op.bytesLess name'.toList name.toList = B := ⟨_, rfl⟩
        have HL := hid hB
        cases B
        · have hst := hid (rows_order (key := NodeD.name) Hf.out HE.out hk0 Hy.out HL.out)
          go_wp2
          go_region
          go_wp2
          go_ret
          exact ⟨ret_int (by rw [← Hrow.out]; exact hst.out.symm), hB2.out⟩
        · have hst := hid (rows_next (key := NodeD.name) Hf.out HE.out (.inr ⟨_, Hy.out, HL.out⟩))
          go_wp2
          go_region
          go_wp2
          go_roundw
          case rel => exact ⟨k + 1, by omega, by go_num, by rw [← hst.out]; exact Hrow.out, hB2.out⟩
          case measure => simp [intOf]; omega
    · have hst := hid (rows_err (E := nodeE) (key := NodeD.name) Hf.out (by rw [HE.out]; exact he))
      have e1 : (E == 0) = false := beq_eq_false_iff_ne.2 he
      have e2 : (E != 0) = true := bne_iff_ne.2 he
      clear c0 c1 c2 hb1 hx hA0 hA1
      go_wp2
      go_ret
      exact ⟨ret_int (by rw [← Hrow.out, hst.out]; exact HE.out.symm), hB1.out⟩
  · obtain rfl : k = n := by omega
    have fin := hid (show R = 0 by rw [← Hrow.out]; exact rows_end (by rw [Hl.out]; exact Nat.le_refl _) _)
    clear hb hx
    go_wp2
    go_ret
    exact ⟨ret_int fin.out.symm, Hb.out⟩
end Go.Proofs.YtjgnnobccecpeaaGreatDoor
/- The walks of JobAt and NodeAt. -/
namespace Go.Proofs.YtjgnnobccecpeaaGreatDoor
open Go.Lib (hid)
open Go.RowKit
section
variable {α : Type} {p : α → Bool} {l : List α} {k : Nat} {x : α}
theorem take_snoc (h : l[k]? = some x) : l.take (k + 1) = l.take k ++ [x] := by
 obtain ⟨hlt, rfl⟩ := List.getElem?_eq_some_iff.1 h
 exact (List.take_append_getElem hlt).symm
theorem find_hit (h0 : (l.take k).find? p = none) (h : l[k]? = some x) (hp : p x = true) : l.find? p = some x := by
 have e : l = l.take k ++ x :: l.drop (k + 1) := by rw [← drop_cons h, List.take_append_drop]
 rw [e, List.find?_append, h0, List.find?_cons, hp]; rfl
theorem find_miss (h0 : (l.take k).find? p = none) (h : l[k]? = some x) (hp : p x = false) : (l.take (k + 1)).find? p = none := by
 rw [take_snoc h, List.find?_append, h0, List.find?_cons, hp]; rfl
theorem find_out (h0 : (l.take k).find? p = none) (h : l.length ≤ k) : l.find? p = none := by rwa [List.take_of_length_le h] at h0
end
theorem beq_same (s : ByteArray) : (s.toList == s.toList) = true := beq_iff_eq.2 rfl
theorem beq_diff {s t : ByteArray} (h : s ≠ t) : (s.toList == t.toList) = false := by
 rw [beq_eq_false_iff_ne, ByteArray.toList_eq, ByteArray.toList_eq]
 exact fun e => h (ByteArray.ext (Array.toList_inj.1 e))
theorem beq_dec (a b : ByteArray) : (a.toList == b.toList) = decide (a = b) := by
 by_cases h : a = b
 · subst h; rw [beq_same, decide_eq_true rfl]
 · rw [beq_diff h, decide_eq_false h]
theorem find_any {α : Type} (key : α → ByteArray) (s : ByteArray) : ∀ l : List α, (l.find? fun y => decide (key y = s)).isSome = l.any fun y => decide (key y = s)
 | [] => rfl
 | a :: l => by
  have ih := find_any key s l
  rw [List.find?_cons, List.any_cons]
  by_cases h : key a = s
  · rw [decide_eq_true h]; rfl
  · rw [decide_eq_false h, Bool.false_or]; exact ih
def JobAtPost (xs : List JobD) (s : ByteArray) (w : World) (e : Ending) (w' : World) : Prop :=
 ∃ i : Int, e = .returned (.int .i64 i) ∧ Below w.heap.size w w' ∧ ((i = -1 ∧ jobOf xs s = none) ∨ ∃ (k : Nat) (x : JobD), i = (k : Int) ∧ xs[k]? = some x ∧ jobOf xs s = some x)
def JobAtInv (xs : List JobD) (s : ByteArray) (n : Nat) (w : World) (i : Value) (wr : World) : Prop := ∃ k : Nat, k ≤ n ∧ i = .int .i64 k ∧ (xs.take k).find? (fun x => decide (x.name = s)) = none ∧ Below w.heap.size w wr
theorem jobAt_any (xs : List JobD) (s : ByteArray) (A : Option Addr) (n c : Nat) (w : World) (hx : SlAt w w.heap.size 5 A n (rowsV jobV xs)) (hl : xs.length = n) (hn : n ≤ 9223372036854775807) :
 Calls Tryz.prog 32 #[.slice A n c, .string s] w (JobAtPost xs s w) := by
 have Hl := hid hl
 clear hl
 go_enter Tryz.func32, Tryz.ntmps32
 go_wp2
 go_loopw [4, 5, 6, 9] (fun _ _ _ i wr => JobAtInv xs s n w i wr) (fun _ _ _ i _ => n - (intOf i).toNat)
 case atStart => exact ⟨0, Nat.zero_le _, rfl, by simp, Below.refl _ _⟩
 case round =>
  obtain ⟨k, hk, rfl, hnone, hb⟩ := hrel
  have Hnone := hid hnone
  have Hb := hid hb
  have hsz := hb.size
  clear hnone
  by_cases hlt : k < n
  · obtain ⟨x, hf⟩ : ∃ x, xs[k]? = some x := ⟨_, List.getElem?_eq_getElem (by rw [Hl.out]; exact hlt)⟩
    obtain ⟨b, off, rfl, hbB, hc⟩ := (hx.below hb).rec_ jobV_len Hl.out hf
    have Hf := hid hf
    obtain ⟨name, prio, need, tries, tag⟩ := x
    obtain ⟨c0, c1, c2, c3, c4⟩ := rc5 hc
    clear hc hf hx hb
    have hlb : b < wr.heap.size := by omega
    have hBa := hid (Hb.out.alloc Hb.out.size (.cells #[.string name, .int .i64 prio, .int .i64 need, .int .i64 tries, .string tag] 38))
    by_cases hs : name = s
    · subst hs
      have e1 := beq_same name
      have fin := hid (find_hit Hnone.out Hf.out (by simp))
      go_wp2
      go_ret
      exact ⟨_, rfl, hBa.out, .inr ⟨k, _, rfl, Hf.out, fin.out⟩⟩
    · have e1 := beq_diff hs
      have fin := hid (find_miss Hnone.out Hf.out (by simp [hs]))
      go_wp2
      go_roundw
      case rel => exact ⟨k + 1, by omega, by go_num, fin.out, hBa.out⟩
      case measure => simp [intOf]; omega
  · have fin := hid (find_out Hnone.out (by rw [Hl.out]; omega))
    clear hx
    go_wp2
    go_ret
    exact ⟨_, rfl, Hb.out, .inl ⟨rfl, fin.out⟩⟩
def NodeAtPost (xs : List NodeD) (s : ByteArray) (w : World) (e : Ending) (w' : World) : Prop :=
 ∃ i : Int, e = .returned (.int .i64 i) ∧ Below w.heap.size w w' ∧ ((i = -1 ∧ nodeOf xs s = none) ∨ ∃ (k : Nat) (x : NodeD), i = (k : Int) ∧ xs[k]? = some x ∧ nodeOf xs s = some x)
def NodeAtInv (xs : List NodeD) (s : ByteArray) (n : Nat) (w : World) (i : Value) (wr : World) : Prop := ∃ k : Nat, k ≤ n ∧ i = .int .i64 k ∧ (xs.take k).find? (fun x => decide (x.name = s)) = none ∧ Below w.heap.size w wr
theorem nodeAt_any (xs : List NodeD) (s : ByteArray) (A : Option Addr) (n c : Nat) (w : World) (hx : SlAt w w.heap.size 3 A n (rowsV nodeV xs)) (hl : xs.length = n) (hn : n ≤ 9223372036854775807) :
 Calls Tryz.prog 33 #[.slice A n c, .string s] w (NodeAtPost xs s w) := by
 have Hl := hid hl
 clear hl
 go_enter Tryz.func33, Tryz.ntmps33
 go_wp2
 go_loopw [4, 5, 6, 9] (fun _ _ _ i wr => NodeAtInv xs s n w i wr) (fun _ _ _ i _ => n - (intOf i).toNat)
 case atStart => exact ⟨0, Nat.zero_le _, rfl, by simp, Below.refl _ _⟩
 case round =>
  obtain ⟨k, hk, rfl, hnone, hb⟩ := hrel
  have Hnone := hid hnone
  have Hb := hid hb
  have hsz := hb.size
  clear hnone
  by_cases hlt : k < n
  · obtain ⟨x, hf⟩ : ∃ x, xs[k]? = some x := ⟨_, List.getElem?_eq_getElem (by rw [Hl.out]; exact hlt)⟩
    obtain ⟨b, off, rfl, hbB, hc⟩ := (hx.below hb).rec_ nodeV_len Hl.out hf
    have Hf := hid hf
    obtain ⟨name, room, zone⟩ := x
    obtain ⟨c0, c1, c2⟩ := rc3 hc
    clear hc hf hx hb
    have hlb : b < wr.heap.size := by omega
    have hBa := hid (Hb.out.alloc Hb.out.size (.cells #[.string name, .int .i64 room, .string zone] 40))
    by_cases hs : name = s
    · subst hs
      have e1 := beq_same name
      have fin := hid (find_hit Hnone.out Hf.out (by simp))
      go_wp2
      go_ret
      exact ⟨_, rfl, hBa.out, .inr ⟨k, _, rfl, Hf.out, fin.out⟩⟩
    · have e1 := beq_diff hs
      have fin := hid (find_miss Hnone.out Hf.out (by simp [hs]))
      go_wp2
      go_roundw
      case rel => exact ⟨k + 1, by omega, by go_num, fin.out, hBa.out⟩
      case measure => simp [intOf]; omega
  · have fin := hid (find_out Hnone.out (by rw [Hl.out]; omega))
    clear hx
    go_wp2
    go_ret
    exact ⟨_, rfl, Hb.out, .inl ⟨rfl, fin.out⟩⟩
end Go.Proofs.YtjgnnobccecpeaaGreatDoor
/- The walks of slices.Clone and of Copy at rows of records: a row of the call's own that reads the same. -/
namespace Go.Proofs.YtjgnnobccecpeaaGreatDoor
open Go.Lib (hid)
open Go.RowKit
def ClPost {α : Type} (T : TypeId) (sz : Nat) (enc : α → List Value) (xs : List α) (w : World) (e : Ending) (w' : World) : Prop :=
 ∃ A' c', e = .returned (.slice A' xs.length c') ∧ w'.ownsRow w.heap.size T sz (.slice A' xs.length c') xs.length (rowsV enc xs) ∧ Below w.heap.size w w'
theorem ClPost.of_own {α : Type} {T : TypeId} {sz n : Nat} {enc : α → List Value} {xs : List α} {w w' : World} {v : Value} (hl : xs.length = n) (ho : w'.ownsRow w.heap.size T sz v n (rowsV enc xs)) (hb : Below w.heap.size w w') : ClPost T sz enc xs w (.returned v) w' := by
 subst hl
 rcases ho.2 with ⟨rfl, h0⟩ | ⟨g, cap, cur, rfl, _⟩
 · rw [h0] at ho
   exact ⟨none, 0, by rw [h0], by rw [h0]; exact ho, hb⟩
 · exact ⟨some ⟨g, 0, none⟩, cap, rfl, ho, hb⟩
theorem SlAt.adds {w : World} {B sz n : Nat} {ad : Addr} {xs : List Value} (h : SlAt w B sz (some ad) n xs) : ∀ j u, xs[j]? = some u → w.cell? (ad.add j) = some u := by
 intro j u hu
 have hn : 0 < n := by
  rcases Nat.eq_zero_or_pos n with h0 | h0
  · subst h0
    have : xs = [] := List.eq_nil_of_length_eq_zero (by rw [h.len]; omega)
    subst this; cases hu
  · exact h0
 obtain ⟨b, off, e, hB, hr⟩ := h.at_ hn
 injection e with e
 subst e
 have := hr j u hu
 unfold Addr.add
 split
 · rename_i hj; subst hj; simpa using this
 · exact this
theorem alloc_cell {w : World} {a : Addr} {v : Value} (o : Obj) (h : w.cell? a = some v) : (w.alloc o).cell? a = some v := by
 have hlt : a.block < w.heap.size := by
  rcases Nat.lt_or_ge a.block w.heap.size with h' | h'
  · exact h'
  · simp [World.cell?, Array.getElem?_eq_none h'] at h
 rw [← h]
 have := ((Below.refl w.heap.size w).alloc (Nat.le_refl _) o).block a.block hlt
 unfold World.cell?
 rw [this]
theorem clone_job (xs : List JobD) (A : Option Addr) (n c : Nat) (w : World) (hx : SlAt w w.heap.size 5 A n (rowsV jobV xs)) (hl : xs.length = n) (hn : n ≤ 1000) :
 Calls Tryz.prog 96 #[.slice A n c] w (ClPost 38 5 jobV xs w) := by
 have qe : ∀ (w : World) (a : Option Addr) (n c n' c' : Nat), (binOp .eql 22 (.slice a n c) (.slice none n' c')).run Tryz.prog w = .ok (.bool a.isNone) w := fun w a n c n' c' => Lib.run_eql_slice_nil w _ _ a n c n' c' Tryz.underlying22
 obtain ⟨i0, hi, hz0, hz1, hz2⟩ := info_parts infoJobT
 cases A with
 | none =>
  have h0 : n = 0 := by
   rcases Nat.eq_zero_or_pos n with h | h
   · exact h
   · obtain ⟨_, _, e, _⟩ := hx.at_ h; cases e
  subst h0
  have hxs : xs = [] := List.eq_nil_of_length_eq_zero hl
  subst hxs
  clear hx hl
  go_enter Tryz.func96, Tryz.ntmps96
  go_wp2
  go_ret
  exact ⟨none, 0, rfl, World.ownsRow_nil _ _ _ _, Below.refl _ _⟩
 | some ad =>
  have hadd := hx.adds
  have hlen : (rowsV jobV xs).length = n * 5 := hx.len
  have H := hid hadd
  clear hx hadd
  go_enter Tryz.func96, Tryz.ntmps96
  go_wp2_with (at_builtin; refine wpList_append_own_at _ rfl _ _ 22 rfl w.heap.size 38 i0 (.agg #[.string ⟨#[]⟩, .int .i64 0, .int .i64 0, .int .i64 0, .string ⟨#[]⟩]) 5 56 Tryz.underlying22 hi hz0 hz1 hz2 rfl (by decide) (.slice (some ⟨w.heap.size, 0, none⟩) 0 0) 0 [] rfl (World.ownsRow_made w #[] 0 (Nat.le_refl _) (Nat.zero_le _) rfl) ad n c (rowsV jobV xs) rfl hlen (fun j u hu => by have hadd := H.out; exact alloc_cell _ (hadd j u hu)) (fun u hu => by obtain ⟨a, _, ha⟩ := List.mem_flatMap.1 hu; exact jobV_oneT a u ha) (by unfold maxLen; omega) (by omega) (by simp) ?_; intro v' w1 hown hgrow hnil hblk)
  rw [Nat.zero_add, List.nil_append] at hown
  have hfin := hid (ClPost.of_own hl hown (((Below.refl _ w).alloc (Nat.le_refl _) _).grown hgrow (by simp) (by intro k hk; simp [Value.ownBlock] at hk; omega)))
  clear hown hgrow hnil hblk
  go_wp2
  go_ret
  exact hfin.out
theorem clone_node (xs : List NodeD) (A : Option Addr) (n c : Nat) (w : World) (hx : SlAt w w.heap.size 3 A n (rowsV nodeV xs)) (hl : xs.length = n) (hn : n ≤ 1000) :
 Calls Tryz.prog 97 #[.slice A n c] w (ClPost 40 3 nodeV xs w) := by
 have qe : ∀ (w : World) (a : Option Addr) (n c n' c' : Nat), (binOp .eql 23 (.slice a n c) (.slice none n' c')).run Tryz.prog w = .ok (.bool a.isNone) w := fun w a n c n' c' => Lib.run_eql_slice_nil w _ _ a n c n' c' Tryz.underlying23
 obtain ⟨i0, hi, hz0, hz1, hz2⟩ := info_parts infoNodeT
 cases A with
 | none =>
  have h0 : n = 0 := by
   rcases Nat.eq_zero_or_pos n with h | h
   · exact h
   · obtain ⟨_, _, e, _⟩ := hx.at_ h; cases e
  subst h0
  have hxs : xs = [] := List.eq_nil_of_length_eq_zero hl
  subst hxs
  clear hx hl
  go_enter Tryz.func97, Tryz.ntmps97
  go_wp2
  go_ret
  exact ⟨none, 0, rfl, World.ownsRow_nil _ _ _ _, Below.refl _ _⟩
 | some ad =>
  have hadd := hx.adds
  have hlen : (rowsV nodeV xs).length = n * 3 := hx.len
  have H := hid hadd
  clear hx hadd
  go_enter Tryz.func97, Tryz.ntmps97
  go_wp2_with (at_builtin; refine wpList_append_own_at _ rfl _ _ 23 rfl w.heap.size 40 i0 (.agg #[.string ⟨#[]⟩, .int .i64 0, .string ⟨#[]⟩]) 3 40 Tryz.underlying23 hi hz0 hz1 hz2 rfl (by decide) (.slice (some ⟨w.heap.size, 0, none⟩) 0 0) 0 [] rfl (World.ownsRow_made w #[] 0 (Nat.le_refl _) (Nat.zero_le _) rfl) ad n c (rowsV nodeV xs) rfl hlen (fun j u hu => by have hadd := H.out; exact alloc_cell _ (hadd j u hu)) (fun u hu => by obtain ⟨a, _, ha⟩ := List.mem_flatMap.1 hu; exact nodeV_oneT a u ha) (by unfold maxLen; omega) (by omega) (by simp) ?_; intro v' w1 hown hgrow hnil hblk)
  rw [Nat.zero_add, List.nil_append] at hown
  have hfin := hid (ClPost.of_own hl hown (((Below.refl _ w).alloc (Nat.le_refl _) _).grown hgrow (by simp) (by intro k hk; simp [Value.ownBlock] at hk; omega)))
  clear hown hgrow hnil hblk
  go_wp2
  go_ret
  exact hfin.out
theorem clone_lease (xs : List LeaseD) (A : Option Addr) (n c : Nat) (w : World) (hx : SlAt w w.heap.size 3 A n (rowsV leaseV xs)) (hl : xs.length = n) (hn : n ≤ 1000) :
 Calls Tryz.prog 98 #[.slice A n c] w (ClPost 42 3 leaseV xs w) := by
 have qe : ∀ (w : World) (a : Option Addr) (n c n' c' : Nat), (binOp .eql 24 (.slice a n c) (.slice none n' c')).run Tryz.prog w = .ok (.bool a.isNone) w := fun w a n c n' c' => Lib.run_eql_slice_nil w _ _ a n c n' c' Tryz.underlying24
 obtain ⟨i0, hi, hz0, hz1, hz2⟩ := info_parts infoLeaseT
 cases A with
 | none =>
  have h0 : n = 0 := by
   rcases Nat.eq_zero_or_pos n with h | h
   · exact h
   · obtain ⟨_, _, e, _⟩ := hx.at_ h; cases e
  subst h0
  have hxs : xs = [] := List.eq_nil_of_length_eq_zero hl
  subst hxs
  clear hx hl
  go_enter Tryz.func98, Tryz.ntmps98
  go_wp2
  go_ret
  exact ⟨none, 0, rfl, World.ownsRow_nil _ _ _ _, Below.refl _ _⟩
 | some ad =>
  have hadd := hx.adds
  have hlen : (rowsV leaseV xs).length = n * 3 := hx.len
  have H := hid hadd
  clear hx hadd
  go_enter Tryz.func98, Tryz.ntmps98
  go_wp2_with (at_builtin; refine wpList_append_own_at _ rfl _ _ 24 rfl w.heap.size 42 i0 (.agg #[.string ⟨#[]⟩, .string ⟨#[]⟩, .int .i64 0]) 3 40 Tryz.underlying24 hi hz0 hz1 hz2 rfl (by decide) (.slice (some ⟨w.heap.size, 0, none⟩) 0 0) 0 [] rfl (World.ownsRow_made w #[] 0 (Nat.le_refl _) (Nat.zero_le _) rfl) ad n c (rowsV leaseV xs) rfl hlen (fun j u hu => by have hadd := H.out; exact alloc_cell _ (hadd j u hu)) (fun u hu => by obtain ⟨a, _, ha⟩ := List.mem_flatMap.1 hu; exact leaseV_oneT a u ha) (by unfold maxLen; omega) (by omega) (by simp) ?_; intro v' w1 hown hgrow hnil hblk)
  rw [Nat.zero_add, List.nil_append] at hown
  have hfin := hid (ClPost.of_own hl hown (((Below.refl _ w).alloc (Nat.le_refl _) _).grown hgrow (by simp) (by intro k hk; simp [Value.ownBlock] at hk; omega)))
  clear hown hgrow hnil hblk
  go_wp2
  go_ret
  exact hfin.out
end Go.Proofs.YtjgnnobccecpeaaGreatDoor
