/- Of the proof of a statement: RowsR. -/
import Derived.Deep.QuietTactic
import Derived.BigQuiet
import Derived.Test.YtcodhhabfacnjaaGreatDoorSRQuote
set_option linter.unusedVariables false
set_option linter.unusedSimpArgs false
/- The walks of jobsCheck and nodesCheck in the reference. -/
namespace Go.Proofs.YtcodhhabfacnjaaGreatDoor
open Go.RowKit
set_option maxRecDepth 100000 in
set_option maxHeartbeats 1000000 in
theorem jobsCheck_any (xs : List JobD) (A : Option Addr) (n c : Nat) (w : World) (hx : SlAt w w.heap.size 5 A n (rowsV jobV xs)) (hl : xs.length = n) (hn : n ≤ 9223372036854775807) (hok : JobsOk xs) :
    Calls Tryz.prog 61 #[.slice A n c] w fun e w' => e = .returned (.int .i64 (rowsE jobE JobD.name xs)) ∧ Below w.heap.size w w' := by
  obtain ⟨R, hR⟩ : ∃ R, rowsE jobE JobD.name xs = R := ⟨_, rfl⟩
  rw [hR]
  have HR := Lib.hid hR
  have Hl := Lib.hid hl
  have Hok := Lib.hid hok
  clear hl hR hok
  go_enter Tryz.func61, Tryz.ntmps61
  go_wp2
  go_loopw [2, 3, 4, 5, 8, 14] (fun _ _ _ _ i _ wr => JobInv xs n R w i wr) (fun _ _ _ _ i _ _ => n - (intOf i).toNat)
  case atStart => exact ⟨0, Nat.zero_le _, rfl, by rw [← HR.out]; rfl, Below.refl _ _⟩
  case round =>
    obtain ⟨k, hk, rfl, hrow, hb⟩ := hrel
    have Hrow := Lib.hid hrow
    have Hb := Lib.hid hb
    have hsz := hb.size
    clear hrow
    by_cases hlt : k < n
    · obtain ⟨x, hf⟩ : ∃ x, xs[k]? = some x := ⟨_, List.getElem?_eq_getElem (by rw [Hl.out]; exact hlt)⟩
      obtain ⟨b, off, rfl, hbB, hc⟩ := (hx.below hb).rec_ jobV_len Hl.out hf
      have hso := Lib.hid (Hok.out x (List.mem_of_getElem? hf))
      have Hf := Lib.hid hf
      obtain ⟨E, hE⟩ : ∃ E, jobE x = E := ⟨_, rfl⟩
      have HE := Lib.hid hE
      obtain ⟨name, prio, need, tries, tag⟩ := x
      have c0 : wr.cell? ⟨b, off + k * 5, none⟩ = some (.string name) := hc 0 _ rfl
      have c1 : wr.cell? ⟨b, off + k * 5 + 1, none⟩ = some (.int .i64 prio) := hc 1 _ rfl
      have c2 : wr.cell? ⟨b, off + k * 5 + 2, none⟩ = some (.int .i64 need) := hc 2 _ rfl
      have c3 : wr.cell? ⟨b, off + k * 5 + 3, none⟩ = some (.int .i64 tries) := hc 3 _ rfl
      have c4 : wr.cell? ⟨b, off + k * 5 + 4, none⟩ = some (.string tag) := hc 4 _ rfl
      clear hc hf hE
      have hlb : b < wr.heap.size := by omega
      have hBa := Lib.hid (Hb.out.alloc Hb.out.size (.cells #[.string name, .int .i64 prio, .int .i64 need, .int .i64 tries, .string tag] 39))
      go_wp2_with fail
      refine Calls.mono (jobCheck_any ⟨name, prio, need, tries, tag⟩ _ hso.out.1 hso.out.2) ?_
      rintro e w1 ⟨rfl, hb1⟩
      rw [HE.out]
      have hA0 := (Below.refl wr.heap.size wr).alloc (Nat.le_refl _) (.cells #[.string name, .int .i64 prio, .int .i64 need, .int .i64 tries, .string tag] 39)
      have hA1 := hA0.trans (hb1.mono hA0.size)
      have hB1 := Lib.hid (hBa.out.trans (hb1.mono hBa.out.size))
      by_cases he : E = 0
      · subst he
        have l0 : w1.cell? ⟨wr.heap.size, 0, none⟩ = some (.string name) := by rw [(bcell hb1).1 _ _ (by simp)]; simp [go_sem]
        by_cases hk0 : k = 0
        · subst hk0
          have hst := Lib.hid (rows_next (key := JobD.name) Hf.out HE.out (.inl rfl))
          clear c0 c1 c2 c3 c4 hb1 hx hA0 hA1
          have hB2 := Lib.hid hB1.out.drew
          go_wp2
          go_region
          go_wp2
          go_roundw
          case rel => exact ⟨1, by omega, by go_num, by rw [← hst.out]; exact Hrow.out, hB2.out⟩
          case measure => simp [intOf]; omega
        · obtain ⟨y, hy⟩ : ∃ y, xs[k - 1]? = some y := ⟨_, List.getElem?_eq_getElem (by rw [Hl.out]; omega)⟩
          obtain ⟨b', off', hbo, hbB', hp⟩ := (hx.below hb).rec_ jobV_len Hl.out hy
          obtain ⟨rfl, rfl⟩ : b = b' ∧ off = off' := by simpa using hbo
          have Hy := Lib.hid hy
          obtain ⟨name', prio', need', tries', tag'⟩ := y
          have q0 : wr.cell? ⟨b, off + (k - 1) * 5, none⟩ = some (.string name') := hp 0 _ rfl
          have p0 : w1.cell? ⟨b, off + (k - 1) * 5, none⟩ = some (.string name') := ((bcell hA1).1 _ _ hlb).trans q0
          clear q0 c0 c1 c2 c3 c4 hp hy hb1 hx hA0 hA1
          have hkp : decide ((0 : Int) < (k : Int)) = true := decide_eq_true (by omega)
          have hkn : 0 < k := by omega
          have hB2 := Lib.hid hB1.out.drew
          obtain ⟨B, hB⟩ : ∃ B, Op.bytesLess name'.toList name.toList = B := ⟨_, rfl⟩
          have HL := Lib.hid hB
          cases B
          · have hst := Lib.hid (rows_order (key := JobD.name) Hf.out HE.out hk0 Hy.out HL.out)
            go_wp2
            go_region
            go_wp2
            go_ret
            exact ⟨ret_int (by rw [← Hrow.out]; exact hst.out.symm), hB2.out⟩
          · have hst := Lib.hid (rows_next (key := JobD.name) Hf.out HE.out (.inr ⟨_, Hy.out, HL.out⟩))
            go_wp2
            go_region
            go_wp2
            go_roundw
            case rel => exact ⟨k + 1, by omega, by go_num, by rw [← hst.out]; exact Hrow.out, hB2.out⟩
            case measure => simp [intOf]; omega
      · have hst := Lib.hid (rows_err (E := jobE) (key := JobD.name) Hf.out (by rw [HE.out]; exact he))
        have e1 : (E == 0) = false := beq_eq_false_iff_ne.2 he
        have e2 : (E != 0) = true := bne_iff_ne.2 he
        clear c0 c1 c2 c3 c4 hb1 hx hA0 hA1
        go_wp2
        go_ret
        exact ⟨ret_int (by rw [← Hrow.out, hst.out]; exact HE.out.symm), hB1.out⟩
    · obtain rfl : k = n := by omega
      have fin := Lib.hid (show R = 0 by rw [← Hrow.out]; exact rows_end (by rw [Hl.out]; exact Nat.le_refl _) _)
      clear hb hx
      go_wp2
      go_ret
      exact ⟨ret_int fin.out.symm, Hb.out⟩
set_option maxRecDepth 100000 in
set_option maxHeartbeats 1000000 in
theorem nodesCheck_any (xs : List NodeD) (A : Option Addr) (n c : Nat) (w : World) (hx : SlAt w w.heap.size 3 A n (rowsV nodeV xs)) (hl : xs.length = n) (hn : n ≤ 9223372036854775807) (hok : NodesOk xs) :
    Calls Tryz.prog 62 #[.slice A n c] w fun e w' => e = .returned (.int .i64 (rowsE nodeE NodeD.name xs)) ∧ Below w.heap.size w w' := by
  obtain ⟨R, hR⟩ : ∃ R, rowsE nodeE NodeD.name xs = R := ⟨_, rfl⟩
  rw [hR]
  have HR := Lib.hid hR
  have Hl := Lib.hid hl
  have Hok := Lib.hid hok
  clear hl hR hok
  go_enter Tryz.func62, Tryz.ntmps62
  go_wp2
  go_loopw [2, 3, 4, 5, 8, 14] (fun _ _ _ _ i _ wr => NodeInv xs n R w i wr) (fun _ _ _ _ i _ _ => n - (intOf i).toNat)
  case atStart => exact ⟨0, Nat.zero_le _, rfl, by rw [← HR.out]; rfl, Below.refl _ _⟩
  case round =>
    obtain ⟨k, hk, rfl, hrow, hb⟩ := hrel
    have Hrow := Lib.hid hrow
    have Hb := Lib.hid hb
    have hsz := hb.size
    clear hrow
    by_cases hlt : k < n
    · obtain ⟨x, hf⟩ : ∃ x, xs[k]? = some x := ⟨_, List.getElem?_eq_getElem (by rw [Hl.out]; exact hlt)⟩
      obtain ⟨b, off, rfl, hbB, hc⟩ := (hx.below hb).rec_ nodeV_len Hl.out hf
      have hso := Lib.hid (Hok.out x (List.mem_of_getElem? hf))
      have Hf := Lib.hid hf
      obtain ⟨E, hE⟩ : ∃ E, nodeE x = E := ⟨_, rfl⟩
      have HE := Lib.hid hE
      obtain ⟨name, room, zone⟩ := x
      have c0 : wr.cell? ⟨b, off + k * 3, none⟩ = some (.string name) := hc 0 _ rfl
      have c1 : wr.cell? ⟨b, off + k * 3 + 1, none⟩ = some (.int .i64 room) := hc 1 _ rfl
      have c2 : wr.cell? ⟨b, off + k * 3 + 2, none⟩ = some (.string zone) := hc 2 _ rfl
      clear hc hf hE
      have hlb : b < wr.heap.size := by omega
      have hBa := Lib.hid (Hb.out.alloc Hb.out.size (.cells #[.string name, .int .i64 room, .string zone] 43))
      go_wp2_with fail
      refine Calls.mono (nodeCheck_any ⟨name, room, zone⟩ _ hso.out.1 hso.out.2) ?_
      rintro e w1 ⟨rfl, hb1⟩
      rw [HE.out]
      have hA0 := (Below.refl wr.heap.size wr).alloc (Nat.le_refl _) (.cells #[.string name, .int .i64 room, .string zone] 43)
      have hA1 := hA0.trans (hb1.mono hA0.size)
      have hB1 := Lib.hid (hBa.out.trans (hb1.mono hBa.out.size))
      by_cases he : E = 0
      · subst he
        have l0 : w1.cell? ⟨wr.heap.size, 0, none⟩ = some (.string name) := by rw [(bcell hb1).1 _ _ (by simp)]; simp [go_sem]
        by_cases hk0 : k = 0
        · subst hk0
          have hst := Lib.hid (rows_next (key := NodeD.name) Hf.out HE.out (.inl rfl))
          clear c0 c1 c2 hb1 hx hA0 hA1
          have hB2 := Lib.hid hB1.out.drew
          go_wp2
          go_region
          go_wp2
          go_roundw
          case rel => exact ⟨1, by omega, by go_num, by rw [← hst.out]; exact Hrow.out, hB2.out⟩
          case measure => simp [intOf]; omega
        · obtain ⟨y, hy⟩ : ∃ y, xs[k - 1]? = some y := ⟨_, List.getElem?_eq_getElem (by rw [Hl.out]; omega)⟩
          obtain ⟨b', off', hbo, hbB', hp⟩ := (hx.below hb).rec_ nodeV_len Hl.out hy
          obtain ⟨rfl, rfl⟩ : b = b' ∧ off = off' := by simpa using hbo
          have Hy := Lib.hid hy
          obtain ⟨name', room', zone'⟩ := y
          have q0 : wr.cell? ⟨b, off + (k - 1) * 3, none⟩ = some (.string name') := hp 0 _ rfl
          have p0 : w1.cell? ⟨b, off + (k - 1) * 3, none⟩ = some (.string name') := ((bcell hA1).1 _ _ hlb).trans q0
          clear q0 c0 c1 c2 hp hy hb1 hx hA0 hA1
          have hkp : decide ((0 : Int) < (k : Int)) = true := decide_eq_true (by omega)
          have hkn : 0 < k := by omega
          have hB2 := Lib.hid hB1.out.drew
          obtain ⟨B, hB⟩ : ∃ B, Op.bytesLess name'.toList name.toList = B := ⟨_, rfl⟩
          have HL := Lib.hid hB
          cases B
          · have hst := Lib.hid (rows_order (key := NodeD.name) Hf.out HE.out hk0 Hy.out HL.out)
            go_wp2
            go_region
            go_wp2
            go_ret
            exact ⟨ret_int (by rw [← Hrow.out]; exact hst.out.symm), hB2.out⟩
          · have hst := Lib.hid (rows_next (key := NodeD.name) Hf.out HE.out (.inr ⟨_, Hy.out, HL.out⟩))
            go_wp2
            go_region
            go_wp2
            go_roundw
            case rel => exact ⟨k + 1, by omega, by go_num, by rw [← hst.out]; exact Hrow.out, hB2.out⟩
            case measure => simp [intOf]; omega
      · have hst := Lib.hid (rows_err (E := nodeE) (key := NodeD.name) Hf.out (by rw [HE.out]; exact he))
        have e1 : (E == 0) = false := beq_eq_false_iff_ne.2 he
        have e2 : (E != 0) = true := bne_iff_ne.2 he
        clear c0 c1 c2 hb1 hx hA0 hA1
        go_wp2
        go_ret
        exact ⟨ret_int (by rw [← Hrow.out, hst.out]; exact HE.out.symm), hB1.out⟩
    · obtain rfl : k = n := by omega
      have fin := Lib.hid (show R = 0 by rw [← Hrow.out]; exact rows_end (by rw [Hl.out]; exact Nat.le_refl _) _)
      clear hb hx
      go_wp2
      go_ret
      exact ⟨ret_int fin.out.symm, Hb.out⟩
end Go.Proofs.YtcodhhabfacnjaaGreatDoor
