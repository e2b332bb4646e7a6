/- Of the proof of a statement: RowsP. -/
import Derived.Lib.QuietBelow
import Derived.Deep.QuietTactic
import Derived.BigQuiet
import Derived.Test.YtcodhhabfacnjaaGreatDoorSChk
import Derived.Test.YtcodhhabfacnjaaGreatDoorSRecs
set_option linter.unusedVariables false
set_option linter.unusedSimpArgs false
/- The walks of Rows at jobs and at nodes, in the program. -/
namespace Go.Proofs.YtcodhhabfacnjaaGreatDoor
open Go.RowKit
theorem jobKey_any (name : ByteArray) (prio : Int) (need : Int) (tries : Int) (tag : ByteArray) (w : World) : Calls Tryz.prog 50 #[.agg #[.string name, .int .i64 prio, .int .i64 need, .int .i64 tries, .string tag]] w fun e w' => e = .returned (.string name) ∧ Below w.heap.size w w' := by
  have HB := Lib.hid ((Below.refl w.heap.size w).alloc (Nat.le_refl _) (.cells #[.string name, .int .i64 prio, .int .i64 need, .int .i64 tries, .string tag] 39))
  go_enter Tryz.func50, Tryz.ntmps50
  go_wp2
  go_ret
  exact ⟨rfl, HB.out⟩
theorem nodeKey_any (name : ByteArray) (room : Int) (zone : ByteArray) (w : World) : Calls Tryz.prog 53 #[.agg #[.string name, .int .i64 room, .string zone]] w fun e w' => e = .returned (.string name) ∧ Below w.heap.size w w' := by
  have HB := Lib.hid ((Below.refl w.heap.size w).alloc (Nat.le_refl _) (.cells #[.string name, .int .i64 room, .string zone] 43))
  go_enter Tryz.func53, Tryz.ntmps53
  go_wp2
  go_ret
  exact ⟨rfl, HB.out⟩
set_option maxRecDepth 100000 in
set_option maxHeartbeats 1000000 in
theorem rowsJob_any (xs : List JobD) (A : Option Addr) (n c : Nat) (w : World) (hx : SlAt w w.heap.size 5 A n (rowsV jobV xs)) (hl : xs.length = n) (hn : n ≤ 9223372036854775807) (hok : JobsOk xs) (hT : Tabs w) :
    Calls Tryz.prog 49 #[.slice A n c, .func (.func 50) #[] #[], .func (.func 51) #[] #[]] w fun e w' => e = .returned (.int .i64 (rowsE jobE JobD.name xs)) ∧ Below w.heap.size w w' := by
  obtain ⟨R, hR⟩ : ∃ R, rowsE jobE JobD.name xs = R := ⟨_, rfl⟩
  rw [hR]
  have HR := Lib.hid hR
  have Hl := Lib.hid hl
  have HT := Lib.hid hT
  have Hok := Lib.hid hok
  clear hl hR hT hok
  go_enter Tryz.func49, Tryz.ntmps49
  go_wp2
  go_loopw [6, 7, 8, 9, 12, 19, 28, 35] (fun _ _ _ _ i _ _ _ wr => JobInv xs n R w i wr) (fun _ _ _ _ i _ _ _ _ => n - (intOf i).toNat)
  case atStart => exact ⟨0, Nat.zero_le _, rfl, by rw [← HR.out]; rfl, Below.refl _ _⟩
  case round =>
    obtain ⟨k, hk, rfl, hrow, hb⟩ := hrel
    have Hrow := Lib.hid hrow
    have Hb := Lib.hid hb
    have hsz := hb.size
    clear hrow
    by_cases hlt : k < n
    · obtain ⟨x, hf⟩ : ∃ x, xs[k]? = some x := ⟨_, List.getElem?_eq_getElem (by rw [Hl.out]; exact hlt)⟩
      obtain ⟨b, off, rfl, hbB, hc⟩ := (hx.below hb).rec_ jobV_len Hl.out hf
      have hso := Lib.hid (Hok.out x (List.mem_of_getElem? hf))
      have Hf := Lib.hid hf
      have hkey : x.name = JobD.name x := rfl
      obtain ⟨E, hE⟩ : ∃ E, jobE x = E := ⟨_, rfl⟩
      have HE := Lib.hid hE
      obtain ⟨X, hX⟩ : ∃ X, X = x := ⟨_, rfl⟩
      have HX := Lib.hid hX
      obtain ⟨name, prio, need, tries, tag⟩ := x
      have c0 : wr.cell? ⟨b, off + k * 5, none⟩ = some (.string name) := hc 0 _ rfl
      have c1 : wr.cell? ⟨b, off + k * 5 + 1, none⟩ = some (.int .i64 prio) := hc 1 _ rfl
      have c2 : wr.cell? ⟨b, off + k * 5 + 2, none⟩ = some (.int .i64 need) := hc 2 _ rfl
      have c3 : wr.cell? ⟨b, off + k * 5 + 3, none⟩ = some (.int .i64 tries) := hc 3 _ rfl
      have c4 : wr.cell? ⟨b, off + k * 5 + 4, none⟩ = some (.string tag) := hc 4 _ rfl
      clear hc hf hE hX hkey
      have hlb : b < wr.heap.size := by omega
      have hT1 := Lib.hid (HT.out.below (Hb.out.alloc Hb.out.size (.cells #[.string name, .int .i64 prio, .int .i64 need, .int .i64 tries, .string tag] 39)))
      have hBa := Lib.hid (Hb.out.alloc Hb.out.size (.cells #[.string name, .int .i64 prio, .int .i64 need, .int .i64 tries, .string tag] 39))
      go_wp2_with fail
      refine Calls.mono (checkJob_any ⟨name, prio, need, tries, tag⟩ _ hso.out.1 hso.out.2 hT1.out) ?_
      rintro e w1 ⟨rfl, hb1⟩
      rw [HE.out]
      have hA0 := (Below.refl wr.heap.size wr).alloc (Nat.le_refl _) (.cells #[.string name, .int .i64 prio, .int .i64 need, .int .i64 tries, .string tag] 39)
      have hA1 := hA0.trans (hb1.mono hA0.size)
      have hB1 := Lib.hid (hBa.out.trans (hb1.mono hBa.out.size))
      by_cases he : E = 0
      · subst he
        have l0 : ∀ d os, (Sort.grow (redrawn w1 d) os).cell? ⟨wr.heap.size, 0, none⟩ = some (.string name) := fun d os => cell_regrown (by rw [(bcell hb1).1 _ _ (by simp)]; simp [go_sem]) d os
        have l1 : ∀ d os, (Sort.grow (redrawn w1 d) os).cell? ⟨wr.heap.size, 1, none⟩ = some (.int .i64 prio) := fun d os => cell_regrown (by rw [(bcell hb1).1 _ _ (by simp)]; simp [go_sem]) d os
        have l2 : ∀ d os, (Sort.grow (redrawn w1 d) os).cell? ⟨wr.heap.size, 2, none⟩ = some (.int .i64 need) := fun d os => cell_regrown (by rw [(bcell hb1).1 _ _ (by simp)]; simp [go_sem]) d os
        have l3 : ∀ d os, (Sort.grow (redrawn w1 d) os).cell? ⟨wr.heap.size, 3, none⟩ = some (.int .i64 tries) := fun d os => cell_regrown (by rw [(bcell hb1).1 _ _ (by simp)]; simp [go_sem]) d os
        have l4 : ∀ d os, (Sort.grow (redrawn w1 d) os).cell? ⟨wr.heap.size, 4, none⟩ = some (.string tag) := fun d os => cell_regrown (by rw [(bcell hb1).1 _ _ (by simp)]; simp [go_sem]) d os
        by_cases hk0 : k = 0
        · subst hk0
          have hst := Lib.hid (rows_next (key := JobD.name) Hf.out HE.out (.inl rfl))
          clear c0 c1 c2 c3 c4 hb1 hx hA0 hA1
          go_wp2_with fail
          refine wp_region_quiet_below (by kernel_rfl) (by kernel_rfl) ?_
          repeat (go_big_quiet_step (fail))
          refine wpQuiet_nil ?_
          intro _ hw'
          obtain ⟨⟨nq, osq⟩, hw''⟩ := hw'
          subst hw''
          have hb2 := Lib.hid (hB1.out.trans ((below_regrown w1 nq osq).mono hB1.out.size))
          clear l0 l1 l2 l3 l4
          dsimp only
          generalize Sort.grow (redrawn w1 nq) osq = w2 at hb2 ⊢
          go_wp2
          go_roundw
          case rel => exact ⟨1, by omega, by go_num, by rw [← hst.out]; exact Hrow.out, hb2.out⟩
          case measure => simp [intOf]; omega
        · obtain ⟨y, hy⟩ : ∃ y, xs[k - 1]? = some y := ⟨_, List.getElem?_eq_getElem (by rw [Hl.out]; omega)⟩
          obtain ⟨b', off', hbo, hbB', hp⟩ := (hx.below hb).rec_ jobV_len Hl.out hy
          obtain ⟨rfl, rfl⟩ : b = b' ∧ off = off' := by simpa using hbo
          have Hy := Lib.hid hy
          obtain ⟨Y, hY⟩ : ∃ Y, Y = y := ⟨_, rfl⟩
          obtain ⟨name', prio', need', tries', tag'⟩ := y
          have q0 : wr.cell? ⟨b, off + (k - 1) * 5, none⟩ = some (.string name') := hp 0 _ rfl
          have q1 : wr.cell? ⟨b, off + (k - 1) * 5 + 1, none⟩ = some (.int .i64 prio') := hp 1 _ rfl
          have q2 : wr.cell? ⟨b, off + (k - 1) * 5 + 2, none⟩ = some (.int .i64 need') := hp 2 _ rfl
          have q3 : wr.cell? ⟨b, off + (k - 1) * 5 + 3, none⟩ = some (.int .i64 tries') := hp 3 _ rfl
          have q4 : wr.cell? ⟨b, off + (k - 1) * 5 + 4, none⟩ = some (.string tag') := hp 4 _ rfl
          have p0 : ∀ d os, (Sort.grow (redrawn w1 d) os).cell? ⟨b, off + (k - 1) * 5, none⟩ = some (.string name') := fun d os => cell_regrown (((bcell hA1).1 _ _ hlb).trans q0) d os
          have p1 : ∀ d os, (Sort.grow (redrawn w1 d) os).cell? ⟨b, off + (k - 1) * 5 + 1, none⟩ = some (.int .i64 prio') := fun d os => cell_regrown (((bcell hA1).1 _ _ hlb).trans q1) d os
          have p2 : ∀ d os, (Sort.grow (redrawn w1 d) os).cell? ⟨b, off + (k - 1) * 5 + 2, none⟩ = some (.int .i64 need') := fun d os => cell_regrown (((bcell hA1).1 _ _ hlb).trans q2) d os
          have p3 : ∀ d os, (Sort.grow (redrawn w1 d) os).cell? ⟨b, off + (k - 1) * 5 + 3, none⟩ = some (.int .i64 tries') := fun d os => cell_regrown (((bcell hA1).1 _ _ hlb).trans q3) d os
          have p4 : ∀ d os, (Sort.grow (redrawn w1 d) os).cell? ⟨b, off + (k - 1) * 5 + 4, none⟩ = some (.string tag') := fun d os => cell_regrown (((bcell hA1).1 _ _ hlb).trans q4) d os
          clear q0 q1 q2 q3 q4 c0 c1 c2 c3 c4 hp hy hY hb1 hx hA0 hA1
          have hkp : decide ((0 : Int) < (k : Int)) = true := decide_eq_true (by omega)
          have hkn : 0 < k := by omega
          have hlt2 := Lib.hid (less_total name'.toList name.toList)
          obtain ⟨B, hB⟩ : ∃ B, Op.bytesLess name'.toList name.toList = B := ⟨_, rfl⟩
          have HL := Lib.hid hB
          cases B
          · have e1 : (Op.bytesLess name.toList name'.toList || name.toList == name'.toList) = true := by rw [← hlt2.out, hB]; rfl
            have hst := Lib.hid (rows_order (key := JobD.name) Hf.out HE.out hk0 Hy.out HL.out)
            clear hB
            go_wp2_with fail
            refine wp_region_quiet_below (by kernel_rfl) (by kernel_rfl) ?_
            repeat (go_big_quiet_step ((go_at_call 50; exact Calls.regrown_of (jobKey_any _ _ _ _ _ _))))
            refine wpQuiet_nil ?_
            intro _ hw'
            obtain ⟨⟨nq, osq⟩, hw''⟩ := hw'
            subst hw''
            have hb2 := Lib.hid (hB1.out.trans ((below_regrown w1 nq osq).mono hB1.out.size))
            clear l0 l1 l2 l3 l4 p0 p1 p2 p3 p4
            dsimp only
            generalize Sort.grow (redrawn w1 nq) osq = w2 at hb2 ⊢
            go_wp2
            go_ret
            exact ⟨ret_int (by rw [← Hrow.out]; exact hst.out.symm), hb2.out⟩
          · have e1 : (Op.bytesLess name.toList name'.toList || name.toList == name'.toList) = false := by rw [← hlt2.out, hB]; rfl
            have hst := Lib.hid (rows_next (key := JobD.name) Hf.out HE.out (.inr ⟨_, Hy.out, HL.out⟩))
            clear hB
            go_wp2_with fail
            refine wp_region_quiet_below (by kernel_rfl) (by kernel_rfl) ?_
            repeat (go_big_quiet_step ((go_at_call 50; exact Calls.regrown_of (jobKey_any _ _ _ _ _ _))))
            refine wpQuiet_nil ?_
            intro _ hw'
            obtain ⟨⟨nq, osq⟩, hw''⟩ := hw'
            subst hw''
            have hb2 := Lib.hid (hB1.out.trans ((below_regrown w1 nq osq).mono hB1.out.size))
            clear l0 l1 l2 l3 l4 p0 p1 p2 p3 p4
            dsimp only
            generalize Sort.grow (redrawn w1 nq) osq = w2 at hb2 ⊢
            go_wp2
            go_roundw
            case rel => exact ⟨k + 1, by omega, by go_num, by rw [← hst.out]; exact Hrow.out, hb2.out⟩
            case measure => simp [intOf]; omega
      · have hst := Lib.hid (rows_err (E := jobE) (key := JobD.name) Hf.out (by rw [HE.out]; exact he))
        have e1 : (E == 0) = false := beq_eq_false_iff_ne.2 he
        have e2 : (E != 0) = true := bne_iff_ne.2 he
        clear c0 c1 c2 c3 c4 hb1 hx hA0 hA1
        go_wp2
        go_ret
        exact ⟨ret_int (by rw [← Hrow.out, hst.out]; exact HE.out.symm), hB1.out⟩
    · obtain rfl : k = n := by omega
      have fin := Lib.hid (show R = 0 by rw [← Hrow.out]; exact rows_end (by rw [Hl.out]; exact Nat.le_refl _) _)
      clear hb hx
      go_wp2
      go_ret
      exact ⟨ret_int fin.out.symm, Hb.out⟩
set_option maxRecDepth 100000 in
set_option maxHeartbeats 1000000 in
theorem rowsNode_any (xs : List NodeD) (A : Option Addr) (n c : Nat) (w : World) (hx : SlAt w w.heap.size 3 A n (rowsV nodeV xs)) (hl : xs.length = n) (hn : n ≤ 9223372036854775807) (hok : NodesOk xs) (hT : Tabs w) :
    Calls Tryz.prog 52 #[.slice A n c, .func (.func 53) #[] #[], .func (.func 54) #[] #[]] w fun e w' => e = .returned (.int .i64 (rowsE nodeE NodeD.name xs)) ∧ Below w.heap.size w w' := by
  obtain ⟨R, hR⟩ : ∃ R, rowsE nodeE NodeD.name xs = R := ⟨_, rfl⟩
  rw [hR]
  have HR := Lib.hid hR
  have Hl := Lib.hid hl
  have HT := Lib.hid hT
  have Hok := Lib.hid hok
  clear hl hR hT hok
  go_enter Tryz.func52, Tryz.ntmps52
  go_wp2
  go_loopw [6, 7, 8, 9, 12, 19, 28, 35] (fun _ _ _ _ i _ _ _ wr => NodeInv xs n R w i wr) (fun _ _ _ _ i _ _ _ _ => n - (intOf i).toNat)
  case atStart => exact ⟨0, Nat.zero_le _, rfl, by rw [← HR.out]; rfl, Below.refl _ _⟩
  case round =>
    obtain ⟨k, hk, rfl, hrow, hb⟩ := hrel
    have Hrow := Lib.hid hrow
    have Hb := Lib.hid hb
    have hsz := hb.size
    clear hrow
    by_cases hlt : k < n
    · obtain ⟨x, hf⟩ : ∃ x, xs[k]? = some x := ⟨_, List.getElem?_eq_getElem (by rw [Hl.out]; exact hlt)⟩
      obtain ⟨b, off, rfl, hbB, hc⟩ := (hx.below hb).rec_ nodeV_len Hl.out hf
      have hso := Lib.hid (Hok.out x (List.mem_of_getElem? hf))
      have Hf := Lib.hid hf
      have hkey : x.name = NodeD.name x := rfl
      obtain ⟨E, hE⟩ : ∃ E, nodeE x = E := ⟨_, rfl⟩
      have HE := Lib.hid hE
      obtain ⟨X, hX⟩ : ∃ X, X = x := ⟨_, rfl⟩
      have HX := Lib.hid hX
      obtain ⟨name, room, zone⟩ := x
      have c0 : wr.cell? ⟨b, off + k * 3, none⟩ = some (.string name) := hc 0 _ rfl
      have c1 : wr.cell? ⟨b, off + k * 3 + 1, none⟩ = some (.int .i64 room) := hc 1 _ rfl
      have c2 : wr.cell? ⟨b, off + k * 3 + 2, none⟩ = some (.string zone) := hc 2 _ rfl
      clear hc hf hE hX hkey
      have hlb : b < wr.heap.size := by omega
      have hT1 := Lib.hid (HT.out.below (Hb.out.alloc Hb.out.size (.cells #[.string name, .int .i64 room, .string zone] 43)))
      have hBa := Lib.hid (Hb.out.alloc Hb.out.size (.cells #[.string name, .int .i64 room, .string zone] 43))
      go_wp2_with fail
      refine Calls.mono (checkNode_any ⟨name, room, zone⟩ _ hso.out.1 hso.out.2 hT1.out) ?_
      rintro e w1 ⟨rfl, hb1⟩
      rw [HE.out]
      have hA0 := (Below.refl wr.heap.size wr).alloc (Nat.le_refl _) (.cells #[.string name, .int .i64 room, .string zone] 43)
      have hA1 := hA0.trans (hb1.mono hA0.size)
      have hB1 := Lib.hid (hBa.out.trans (hb1.mono hBa.out.size))
      by_cases he : E = 0
      · subst he
        have l0 : ∀ d os, (Sort.grow (redrawn w1 d) os).cell? ⟨wr.heap.size, 0, none⟩ = some (.string name) := fun d os => cell_regrown (by rw [(bcell hb1).1 _ _ (by simp)]; simp [go_sem]) d os
        have l1 : ∀ d os, (Sort.grow (redrawn w1 d) os).cell? ⟨wr.heap.size, 1, none⟩ = some (.int .i64 room) := fun d os => cell_regrown (by rw [(bcell hb1).1 _ _ (by simp)]; simp [go_sem]) d os
        have l2 : ∀ d os, (Sort.grow (redrawn w1 d) os).cell? ⟨wr.heap.size, 2, none⟩ = some (.string zone) := fun d os => cell_regrown (by rw [(bcell hb1).1 _ _ (by simp)]; simp [go_sem]) d os
        by_cases hk0 : k = 0
        · subst hk0
          have hst := Lib.hid (rows_next (key := NodeD.name) Hf.out HE.out (.inl rfl))
          clear c0 c1 c2 hb1 hx hA0 hA1
          go_wp2_with fail
          refine wp_region_quiet_below (by kernel_rfl) (by kernel_rfl) ?_
          repeat (go_big_quiet_step (fail))
          refine wpQuiet_nil ?_
          intro _ hw'
          obtain ⟨⟨nq, osq⟩, hw''⟩ := hw'
          subst hw''
          have hb2 := Lib.hid (hB1.out.trans ((below_regrown w1 nq osq).mono hB1.out.size))
          clear l0 l1 l2
          dsimp only
          generalize Sort.grow (redrawn w1 nq) osq = w2 at hb2 ⊢
          go_wp2
          go_roundw
          case rel => exact ⟨1, by omega, by go_num, by rw [← hst.out]; exact Hrow.out, hb2.out⟩
          case measure => simp [intOf]; omega
        · obtain ⟨y, hy⟩ : ∃ y, xs[k - 1]? = some y := ⟨_, List.getElem?_eq_getElem (by rw [Hl.out]; omega)⟩
          obtain ⟨b', off', hbo, hbB', hp⟩ := (hx.below hb).rec_ nodeV_len Hl.out hy
          obtain ⟨rfl, rfl⟩ : b = b' ∧ off = off' := by simpa using hbo
          have Hy := Lib.hid hy
          obtain ⟨Y, hY⟩ : ∃ Y, Y = y := ⟨_, rfl⟩
          obtain ⟨name', room', zone'⟩ := y
          have q0 : wr.cell? ⟨b, off + (k - 1) * 3, none⟩ = some (.string name') := hp 0 _ rfl
          have q1 : wr.cell? ⟨b, off + (k - 1) * 3 + 1, none⟩ = some (.int .i64 room') := hp 1 _ rfl
          have q2 : wr.cell? ⟨b, off + (k - 1) * 3 + 2, none⟩ = some (.string zone') := hp 2 _ rfl
          have p0 : ∀ d os, (Sort.grow (redrawn w1 d) os).cell? ⟨b, off + (k - 1) * 3, none⟩ = some (.string name') := fun d os => cell_regrown (((bcell hA1).1 _ _ hlb).trans q0) d os
          have p1 : ∀ d os, (Sort.grow (redrawn w1 d) os).cell? ⟨b, off + (k - 1) * 3 + 1, none⟩ = some (.int .i64 room') := fun d os => cell_regrown (((bcell hA1).1 _ _ hlb).trans q1) d os
          have p2 : ∀ d os, (Sort.grow (redrawn w1 d) os).cell? ⟨b, off + (k - 1) * 3 + 2, none⟩ = some (.string zone') := fun d os => cell_regrown (((bcell hA1).1 _ _ hlb).trans q2) d os
          clear q0 q1 q2 c0 c1 c2 hp hy hY hb1 hx hA0 hA1
          have hkp : decide ((0 : Int) < (k : Int)) = true := decide_eq_true (by omega)
          have hkn : 0 < k := by omega
          have hlt2 := Lib.hid (less_total name'.toList name.toList)
          obtain ⟨B, hB⟩ : ∃ B, Op.bytesLess name'.toList name.toList = B := ⟨_, rfl⟩
          have HL := Lib.hid hB
          cases B
          · have e1 : (Op.bytesLess name.toList name'.toList || name.toList == name'.toList) = true := by rw [← hlt2.out, hB]; rfl
            have hst := Lib.hid (rows_order (key := NodeD.name) Hf.out HE.out hk0 Hy.out HL.out)
            clear hB
            go_wp2_with fail
            refine wp_region_quiet_below (by kernel_rfl) (by kernel_rfl) ?_
            repeat (go_big_quiet_step ((go_at_call 53; exact Calls.regrown_of (nodeKey_any _ _ _ _))))
            refine wpQuiet_nil ?_
            intro _ hw'
            obtain ⟨⟨nq, osq⟩, hw''⟩ := hw'
            subst hw''
            have hb2 := Lib.hid (hB1.out.trans ((below_regrown w1 nq osq).mono hB1.out.size))
            clear l0 l1 l2 p0 p1 p2
            dsimp only
            generalize Sort.grow (redrawn w1 nq) osq = w2 at hb2 ⊢
            go_wp2
            go_ret
            exact ⟨ret_int (by rw [← Hrow.out]; exact hst.out.symm), hb2.out⟩
          · have e1 : (Op.bytesLess name.toList name'.toList || name.toList == name'.toList) = false := by rw [← hlt2.out, hB]; rfl
            have hst := Lib.hid (rows_next (key := NodeD.name) Hf.out HE.out (.inr ⟨_, Hy.out, HL.out⟩))
            clear hB
            go_wp2_with fail
            refine wp_region_quiet_below (by kernel_rfl) (by kernel_rfl) ?_
            repeat (go_big_quiet_step ((go_at_call 53; exact Calls.regrown_of (nodeKey_any _ _ _ _))))
            refine wpQuiet_nil ?_
            intro _ hw'
            obtain ⟨⟨nq, osq⟩, hw''⟩ := hw'
            subst hw''
            have hb2 := Lib.hid (hB1.out.trans ((below_regrown w1 nq osq).mono hB1.out.size))
            clear l0 l1 l2 p0 p1 p2
            dsimp only
            generalize Sort.grow (redrawn w1 nq) osq = w2 at hb2 ⊢
            go_wp2
            go_roundw
            case rel => exact ⟨k + 1, by omega, by go_num, by rw [← hst.out]; exact Hrow.out, hb2.out⟩
            case measure => simp [intOf]; omega
      · have hst := Lib.hid (rows_err (E := nodeE) (key := NodeD.name) Hf.out (by rw [HE.out]; exact he))
        have e1 : (E == 0) = false := beq_eq_false_iff_ne.2 he
        have e2 : (E != 0) = true := bne_iff_ne.2 he
        clear c0 c1 c2 hb1 hx hA0 hA1
        go_wp2
        go_ret
        exact ⟨ret_int (by rw [← Hrow.out, hst.out]; exact HE.out.symm), hB1.out⟩
    · obtain rfl : k = n := by omega
      have fin := Lib.hid (show R = 0 by rw [← Hrow.out]; exact rows_end (by rw [Hl.out]; exact Nat.le_refl _) _)
      clear hb hx
      go_wp2
      go_ret
      exact ⟨ret_int fin.out.symm, Hb.out⟩
end Go.Proofs.YtcodhhabfacnjaaGreatDoor
