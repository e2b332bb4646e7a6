/- Of the proof of a statement: Chk. -/
import Derived.Test.YtcodhhabfacnjaaGreatDoorSPlSt
import Derived.Test.YtcodhhabfacnjaaGreatDoorSTabs
set_option linter.unusedVariables false
set_option linter.unusedSimpArgs false
/- The walks of the checks of one row, in the program. -/
namespace Go.Proofs.YtcodhhabfacnjaaGreatDoor
open Go.RowKit
open Go.Lib (validD)
set_option maxRecDepth 100000 in
theorem isText_any (s : ByteArray) (w : World) (hs : s.size ≤ 9223372036854775807) (hT : Tabs w) : Calls Tryz.prog 77 #[.string s] w fun e w' => e = .returned (.bool (txtOk s)) ∧ Below w.heap.size w w' := by
  by_cases h : s.size ≤ 16
  · rw [txtOk_short h]
    have hV := Lib.hid (valid_any s w hs hT)
    generalize validD s.data.toList = b at hV ⊢
    go_enter Tryz.func77, Tryz.ntmps77
    go_wp2_with fail
    refine Calls.mono hV.out ?_
    rintro e w1 ⟨rfl, hb⟩
    go_wp2
    go_ret
    exact ⟨rfl, hb⟩
  · rw [txtOk_long h]
    go_enter Tryz.func77, Tryz.ntmps77
    go_wp2
    go_ret
    exact ⟨rfl, Below.refl _ _⟩
set_option maxRecDepth 100000 in
theorem isName_any (s : ByteArray) (w : World) (hs : s.size ≤ 9223372036854775807) (hT : Tabs w) : Calls Tryz.prog 76 #[.string s] w fun e w' => e = .returned (.bool (nameOk s)) ∧ Below w.heap.size w w' := by
  by_cases h : s.size = 0
  · rw [nameOk_empty h]
    obtain rfl := empty_of h
    go_enter Tryz.func76, Tryz.ntmps76
    go_wp2
    go_ret
    exact ⟨rfl, Below.refl _ _⟩
  · rw [nameOk_more h]
    have hV := Lib.hid (isText_any s w hs hT)
    have e1 := beq_nil h
    have e2 := beq_empty h
    generalize txtOk s = b at hV ⊢
    go_enter Tryz.func76, Tryz.ntmps76
    go_wp2_with fail
    refine Calls.mono hV.out ?_
    rintro e w1 ⟨rfl, hb⟩
    go_wp2
    go_ret
    exact ⟨rfl, hb⟩
theorem swithin_yes (n lo hi : Int) (h1 : lo ≤ n) (h2 : n ≤ hi) (w : World) : Calls Tryz.prog 48 #[.int .i64 n, .int .i64 lo, .int .i64 hi] w fun e w' => e = .returned (.bool true) ∧ w = w' := by
  have e2 : decide (n ≤ hi) = true := decide_eq_true h2
  go_enter Tryz.func48, Tryz.ntmps48
  go_wp2
  go_ret
  exact ⟨rfl, rfl⟩
theorem swithin_no (n lo hi : Int) (h : n < lo ∨ hi < n) (w : World) : Calls Tryz.prog 48 #[.int .i64 n, .int .i64 lo, .int .i64 hi] w fun e w' => e = .returned (.bool false) ∧ w = w' := by
  by_cases h1 : lo ≤ n
  · have h2 : hi < n := by omega
    have e2 : decide (n ≤ hi) = false := decide_eq_false (by omega)
    clear h
    go_enter Tryz.func48, Tryz.ntmps48
    go_wp2
    go_ret
    exact ⟨rfl, rfl⟩
  · have e1 : decide (lo ≤ n) = false := decide_eq_false h1
    clear h
    go_enter Tryz.func48, Tryz.ntmps48
    go_wp2
    go_ret
    exact ⟨rfl, rfl⟩
theorem swithin_any (n lo hi : Int) (w : World) : Calls Tryz.prog 48 #[.int .i64 n, .int .i64 lo, .int .i64 hi] w fun e w' => e = .returned (.bool (ranged n lo hi)) ∧ w = w' := by
  cases h : ranged n lo hi
  · exact swithin_no n lo hi (ranged_not.1 h) w
  · exact swithin_yes n lo hi (ranged_iff.1 h).1 (ranged_iff.1 h).2 w
set_option maxRecDepth 100000 in
set_option maxHeartbeats 2000000 in
theorem checkJob_any (j : JobD) (w : World) (h1 : j.name.size ≤ 9223372036854775807) (h2 : j.tag.size ≤ 9223372036854775807) (hT : Tabs w) :
    Calls Tryz.prog 51 #[.agg (jobV j).toArray] w fun e w' => e = .returned (.int .i64 (jobE j)) ∧ Below w.heap.size w w' := by
  obtain ⟨E, hE⟩ : ∃ E, jobE j = E := ⟨_, rfl⟩
  rw [hE]
  have HE := Lib.hid hE
  clear hE
  obtain ⟨name, prio, need, tries, tag⟩ := j
  unfold jobV
  simp only at h1 h2 ⊢
  have hb0 : Below w.heap.size w (w.alloc (.cells #[.string name, .int .i64 prio, .int .i64 need, .int .i64 tries, .string tag] 39)) := (Below.refl _ _).alloc (Nat.le_refl _) _
  have hT0 := hT.below hb0
  have hN := Lib.hid (isName_any name _ h1 hT0)
  have HT := Lib.hid hT0
  have HB := Lib.hid hb0
  clear hT0 hb0 hT
  go_enter Tryz.func51, Tryz.ntmps51
  go_wp2_with fail
  refine Calls.mono hN.out ?_
  rintro e w1 ⟨rfl, hb1⟩
  have y1 : w1.cell? ⟨w.heap.size, 1, none⟩ = some (.int .i64 prio) := by rw [(bcell hb1).1 _ _ (by simp)]; simp [go_sem]
  have y2 : w1.cell? ⟨w.heap.size, 2, none⟩ = some (.int .i64 need) := by rw [(bcell hb1).1 _ _ (by simp)]; simp [go_sem]
  have y3 : w1.cell? ⟨w.heap.size, 3, none⟩ = some (.int .i64 tries) := by rw [(bcell hb1).1 _ _ (by simp)]; simp [go_sem]
  have y4 : w1.cell? ⟨w.heap.size, 4, none⟩ = some (.string tag) := by rw [(bcell hb1).1 _ _ (by simp)]; simp [go_sem]
  have HB1 := Lib.hid (HB.out.trans (hb1.mono HB.out.size))
  have HT1 := Lib.hid (HT.out.below hb1)
  have hsz : w.heap.size < w1.heap.size := by have := hb1.size; simp at this; omega
  clear hb1 HB HT hN
  cases hn : nameOk name
  · go_wp2
    go_ret
    exact ⟨ret_int (by rw [← HE.out]; simp [jobE, hn]), HB1.out⟩
  go_wp2_with fail
  refine Calls.mono (isText_any tag w1 h2 HT1.out) ?_
  rintro e w2 ⟨rfl, hb2⟩
  replace y1 := ((bcell hb2).1 _ _ hsz).trans y1
  replace y2 := ((bcell hb2).1 _ _ hsz).trans y2
  replace y3 := ((bcell hb2).1 _ _ hsz).trans y3
  have HB2 := Lib.hid (HB1.out.trans (hb2.mono HB1.out.size))
  clear y4 hb2 HB1 HT1 hsz
  cases ht : txtOk tag
  · go_wp2
    go_ret
    exact ⟨ret_int (by rw [← HE.out]; simp [jobE, hn, ht]), HB2.out⟩
  go_wp2_with fail
  refine Calls.mono (swithin_any _ _ _ _) ?_
  rintro e w3 ⟨rfl, rfl⟩
  cases hr1 : ranged prio (-1000) 1000
  · go_wp2
    go_ret
    exact ⟨ret_int (by rw [← HE.out]; simp [jobE, hn, ht, hr1]), HB2.out⟩
  go_wp2_with fail
  refine Calls.mono (swithin_any _ _ _ _) ?_
  rintro e w3 ⟨rfl, rfl⟩
  cases hr2 : ranged need 0 1000000
  · go_wp2
    go_ret
    exact ⟨ret_int (by rw [← HE.out]; simp [jobE, hn, ht, hr1, hr2]), HB2.out⟩
  go_wp2_with fail
  refine Calls.mono (swithin_any _ _ _ _) ?_
  rintro e w3 ⟨rfl, rfl⟩
  cases hr3 : ranged tries 0 100
  · go_wp2
    go_ret
    exact ⟨ret_int (by rw [← HE.out]; simp [jobE, hn, ht, hr1, hr2, hr3]), HB2.out⟩
  · go_wp2
    go_ret
    exact ⟨ret_int (by rw [← HE.out]; simp [jobE, hn, ht, hr1, hr2, hr3]), HB2.out⟩
set_option maxRecDepth 100000 in
set_option maxHeartbeats 2000000 in
theorem checkNode_any (n : NodeD) (w : World) (h1 : n.name.size ≤ 9223372036854775807) (h2 : n.zone.size ≤ 9223372036854775807) (hT : Tabs w) :
    Calls Tryz.prog 54 #[.agg (nodeV n).toArray] w fun e w' => e = .returned (.int .i64 (nodeE n)) ∧ Below w.heap.size w w' := by
  obtain ⟨E, hE⟩ : ∃ E, nodeE n = E := ⟨_, rfl⟩
  rw [hE]
  have HE := Lib.hid hE
  clear hE
  obtain ⟨name, room, zone⟩ := n
  unfold nodeV
  simp only at h1 h2 ⊢
  have hb0 : Below w.heap.size w (w.alloc (.cells #[.string name, .int .i64 room, .string zone] 43)) := (Below.refl _ _).alloc (Nat.le_refl _) _
  have hT0 := hT.below hb0
  have hN := Lib.hid (isName_any name _ h1 hT0)
  have HT := Lib.hid hT0
  have HB := Lib.hid hb0
  clear hT0 hb0 hT
  go_enter Tryz.func54, Tryz.ntmps54
  go_wp2_with fail
  refine Calls.mono hN.out ?_
  rintro e w1 ⟨rfl, hb1⟩
  have y1 : w1.cell? ⟨w.heap.size, 1, none⟩ = some (.int .i64 room) := by rw [(bcell hb1).1 _ _ (by simp)]; simp [go_sem]
  have y2 : w1.cell? ⟨w.heap.size, 2, none⟩ = some (.string zone) := by rw [(bcell hb1).1 _ _ (by simp)]; simp [go_sem]
  have HB1 := Lib.hid (HB.out.trans (hb1.mono HB.out.size))
  have HT1 := Lib.hid (HT.out.below hb1)
  have hsz : w.heap.size < w1.heap.size := by have := hb1.size; simp at this; omega
  clear hb1 HB HT hN
  cases hn : nameOk name
  · go_wp2
    go_ret
    exact ⟨ret_int (by rw [← HE.out]; simp [nodeE, hn]), HB1.out⟩
  go_wp2_with fail
  refine Calls.mono (isText_any zone w1 h2 HT1.out) ?_
  rintro e w2 ⟨rfl, hb2⟩
  replace y1 := ((bcell hb2).1 _ _ hsz).trans y1
  have HB2 := Lib.hid (HB1.out.trans (hb2.mono HB1.out.size))
  clear y2 hb2 HB1 HT1 hsz
  cases ht : txtOk zone
  · go_wp2
    go_ret
    exact ⟨ret_int (by rw [← HE.out]; simp [nodeE, hn, ht]), HB2.out⟩
  go_wp2_with fail
  refine Calls.mono (swithin_any _ _ _ _) ?_
  rintro e w3 ⟨rfl, rfl⟩
  cases hr1 : ranged room 0 1000000
  · go_wp2
    go_ret
    exact ⟨ret_int (by rw [← HE.out]; simp [nodeE, hn, ht, hr1]), HB2.out⟩
  · go_wp2
    go_ret
    exact ⟨ret_int (by rw [← HE.out]; simp [nodeE, hn, ht, hr1]), HB2.out⟩
end Go.Proofs.YtcodhhabfacnjaaGreatDoor
