/- The walks of the checks of one row, in the reference. -/
import Derived.Test.YtoeejfhdjmkpcaaDoorUtf
import Derived.Test.YtoeejfhdjmkpcaaDoorBase
set_option linter.unusedVariables false
set_option linter.unusedSimpArgs false
namespace Go.Proofs.YtoeejfhdjmkpcaaDoor
open Go.RowKit
open Go.Lib (validD)
set_option maxRecDepth 100000 in
theorem isNote_any (s : ByteArray) (w : World) (hs : s.size ≤ 9223372036854775807) : Calls Tryd.prog 52 #[.string s] w fun e w' => e = .returned (.bool (txtOk s)) ∧ w = w' := by
  by_cases h : s.size ≤ 16
  · rw [txtOk_short h]
    have hV := Lib.hid (rutf_any s w (by omega))
    generalize validD s.data.toList = b at hV ⊢
    go_enter Tryd.func52, Tryd.ntmps52
    go_wp2_with fail
    refine Calls.mono hV.out ?_
    rintro e w1 ⟨rfl, rfl⟩
    go_wp2
    go_ret
    exact ⟨rfl, rfl⟩
  · rw [txtOk_long h]
    go_enter Tryd.func52, Tryd.ntmps52
    go_wp2
    go_ret
    exact ⟨rfl, rfl⟩
set_option maxRecDepth 100000 in
theorem rIsName_any (s : ByteArray) (w : World) (hs : s.size ≤ 9223372036854775807) : Calls Tryd.prog 51 #[.string s] w fun e w' => e = .returned (.bool (nameOk s)) ∧ w = w' := by
  by_cases h : s.size = 0
  · rw [nameOk_empty h]
    obtain rfl := empty_of h
    go_enter Tryd.func51, Tryd.ntmps51
    go_wp2
    go_ret
    exact ⟨rfl, rfl⟩
  · rw [nameOk_more h]
    have hV := Lib.hid (isNote_any s w hs)
    have e1 := beq_nil h
    have e2 := beq_empty h
    generalize txtOk s = b at hV ⊢
    go_enter Tryd.func51, Tryd.ntmps51
    go_wp2_with fail
    refine Calls.mono hV.out ?_
    rintro e w1 ⟨rfl, rfl⟩
    go_wp2
    go_ret
    exact ⟨rfl, rfl⟩
theorem outside_any (n lo hi : Int) (w : World) : Calls Tryd.prog 21 #[.int .i64 n, .int .i64 lo, .int .i64 hi] w fun e w' => e = .returned (.bool (!ranged n lo hi)) ∧ w = w' := by
  cases h : ranged n lo hi
  · exact outside_yes n lo hi (ranged_not.1 h) w
  · exact outside_no n lo hi (ranged_iff.1 h).1 (ranged_iff.1 h).2 w
set_option maxRecDepth 100000 in
set_option maxHeartbeats 2000000 in
theorem jobCheck_any (j : JobD) (w : World) (h1 : j.name.size ≤ 9223372036854775807) (h2 : j.tag.size ≤ 9223372036854775807) :
    Calls Tryd.prog 44 #[.agg (jobV j).toArray] w fun e w' => e = .returned (.int .i64 (jobE j)) ∧ Below w.heap.size w w' := by
  obtain ⟨E, hE⟩ : ∃ E, jobE j = E := ⟨_, rfl⟩
  rw [hE]
  have HE := Lib.hid hE
  clear hE
  obtain ⟨name, prio, need, tries, tag⟩ := j
  unfold jobV
  simp only at h1 h2 ⊢
  have HB := Lib.hid ((Below.refl w.heap.size w).alloc (Nat.le_refl _) (.cells #[.string name, .int .i64 prio, .int .i64 need, .int .i64 tries, .string tag] 36))
  go_enter Tryd.func44, Tryd.ntmps44
  go_wp2_with fail
  refine Calls.mono (rIsName_any _ _ h1) ?_
  rintro e w1 ⟨rfl, rfl⟩
  cases hn : nameOk name
  · go_wp2
    go_ret
    exact ⟨ret_int (by rw [← HE.out]; simp [jobE, hn]), HB.out⟩
  go_wp2_with fail
  refine Calls.mono (isNote_any _ _ h2) ?_
  rintro e w1 ⟨rfl, rfl⟩
  cases ht : txtOk tag
  · go_wp2
    go_ret
    exact ⟨ret_int (by rw [← HE.out]; simp [jobE, hn, ht]), HB.out⟩
  go_wp2_with fail
  refine Calls.mono (outside_any _ _ _ _) ?_
  rintro e w1 ⟨rfl, rfl⟩
  cases hr0 : ranged prio (-1000) 1000
  · go_wp2
    go_ret
    exact ⟨ret_int (by rw [← HE.out]; simp [jobE, hn, ht, hr0]), HB.out⟩
  go_wp2_with fail
  refine Calls.mono (outside_any _ _ _ _) ?_
  rintro e w1 ⟨rfl, rfl⟩
  cases hr1 : ranged need 0 1000000
  · go_wp2
    go_ret
    exact ⟨ret_int (by rw [← HE.out]; simp [jobE, hn, ht, hr0, hr1]), HB.out⟩
  go_wp2_with fail
  refine Calls.mono (outside_any _ _ _ _) ?_
  rintro e w1 ⟨rfl, rfl⟩
  cases hr2 : ranged tries 0 100
  · go_wp2
    go_ret
    exact ⟨ret_int (by rw [← HE.out]; simp [jobE, hn, ht, hr0, hr1, hr2]), HB.out⟩
  go_wp2
  go_ret
  exact ⟨ret_int (by rw [← HE.out]; simp [jobE, hn, ht, hr0, hr1, hr2]), HB.out⟩
set_option maxRecDepth 100000 in
set_option maxHeartbeats 2000000 in
theorem nodeCheck_any (n : NodeD) (w : World) (h1 : n.name.size ≤ 9223372036854775807) (h2 : n.zone.size ≤ 9223372036854775807) :
    Calls Tryd.prog 45 #[.agg (nodeV n).toArray] w fun e w' => e = .returned (.int .i64 (nodeE n)) ∧ Below w.heap.size w w' := by
  obtain ⟨E, hE⟩ : ∃ E, nodeE n = E := ⟨_, rfl⟩
  rw [hE]
  have HE := Lib.hid hE
  clear hE
  obtain ⟨name, room, zone⟩ := n
  unfold nodeV
  simp only at h1 h2 ⊢
  have HB := Lib.hid ((Below.refl w.heap.size w).alloc (Nat.le_refl _) (.cells #[.string name, .int .i64 room, .string zone] 40))
  go_enter Tryd.func45, Tryd.ntmps45
  go_wp2_with fail
  refine Calls.mono (rIsName_any _ _ h1) ?_
  rintro e w1 ⟨rfl, rfl⟩
  cases hn : nameOk name
  · go_wp2
    go_ret
    exact ⟨ret_int (by rw [← HE.out]; simp [nodeE, hn]), HB.out⟩
  go_wp2_with fail
  refine Calls.mono (isNote_any _ _ h2) ?_
  rintro e w1 ⟨rfl, rfl⟩
  cases ht : txtOk zone
  · go_wp2
    go_ret
    exact ⟨ret_int (by rw [← HE.out]; simp [nodeE, hn, ht]), HB.out⟩
  go_wp2_with fail
  refine Calls.mono (outside_any _ _ _ _) ?_
  rintro e w1 ⟨rfl, rfl⟩
  cases hr0 : ranged room 0 1000000
  · go_wp2
    go_ret
    exact ⟨ret_int (by rw [← HE.out]; simp [nodeE, hn, ht, hr0]), HB.out⟩
  go_wp2
  go_ret
  exact ⟨ret_int (by rw [← HE.out]; simp [nodeE, hn, ht, hr0]), HB.out⟩
end Go.Proofs.YtoeejfhdjmkpcaaDoor
