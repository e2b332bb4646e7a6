/- The walks of the reference's bytes of a row. -/
import Derived.Test.YtbbagnfmoecdfaaGreatDoorWJob
import Derived.Test.YtbbagnfmoecdfaaGreatDoorPutR
import Derived.Lib.QuietBelow
import Derived.Test.YtbbagnfmoecdfaaGreatDoorBase
set_option linter.unusedVariables false
set_option linter.unusedSimpArgs false
namespace Go.Proofs.YtbbagnfmoecdfaaGreatDoor
open Go.RowKit
def bs (l : List UInt8) : ByteArray := ⟨l.toArray⟩
theorem bs_append (a b : List UInt8) : bs a ++ bs b = bs (a ++ b) := by unfold bs; rw [ByteArray.mk_append_mk]; try simp
theorem bs_size (a : List UInt8) : (bs a).size = a.length := by exact List.size_toArray
theorem bs_txt (s : ByteArray) : (txtF s).1 = bs (txtL s) := by unfold bs txtL; try simp
def BsPost (l : List UInt8) (w : World) (e : Ending) (w' : World) : Prop := e = .returned (.string (bs l)) ∧ Below w.heap.size w w'
theorem rnumb (n : Int) (w : World) (h : 0 ≤ n ∧ n < 18446744073709551616) : Calls Tryz.prog 291 #[.int .u64 n] w (BsPost (numL n.toNat) w) :=
  rnumber_any 10 n w h.1 h.2 (by have : (128 : Nat) ^ 10 = 1180591620717411303424 := by decide
                                 omega) (by decide)
set_option maxRecDepth 100000 in
theorem rnum_any (n : Int) (w : World) (h : 0 ≤ n ∧ n ≤ 9223372036854775807) : Calls Tryz.prog 227 #[.int .i64 n] w (BsPost (numL n.toNat) w) := by
  have H := Lib.hid (rnumb n w (by omega))
  go_enter Tryz.func227, Tryz.ntmps227
  go_wp2_with fail
  refine Calls.mono H.out ?_
  rintro e w1 ⟨rfl, hb⟩
  go_wp2
  go_ret
  exact ⟨rfl, hb⟩
set_option maxRecDepth 100000 in
theorem rtextb_any (s : ByteArray) (w : World) (h : s.size ≤ 9223372036854775807) : Calls Tryz.prog 329 #[.string s] w (BsPost (txtL s) w) := by
  have H := rtext_any s w h
  unfold TxtPost at H
  rw [bs_txt] at H
  generalize (txtF s).2 = E at H
  have H := Lib.hid H
  go_enter Tryz.func329, Tryz.ntmps329
  go_wp2_with fail
  refine Calls.mono H.out ?_
  rintro e w1 ⟨rfl, hb⟩
  go_wp2
  go_ret
  exact ⟨rfl, hb⟩
set_option maxRecDepth 100000 in
set_option maxHeartbeats 2000000 in
theorem rjob_0 (x : JobD) (v : Int) (w : World) (h1 : ¬ 1 < v) (h2 : ¬ 2 < v) (hx : JobW x) :
    Calls Tryz.prog 288 #[.agg (jobV x).toArray, .int .i64 v] w (BsPost (jobL x v) w) := by
  have d1 : decide (1 < v) = false := decide_eq_false h1
  have d2 : decide (2 < v) = false := decide_eq_false h2
  have Hx := Lib.hid hx
  obtain ⟨name, prio, need, tries, tag⟩ := x
  have hfin : bs (txtL name) ++ bs (numL (zigZ prio).toNat) ++ bs (numL (need).toNat) = bs (jobL ⟨name, prio, need, tries, tag⟩ v) := by simp only [bs_append]; simp [jobL, h1, h2]
  unfold jobV
  dsimp only
  have hb1 : Below w.heap.size w (w.alloc (.cells #[.string name, .int .i64 prio, .int .i64 need, .int .i64 tries, .string tag] 41)) := (Below.refl _ _).alloc (Nat.le_refl _) _
  have hB1 : Blk (w.alloc (.cells #[.string name, .int .i64 prio, .int .i64 need, .int .i64 tries, .string tag] 41)) w.heap.size 41 #[.string name, .int .i64 prio, .int .i64 need, .int .i64 tries, .string tag] := heap_alloc_new w _
  generalize hw1 : w.alloc (.cells #[.string name, .int .i64 prio, .int .i64 need, .int .i64 tries, .string tag] 41) = w1 at hb1 hB1
  have HW1 := Lib.hid hw1
  have Hb1 := Lib.hid hb1
  have b0 := fun d os => cell_regrown (show w1.cell? ⟨w.heap.size, 0, none⟩ = some (.string name) from hB1.cell 0) d os
  have b1 := fun d os => cell_regrown (show w1.cell? ⟨w.heap.size, 1, none⟩ = some (.int .i64 prio) from hB1.cell 1) d os
  have b2 := fun d os => cell_regrown (show w1.cell? ⟨w.heap.size, 2, none⟩ = some (.int .i64 need) from hB1.cell 2) d os
  have b3 := fun d os => cell_regrown (show w1.cell? ⟨w.heap.size, 3, none⟩ = some (.int .i64 tries) from hB1.cell 3) d os
  have b4 := fun d os => cell_regrown (show w1.cell? ⟨w.heap.size, 4, none⟩ = some (.string tag) from hB1.cell 4) d os
  have Cname := fun d os => rtextb_any name (Sort.grow (redrawn w1 d) os) Hx.out.name
  have hz : 0 ≤ zigZ prio ∧ zigZ prio < 18446744073709551616 := by have := Hx.out.prio; dsimp only at this; unfold zigZ; split <;> omega
  have Zprio : ∀ d os, Calls Tryz.prog 330 #[.int .i64 prio] (Sort.grow (redrawn w1 d) os) fun e w' => e = .returned (.int .u64 (zigZ prio)) ∧ Below (Sort.grow (redrawn w1 d) os).heap.size (Sort.grow (redrawn w1 d) os) w' := fun d os => (rzig_any prio Hx.out.prio.1 Hx.out.prio.2 _).mono (by rintro e w' ⟨h1, rfl⟩; exact ⟨h1, Below.refl _ _⟩)
  have Cprio := fun d os => rnumb (zigZ prio) (Sort.grow (redrawn w1 d) os) hz
  generalize zigZ prio = z at Zprio Cprio hfin
  have Cneed := fun d os => rnum_any need (Sort.grow (redrawn w1 d) os) Hx.out.need
  have lname : (bs (txtL name)).size ≤ 17 := by rw [bs_size]; exact txtL_len _
  have lprio : (bs (numL z.toNat)).size ≤ 17 := by rw [bs_size]; exact numL_len _
  have lneed : (bs (numL (need).toNat)).size ≤ 17 := by rw [bs_size]; exact numL_len _
  unfold BsPost at *
  generalize bs (txtL name) = Sname at hfin Cname lname
  generalize bs (numL z.toNat) = Sprio at hfin Cprio lprio
  generalize bs (numL (need).toNat) = Sneed at hfin Cneed lneed
  have Hname := Lib.hid Cname
  have Hprio := Lib.hid Cprio
  have Hneed := Lib.hid Cneed
  have HZ := Lib.hid Zprio
  have Hfin := Lib.hid hfin
  clear hb1 hB1 hw1 hx hfin h1 h2 Cname Cprio Cneed Zprio hz
  go_enter Tryz.func288, Tryz.ntmps288
  go_wp2_with fail
  rw [HW1.out]
  refine wp_region_quiet_below (by kernel_rfl) (by kernel_rfl) ?_
  go_big_quiet_step ((fail))
  go_big_quiet_step ((fail))
  go_big_quiet_step ((go_at_call 329; exact Calls.regrown_of (Hname.out _ _)))
  go_big_quiet_step ((fail))
  go_big_quiet_step ((fail))
  go_big_quiet_step ((go_at_call 330; exact Calls.regrown_of (HZ.out _ _)))
  go_big_quiet_step ((go_at_call 291; exact Calls.regrown_of (Hprio.out _ _)))
  go_big_quiet_step ((fail))
  go_big_quiet_step ((fail))
  go_big_quiet_step ((fail))
  go_big_quiet_step ((go_at_call 227; exact Calls.regrown_of (Hneed.out _ _)))
  go_big_quiet_step ((fail))
  go_big_quiet_step ((fail))
  refine wpQuiet_nil ?_
  intro _ hw'
  obtain ⟨⟨nq, osq⟩, hw''⟩ := hw'
  subst hw''
  have hb2 := Lib.hid (Hb1.out.trans ((below_regrown w1 nq osq).mono Hb1.out.size))
  clear HW1 b0 b1 b2 b3 b4 Hname Hprio Hneed HZ
  dsimp only
  generalize Sort.grow (redrawn w1 nq) osq = w2 at hb2 ⊢
  go_wp2
  go_ret
  exact ⟨ret_str Hfin.out, hb2.out⟩
set_option maxRecDepth 100000 in
set_option maxHeartbeats 2000000 in
theorem rjob_1 (x : JobD) (v : Int) (w : World) (h1 : 1 < v) (h2 : ¬ 2 < v) (hx : JobW x) :
    Calls Tryz.prog 288 #[.agg (jobV x).toArray, .int .i64 v] w (BsPost (jobL x v) w) := by
  have d1 : decide (1 < v) = true := decide_eq_true h1
  have d2 : decide (2 < v) = false := decide_eq_false h2
  have Hx := Lib.hid hx
  obtain ⟨name, prio, need, tries, tag⟩ := x
  have hfin : bs (txtL name) ++ bs (numL (zigZ prio).toNat) ++ bs (numL (need).toNat) ++ bs (numL (tries).toNat) = bs (jobL ⟨name, prio, need, tries, tag⟩ v) := by simp only [bs_append]; simp [jobL, h1, h2]
  unfold jobV
  dsimp only
  have hb1 : Below w.heap.size w (w.alloc (.cells #[.string name, .int .i64 prio, .int .i64 need, .int .i64 tries, .string tag] 41)) := (Below.refl _ _).alloc (Nat.le_refl _) _
  have hB1 : Blk (w.alloc (.cells #[.string name, .int .i64 prio, .int .i64 need, .int .i64 tries, .string tag] 41)) w.heap.size 41 #[.string name, .int .i64 prio, .int .i64 need, .int .i64 tries, .string tag] := heap_alloc_new w _
  generalize hw1 : w.alloc (.cells #[.string name, .int .i64 prio, .int .i64 need, .int .i64 tries, .string tag] 41) = w1 at hb1 hB1
  have HW1 := Lib.hid hw1
  have Hb1 := Lib.hid hb1
  have b0 := fun d os => cell_regrown (show w1.cell? ⟨w.heap.size, 0, none⟩ = some (.string name) from hB1.cell 0) d os
  have b1 := fun d os => cell_regrown (show w1.cell? ⟨w.heap.size, 1, none⟩ = some (.int .i64 prio) from hB1.cell 1) d os
  have b2 := fun d os => cell_regrown (show w1.cell? ⟨w.heap.size, 2, none⟩ = some (.int .i64 need) from hB1.cell 2) d os
  have b3 := fun d os => cell_regrown (show w1.cell? ⟨w.heap.size, 3, none⟩ = some (.int .i64 tries) from hB1.cell 3) d os
  have b4 := fun d os => cell_regrown (show w1.cell? ⟨w.heap.size, 4, none⟩ = some (.string tag) from hB1.cell 4) d os
  have Cname := fun d os => rtextb_any name (Sort.grow (redrawn w1 d) os) Hx.out.name
  have hz : 0 ≤ zigZ prio ∧ zigZ prio < 18446744073709551616 := by have := Hx.out.prio; dsimp only at this; unfold zigZ; split <;> omega
  have Zprio : ∀ d os, Calls Tryz.prog 330 #[.int .i64 prio] (Sort.grow (redrawn w1 d) os) fun e w' => e = .returned (.int .u64 (zigZ prio)) ∧ Below (Sort.grow (redrawn w1 d) os).heap.size (Sort.grow (redrawn w1 d) os) w' := fun d os => (rzig_any prio Hx.out.prio.1 Hx.out.prio.2 _).mono (by rintro e w' ⟨h1, rfl⟩; exact ⟨h1, Below.refl _ _⟩)
  have Cprio := fun d os => rnumb (zigZ prio) (Sort.grow (redrawn w1 d) os) hz
  generalize zigZ prio = z at Zprio Cprio hfin
  have Cneed := fun d os => rnum_any need (Sort.grow (redrawn w1 d) os) Hx.out.need
  have lname : (bs (txtL name)).size ≤ 17 := by rw [bs_size]; exact txtL_len _
  have lprio : (bs (numL z.toNat)).size ≤ 17 := by rw [bs_size]; exact numL_len _
  have lneed : (bs (numL (need).toNat)).size ≤ 17 := by rw [bs_size]; exact numL_len _
  have ltries : (bs (numL (tries).toNat)).size ≤ 17 := by rw [bs_size]; exact numL_len _
  have Ctries := fun W => rnum_any tries W Hx.out.tries
  unfold BsPost at *
  generalize bs (txtL name) = Sname at hfin Cname lname
  generalize bs (numL z.toNat) = Sprio at hfin Cprio lprio
  generalize bs (numL (need).toNat) = Sneed at hfin Cneed lneed
  generalize bs (numL (tries).toNat) = Stries at hfin Ctries ltries
  have Hname := Lib.hid Cname
  have Hprio := Lib.hid Cprio
  have Hneed := Lib.hid Cneed
  have Htries := Lib.hid Ctries
  have HZ := Lib.hid Zprio
  have Hfin := Lib.hid hfin
  clear hb1 hB1 hw1 hx hfin h1 h2 Cname Cprio Cneed Ctries Zprio hz
  go_enter Tryz.func288, Tryz.ntmps288
  go_wp2_with fail
  rw [HW1.out]
  refine wp_region_quiet_below (by kernel_rfl) (by kernel_rfl) ?_
  go_big_quiet_step ((fail))
  go_big_quiet_step ((fail))
  go_big_quiet_step ((go_at_call 329; exact Calls.regrown_of (Hname.out _ _)))
  go_big_quiet_step ((fail))
  go_big_quiet_step ((fail))
  go_big_quiet_step ((go_at_call 330; exact Calls.regrown_of (HZ.out _ _)))
  go_big_quiet_step ((go_at_call 291; exact Calls.regrown_of (Hprio.out _ _)))
  go_big_quiet_step ((fail))
  go_big_quiet_step ((fail))
  go_big_quiet_step ((fail))
  go_big_quiet_step ((go_at_call 227; exact Calls.regrown_of (Hneed.out _ _)))
  go_big_quiet_step ((fail))
  go_big_quiet_step ((fail))
  refine wpQuiet_nil ?_
  intro _ hw'
  obtain ⟨⟨nq, osq⟩, hw''⟩ := hw'
  subst hw''
  have hb2 := Lib.hid (Hb1.out.trans ((below_regrown w1 nq osq).mono Hb1.out.size))
  have y3 := b3 nq osq
  have hsz : w.heap.size < (Sort.grow (redrawn w1 nq) osq).heap.size := Nat.lt_of_lt_of_le (by rw [← HW1.out]; simp) (below_regrown w1 nq osq).size
  clear HW1 b0 b1 b2 b3 b4 Hname Hprio Hneed HZ
  dsimp only
  generalize Sort.grow (redrawn w1 nq) osq = w2 at hb2 y3 hsz ⊢
  go_wp2_with fail
  refine Calls.mono (Htries.out _) ?_
  rintro e v0 ⟨rfl, hc0⟩
  have Hc0 := Lib.hid (hb2.out.trans (hc0.mono hb2.out.size))
  replace hsz := Nat.lt_of_lt_of_le hsz hc0.size
  clear hc0
  go_wp2
  go_ret
  exact ⟨ret_str Hfin.out, Hc0.out⟩
set_option maxRecDepth 100000 in
set_option maxHeartbeats 2000000 in
theorem rjob_2 (x : JobD) (v : Int) (w : World) (h1 : 1 < v) (h2 : 2 < v) (hx : JobW x) :
    Calls Tryz.prog 288 #[.agg (jobV x).toArray, .int .i64 v] w (BsPost (jobL x v) w) := by
  have d1 : decide (1 < v) = true := decide_eq_true h1
  have d2 : decide (2 < v) = true := decide_eq_true h2
  have Hx := Lib.hid hx
  obtain ⟨name, prio, need, tries, tag⟩ := x
  have hfin : bs (txtL name) ++ bs (numL (zigZ prio).toNat) ++ bs (numL (need).toNat) ++ bs (numL (tries).toNat) ++ bs (txtL tag) = bs (jobL ⟨name, prio, need, tries, tag⟩ v) := by simp only [bs_append]; simp [jobL, h1, h2]
  unfold jobV
  dsimp only
  have hb1 : Below w.heap.size w (w.alloc (.cells #[.string name, .int .i64 prio, .int .i64 need, .int .i64 tries, .string tag] 41)) := (Below.refl _ _).alloc (Nat.le_refl _) _
  have hB1 : Blk (w.alloc (.cells #[.string name, .int .i64 prio, .int .i64 need, .int .i64 tries, .string tag] 41)) w.heap.size 41 #[.string name, .int .i64 prio, .int .i64 need, .int .i64 tries, .string tag] := heap_alloc_new w _
  generalize hw1 : w.alloc (.cells #[.string name, .int .i64 prio, .int .i64 need, .int .i64 tries, .string tag] 41) = w1 at hb1 hB1
  have HW1 := Lib.hid hw1
  have Hb1 := Lib.hid hb1
  have b0 := fun d os => cell_regrown (show w1.cell? ⟨w.heap.size, 0, none⟩ = some (.string name) from hB1.cell 0) d os
  have b1 := fun d os => cell_regrown (show w1.cell? ⟨w.heap.size, 1, none⟩ = some (.int .i64 prio) from hB1.cell 1) d os
  have b2 := fun d os => cell_regrown (show w1.cell? ⟨w.heap.size, 2, none⟩ = some (.int .i64 need) from hB1.cell 2) d os
  have b3 := fun d os => cell_regrown (show w1.cell? ⟨w.heap.size, 3, none⟩ = some (.int .i64 tries) from hB1.cell 3) d os
  have b4 := fun d os => cell_regrown (show w1.cell? ⟨w.heap.size, 4, none⟩ = some (.string tag) from hB1.cell 4) d os
  have Cname := fun d os => rtextb_any name (Sort.grow (redrawn w1 d) os) Hx.out.name
  have hz : 0 ≤ zigZ prio ∧ zigZ prio < 18446744073709551616 := by have := Hx.out.prio; dsimp only at this; unfold zigZ; split <;> omega
  have Zprio : ∀ d os, Calls Tryz.prog 330 #[.int .i64 prio] (Sort.grow (redrawn w1 d) os) fun e w' => e = .returned (.int .u64 (zigZ prio)) ∧ Below (Sort.grow (redrawn w1 d) os).heap.size (Sort.grow (redrawn w1 d) os) w' := fun d os => (rzig_any prio Hx.out.prio.1 Hx.out.prio.2 _).mono (by rintro e w' ⟨h1, rfl⟩; exact ⟨h1, Below.refl _ _⟩)
  have Cprio := fun d os => rnumb (zigZ prio) (Sort.grow (redrawn w1 d) os) hz
  generalize zigZ prio = z at Zprio Cprio hfin
  have Cneed := fun d os => rnum_any need (Sort.grow (redrawn w1 d) os) Hx.out.need
  have lname : (bs (txtL name)).size ≤ 17 := by rw [bs_size]; exact txtL_len _
  have lprio : (bs (numL z.toNat)).size ≤ 17 := by rw [bs_size]; exact numL_len _
  have lneed : (bs (numL (need).toNat)).size ≤ 17 := by rw [bs_size]; exact numL_len _
  have ltries : (bs (numL (tries).toNat)).size ≤ 17 := by rw [bs_size]; exact numL_len _
  have Ctries := fun W => rnum_any tries W Hx.out.tries
  have ltag : (bs (txtL tag)).size ≤ 17 := by rw [bs_size]; exact txtL_len _
  have Ctag := fun W => rtextb_any tag W Hx.out.tag
  unfold BsPost at *
  generalize bs (txtL name) = Sname at hfin Cname lname
  generalize bs (numL z.toNat) = Sprio at hfin Cprio lprio
  generalize bs (numL (need).toNat) = Sneed at hfin Cneed lneed
  generalize bs (numL (tries).toNat) = Stries at hfin Ctries ltries
  generalize bs (txtL tag) = Stag at hfin Ctag ltag
  have Hname := Lib.hid Cname
  have Hprio := Lib.hid Cprio
  have Hneed := Lib.hid Cneed
  have Htries := Lib.hid Ctries
  have Htag := Lib.hid Ctag
  have HZ := Lib.hid Zprio
  have Hfin := Lib.hid hfin
  clear hb1 hB1 hw1 hx hfin h1 h2 Cname Cprio Cneed Ctries Ctag Zprio hz
  go_enter Tryz.func288, Tryz.ntmps288
  go_wp2_with fail
  rw [HW1.out]
  refine wp_region_quiet_below (by kernel_rfl) (by kernel_rfl) ?_
  go_big_quiet_step ((fail))
  go_big_quiet_step ((fail))
  go_big_quiet_step ((go_at_call 329; exact Calls.regrown_of (Hname.out _ _)))
  go_big_quiet_step ((fail))
  go_big_quiet_step ((fail))
  go_big_quiet_step ((go_at_call 330; exact Calls.regrown_of (HZ.out _ _)))
  go_big_quiet_step ((go_at_call 291; exact Calls.regrown_of (Hprio.out _ _)))
  go_big_quiet_step ((fail))
  go_big_quiet_step ((fail))
  go_big_quiet_step ((fail))
  go_big_quiet_step ((go_at_call 227; exact Calls.regrown_of (Hneed.out _ _)))
  go_big_quiet_step ((fail))
  go_big_quiet_step ((fail))
  refine wpQuiet_nil ?_
  intro _ hw'
  obtain ⟨⟨nq, osq⟩, hw''⟩ := hw'
  subst hw''
  have hb2 := Lib.hid (Hb1.out.trans ((below_regrown w1 nq osq).mono Hb1.out.size))
  have y3 := b3 nq osq
  have y4 := b4 nq osq
  have hsz : w.heap.size < (Sort.grow (redrawn w1 nq) osq).heap.size := Nat.lt_of_lt_of_le (by rw [← HW1.out]; simp) (below_regrown w1 nq osq).size
  clear HW1 b0 b1 b2 b3 b4 Hname Hprio Hneed HZ
  dsimp only
  generalize Sort.grow (redrawn w1 nq) osq = w2 at hb2 y3 y4 hsz ⊢
  go_wp2_with fail
  refine Calls.mono (Htries.out _) ?_
  rintro e v0 ⟨rfl, hc0⟩
  have Hc0 := Lib.hid (hb2.out.trans (hc0.mono hb2.out.size))
  replace y4 := ((bcell hc0).1 _ _ hsz).trans y4
  replace hsz := Nat.lt_of_lt_of_le hsz hc0.size
  clear hc0
  go_wp2_with fail
  refine Calls.mono (Htag.out _) ?_
  rintro e v1 ⟨rfl, hc1⟩
  have Hc1 := Lib.hid (Hc0.out.trans (hc1.mono Hc0.out.size))
  replace hsz := Nat.lt_of_lt_of_le hsz hc1.size
  clear hc1
  go_wp2
  go_ret
  exact ⟨ret_str Hfin.out, Hc1.out⟩
set_option maxRecDepth 100000 in
set_option maxHeartbeats 2000000 in
theorem rnode_0 (x : NodeD) (v : Int) (w : World) (h1 : ¬ 1 < v) (hx : NodeW x) :
    Calls Tryz.prog 289 #[.agg (nodeV x).toArray, .int .i64 v] w (BsPost (nodeL x v) w) := by
  have d1 : decide (1 < v) = false := decide_eq_false h1
  have Hx := Lib.hid hx
  obtain ⟨name, room, zone⟩ := x
  have hfin : bs (txtL name) ++ bs (numL (room).toNat) = bs (nodeL ⟨name, room, zone⟩ v) := by simp only [bs_append]; simp [nodeL, h1]
  unfold nodeV
  dsimp only
  have hb1 : Below w.heap.size w (w.alloc (.cells #[.string name, .int .i64 room, .string zone] 43)) := (Below.refl _ _).alloc (Nat.le_refl _) _
  have hB1 : Blk (w.alloc (.cells #[.string name, .int .i64 room, .string zone] 43)) w.heap.size 43 #[.string name, .int .i64 room, .string zone] := heap_alloc_new w _
  generalize hw1 : w.alloc (.cells #[.string name, .int .i64 room, .string zone] 43) = w1 at hb1 hB1
  have HW1 := Lib.hid hw1
  have Hb1 := Lib.hid hb1
  have b0 := fun d os => cell_regrown (show w1.cell? ⟨w.heap.size, 0, none⟩ = some (.string name) from hB1.cell 0) d os
  have b1 := fun d os => cell_regrown (show w1.cell? ⟨w.heap.size, 1, none⟩ = some (.int .i64 room) from hB1.cell 1) d os
  have b2 := fun d os => cell_regrown (show w1.cell? ⟨w.heap.size, 2, none⟩ = some (.string zone) from hB1.cell 2) d os
  have Cname := fun d os => rtextb_any name (Sort.grow (redrawn w1 d) os) Hx.out.name
  have Croom := fun d os => rnum_any room (Sort.grow (redrawn w1 d) os) Hx.out.room
  have lname : (bs (txtL name)).size ≤ 17 := by rw [bs_size]; exact txtL_len _
  have lroom : (bs (numL (room).toNat)).size ≤ 17 := by rw [bs_size]; exact numL_len _
  unfold BsPost at *
  generalize bs (txtL name) = Sname at hfin Cname lname
  generalize bs (numL (room).toNat) = Sroom at hfin Croom lroom
  have Hname := Lib.hid Cname
  have Hroom := Lib.hid Croom
  have Hfin := Lib.hid hfin
  clear hb1 hB1 hw1 hx hfin h1 Cname Croom
  go_enter Tryz.func289, Tryz.ntmps289
  go_wp2_with fail
  rw [HW1.out]
  refine wp_region_quiet_below (by kernel_rfl) (by kernel_rfl) ?_
  go_big_quiet_step ((fail))
  go_big_quiet_step ((fail))
  go_big_quiet_step ((go_at_call 329; exact Calls.regrown_of (Hname.out _ _)))
  go_big_quiet_step ((fail))
  go_big_quiet_step ((fail))
  go_big_quiet_step ((go_at_call 227; exact Calls.regrown_of (Hroom.out _ _)))
  go_big_quiet_step ((fail))
  go_big_quiet_step ((fail))
  refine wpQuiet_nil ?_
  intro _ hw'
  obtain ⟨⟨nq, osq⟩, hw''⟩ := hw'
  subst hw''
  have hb2 := Lib.hid (Hb1.out.trans ((below_regrown w1 nq osq).mono Hb1.out.size))
  clear HW1 b0 b1 b2 Hname Hroom
  dsimp only
  generalize Sort.grow (redrawn w1 nq) osq = w2 at hb2 ⊢
  go_wp2
  go_ret
  exact ⟨ret_str Hfin.out, hb2.out⟩
set_option maxRecDepth 100000 in
set_option maxHeartbeats 2000000 in
theorem rnode_1 (x : NodeD) (v : Int) (w : World) (h1 : 1 < v) (hx : NodeW x) :
    Calls Tryz.prog 289 #[.agg (nodeV x).toArray, .int .i64 v] w (BsPost (nodeL x v) w) := by
  have d1 : decide (1 < v) = true := decide_eq_true h1
  have Hx := Lib.hid hx
  obtain ⟨name, room, zone⟩ := x
  have hfin : bs (txtL name) ++ bs (numL (room).toNat) ++ bs (txtL zone) = bs (nodeL ⟨name, room, zone⟩ v) := by simp only [bs_append]; simp [nodeL, h1]
  unfold nodeV
  dsimp only
  have hb1 : Below w.heap.size w (w.alloc (.cells #[.string name, .int .i64 room, .string zone] 43)) := (Below.refl _ _).alloc (Nat.le_refl _) _
  have hB1 : Blk (w.alloc (.cells #[.string name, .int .i64 room, .string zone] 43)) w.heap.size 43 #[.string name, .int .i64 room, .string zone] := heap_alloc_new w _
  generalize hw1 : w.alloc (.cells #[.string name, .int .i64 room, .string zone] 43) = w1 at hb1 hB1
  have HW1 := Lib.hid hw1
  have Hb1 := Lib.hid hb1
  have b0 := fun d os => cell_regrown (show w1.cell? ⟨w.heap.size, 0, none⟩ = some (.string name) from hB1.cell 0) d os
  have b1 := fun d os => cell_regrown (show w1.cell? ⟨w.heap.size, 1, none⟩ = some (.int .i64 room) from hB1.cell 1) d os
  have b2 := fun d os => cell_regrown (show w1.cell? ⟨w.heap.size, 2, none⟩ = some (.string zone) from hB1.cell 2) d os
  have Cname := fun d os => rtextb_any name (Sort.grow (redrawn w1 d) os) Hx.out.name
  have Croom := fun d os => rnum_any room (Sort.grow (redrawn w1 d) os) Hx.out.room
  have lname : (bs (txtL name)).size ≤ 17 := by rw [bs_size]; exact txtL_len _
  have lroom : (bs (numL (room).toNat)).size ≤ 17 := by rw [bs_size]; exact numL_len _
  have lzone : (bs (txtL zone)).size ≤ 17 := by rw [bs_size]; exact txtL_len _
  have Czone := fun W => rtextb_any zone W Hx.out.zone
  unfold BsPost at *
  generalize bs (txtL name) = Sname at hfin Cname lname
  generalize bs (numL (room).toNat) = Sroom at hfin Croom lroom
  generalize bs (txtL zone) = Szone at hfin Czone lzone
  have Hname := Lib.hid Cname
  have Hroom := Lib.hid Croom
  have Hzone := Lib.hid Czone
  have Hfin := Lib.hid hfin
  clear hb1 hB1 hw1 hx hfin h1 Cname Croom Czone
  go_enter Tryz.func289, Tryz.ntmps289
  go_wp2_with fail
  rw [HW1.out]
  refine wp_region_quiet_below (by kernel_rfl) (by kernel_rfl) ?_
  go_big_quiet_step ((fail))
  go_big_quiet_step ((fail))
  go_big_quiet_step ((go_at_call 329; exact Calls.regrown_of (Hname.out _ _)))
  go_big_quiet_step ((fail))
  go_big_quiet_step ((fail))
  go_big_quiet_step ((go_at_call 227; exact Calls.regrown_of (Hroom.out _ _)))
  go_big_quiet_step ((fail))
  go_big_quiet_step ((fail))
  refine wpQuiet_nil ?_
  intro _ hw'
  obtain ⟨⟨nq, osq⟩, hw''⟩ := hw'
  subst hw''
  have hb2 := Lib.hid (Hb1.out.trans ((below_regrown w1 nq osq).mono Hb1.out.size))
  have y2 := b2 nq osq
  have hsz : w.heap.size < (Sort.grow (redrawn w1 nq) osq).heap.size := Nat.lt_of_lt_of_le (by rw [← HW1.out]; simp) (below_regrown w1 nq osq).size
  clear HW1 b0 b1 b2 Hname Hroom
  dsimp only
  generalize Sort.grow (redrawn w1 nq) osq = w2 at hb2 y2 hsz ⊢
  go_wp2_with fail
  refine Calls.mono (Hzone.out _) ?_
  rintro e v0 ⟨rfl, hc0⟩
  have Hc0 := Lib.hid (hb2.out.trans (hc0.mono hb2.out.size))
  replace hsz := Nat.lt_of_lt_of_le hsz hc0.size
  clear hc0
  go_wp2
  go_ret
  exact ⟨ret_str Hfin.out, Hc0.out⟩
set_option maxRecDepth 100000 in
set_option maxHeartbeats 2000000 in
theorem rlease_any (x : LeaseD) (w : World) (hx : LeaseW x) :
    Calls Tryz.prog 290 #[.agg (leaseV x).toArray] w (BsPost (leaseL x) w) := by
  have Hx := Lib.hid hx
  obtain ⟨job, node, till⟩ := x
  have hfin : bs (txtL job) ++ bs (txtL node) ++ bs (numL (till).toNat) = bs (leaseL ⟨job, node, till⟩) := by simp only [bs_append]; simp [leaseL]
  unfold leaseV
  dsimp only
  have hb1 : Below w.heap.size w (w.alloc (.cells #[.string job, .string node, .int .i64 till] 45)) := (Below.refl _ _).alloc (Nat.le_refl _) _
  have hB1 : Blk (w.alloc (.cells #[.string job, .string node, .int .i64 till] 45)) w.heap.size 45 #[.string job, .string node, .int .i64 till] := heap_alloc_new w _
  generalize hw1 : w.alloc (.cells #[.string job, .string node, .int .i64 till] 45) = w1 at hb1 hB1
  have HW1 := Lib.hid hw1
  have Hb1 := Lib.hid hb1
  have b0 := fun d os => cell_regrown (show w1.cell? ⟨w.heap.size, 0, none⟩ = some (.string job) from hB1.cell 0) d os
  have b1 := fun d os => cell_regrown (show w1.cell? ⟨w.heap.size, 1, none⟩ = some (.string node) from hB1.cell 1) d os
  have b2 := fun d os => cell_regrown (show w1.cell? ⟨w.heap.size, 2, none⟩ = some (.int .i64 till) from hB1.cell 2) d os
  have Cjob := fun d os => rtextb_any job (Sort.grow (redrawn w1 d) os) Hx.out.job
  have Cnode := fun d os => rtextb_any node (Sort.grow (redrawn w1 d) os) Hx.out.node
  have Ctill := fun d os => rnum_any till (Sort.grow (redrawn w1 d) os) Hx.out.till
  have ljob : (bs (txtL job)).size ≤ 17 := by rw [bs_size]; exact txtL_len _
  have lnode : (bs (txtL node)).size ≤ 17 := by rw [bs_size]; exact txtL_len _
  have ltill : (bs (numL (till).toNat)).size ≤ 17 := by rw [bs_size]; exact numL_len _
  unfold BsPost at *
  generalize bs (txtL job) = Sjob at hfin Cjob ljob
  generalize bs (txtL node) = Snode at hfin Cnode lnode
  generalize bs (numL (till).toNat) = Still at hfin Ctill ltill
  have Hjob := Lib.hid Cjob
  have Hnode := Lib.hid Cnode
  have Htill := Lib.hid Ctill
  have Hfin := Lib.hid hfin
  clear hb1 hB1 hw1 hx hfin Cjob Cnode Ctill
  go_enter Tryz.func290, Tryz.ntmps290
  go_wp2_with fail
  rw [HW1.out]
  refine wp_region_quiet_below (by kernel_rfl) (by kernel_rfl) ?_
  go_big_quiet_step ((fail))
  go_big_quiet_step ((fail))
  go_big_quiet_step ((go_at_call 329; exact Calls.regrown_of (Hjob.out _ _)))
  go_big_quiet_step ((fail))
  go_big_quiet_step ((fail))
  go_big_quiet_step ((go_at_call 329; exact Calls.regrown_of (Hnode.out _ _)))
  go_big_quiet_step ((fail))
  go_big_quiet_step ((fail))
  go_big_quiet_step ((fail))
  go_big_quiet_step ((go_at_call 227; exact Calls.regrown_of (Htill.out _ _)))
  go_big_quiet_step ((fail))
  go_big_quiet_step ((fail))
  refine wpQuiet_nil ?_
  intro _ hw'
  obtain ⟨⟨nq, osq⟩, hw''⟩ := hw'
  subst hw''
  have hb2 := Lib.hid (Hb1.out.trans ((below_regrown w1 nq osq).mono Hb1.out.size))
  clear HW1 b0 b1 b2 Hjob Hnode Htill
  dsimp only
  generalize Sort.grow (redrawn w1 nq) osq = w2 at hb2 ⊢
  go_wp2
  go_ret
  exact ⟨ret_str Hfin.out, hb2.out⟩
theorem rjob_any (x : JobD) (v : Int) (w : World) (hx : JobW x) : Calls Tryz.prog 288 #[.agg (jobV x).toArray, .int .i64 v] w (BsPost (jobL x v) w) := by
  by_cases h1 : 1 < v
  · by_cases h2 : 2 < v
    · exact rjob_2 x v w h1 h2 hx
    · exact rjob_1 x v w h1 h2 hx
  · exact rjob_0 x v w h1 (by omega) hx
theorem rnode_any (x : NodeD) (v : Int) (w : World) (hx : NodeW x) : Calls Tryz.prog 289 #[.agg (nodeV x).toArray, .int .i64 v] w (BsPost (nodeL x v) w) := by
  by_cases h1 : 1 < v
  · exact rnode_1 x v w h1 hx
  · exact rnode_0 x v w h1 hx
end Go.Proofs.YtbbagnfmoecdfaaGreatDoor
