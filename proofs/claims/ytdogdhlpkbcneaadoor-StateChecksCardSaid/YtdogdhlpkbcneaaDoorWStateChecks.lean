/- The walk of the law StateChecks. -/
import Derived.Test.YtdogdhlpkbcneaaDoorStTop
import Derived.Test.YtdogdhlpkbcneaaDoorArgSt
namespace Go.Proofs.YtdogdhlpkbcneaaDoor
open Go.RowKit
set_option maxRecDepth 100000 in
set_option maxHeartbeats 1000000 in
theorem walkStateChecks (w : World) (st : StateD) (x : StA) (h : StAt w w.heap.size st x ∧ StFull st) (hT : Tabs w) :
    Calls Tryd.prog 5 #[.agg (stC st x)] w fun e w'' => e = .returned (.bool true) ∧ Below w.heap.size w w'' := by
  have hS := h.1
  have hb1 : Below w.heap.size w (w.alloc (.cells (stC st x) 35)) := (Below.refl _ _).alloc (Nat.le_refl _) _
  have hB1 : Blk (w.alloc (.cells (stC st x) 35)) w.heap.size 35 (stC st x) := heap_alloc_new w _
  generalize hw1 : w.alloc (.cells (stC st x) 35) = w1 at hb1 hB1
  have hst : ∀ d os, StAt (Sort.grow (redrawn w1 d) os) (Sort.grow (redrawn w1 d) os).heap.size st x := fun d os => (hS.below (hb1.trans ((below_regrown w1 d os).mono hb1.size))).more (Nat.le_trans hb1.size (below_regrown w1 d os).size)
  have htb : ∀ d os, Tabs (Sort.grow (redrawn w1 d) os) := fun d os => (hT.below hb1).below (below_regrown w1 d os)
  have hC := fun d os => scheck_any st x _ (hst d os) (htb d os)
  have hR := fun d os => rcheck_any st x _ (hst d os)
  have HX := Lib.hid (fun d os => scheck_bad _ (htb d os))
  have Hb1 := Lib.hid hb1
  have HW1 := Lib.hid hw1
  obtain ⟨E, hE⟩ : ∃ E, checkE st = E := ⟨_, rfl⟩
  have hR2 : ∀ d os, Calls Tryd.prog 12 #[.agg (stC st x)] (Sort.grow (redrawn w1 d) os) fun e w'' => e = .returned (.int .i64 E) ∧ Below (Sort.grow (redrawn w1 d) os).heap.size (Sort.grow (redrawn w1 d) os) w'' := fun d os => by rw [← hE]; exact hR d os
  rw [hE] at hC
  obtain ⟨rev, jobs, nodes, leases⟩ := st
  obtain ⟨aj, nj, cj, an, nn, cn, al, nl, cl⟩ := x
  have b0 := fun d os => cell_regrown (show w1.cell? ⟨w.heap.size, 0, none⟩ = some (.int .i64 rev) from hB1.cell 0) d os
  have b1 := fun d os => cell_regrown (show w1.cell? ⟨w.heap.size, 1, none⟩ = some (.slice aj nj cj) from hB1.cell 1) d os
  have b2 := fun d os => cell_regrown (show w1.cell? ⟨w.heap.size, 2, none⟩ = some (.slice an nn cn) from hB1.cell 2) d os
  have b3 := fun d os => cell_regrown (show w1.cell? ⟨w.heap.size, 3, none⟩ = some (.slice al nl cl) from hB1.cell 3) d os
  have HC := Lib.hid hC
  have HR := Lib.hid hR2
  clear hC hR2 hR hst htb hB1 hb1 hw1 hS h hT hE
  simp only [stC] at *
  go_enter Tryd.func5, Tryd.ntmps5
  go_wp2_with fail
  rw [HW1.out]
  refine wp_region_quiet_below (by kernel_rfl) (by kernel_rfl) ?_
  go_big_quiet_step ((fail))
  go_big_quiet_step ((go_at_call 11; exact Calls.regrown_of (HC.out _ _)))
  go_big_quiet_step ((fail))
  go_big_quiet_step ((go_at_call 12; exact Calls.regrown_of (HR.out _ _)))
  go_big_quiet_step ((fail))
  go_big_quiet_step ((fail))
  go_big_quiet_step ((go_at_call 13; exact Calls.regrown_of (bad_any _)))
  go_big_quiet_step ((go_at_call 11; exact Calls.regrown_of (HX.out _ _)))
  go_big_quiet_step ((fail))
  go_big_quiet_step ((fail))
  go_big_quiet_step ((fail))
  refine wpQuiet_nil ?_
  intro _ hw'
  obtain ⟨⟨nq, osq⟩, hw''⟩ := hw'
  subst hw''
  have hb2 := Lib.hid (Hb1.out.trans ((below_regrown w1 nq osq).mono Hb1.out.size))
  clear b0 b1 b2 b3 HC HR HX HW1
  dsimp only
  generalize Sort.grow (redrawn w1 nq) osq = w2 at hb2 ⊢
  go_wp2
  go_ret
  exact ⟨rfl, hb2.out⟩
end Go.Proofs.YtdogdhlpkbcneaaDoor
