/- The walk of the law DeltaChecks. -/
import Derived.Test.YtonipllegfgdiaaDoorDChkR
import Derived.Test.YtonipllegfgdiaaDoorArgDe
set_option linter.unusedVariables false
set_option linter.unusedSimpArgs false
namespace Go.Proofs.YtonipllegfgdiaaDoor
open Go.RowKit
def zeroD : DeltaD := ⟨0, 0, [], [], [], [], [], []⟩
def zeroDA : DelA := ⟨none, 0, 0, none, 0, 0, none, 0, 0, none, 0, 0, none, 0, 0, none, 0, 0⟩
theorem zeroDAt (w : World) (B : Nat) : DelAt w B zeroD zeroDA :=
  { j := SlAt.nil, n := SlAt.nil, l := SlAt.nil, gj := SlAt.nil, gn := SlAt.nil, gl := SlAt.nil, lj := rfl, ln := rfl, ll := rfl, lgj := rfl, lgn := rfl, lgl := rfl,
    bj := by decide, bn := by decide, bl := by decide, bgj := by decide, bgn := by decide, bgl := by decide,
    oj := (fun _ h => by cases h), on_ := (fun _ h => by cases h), ol := (fun _ h => by cases h), ogj := (fun _ h => by cases h), ogn := (fun _ h => by cases h), ogl := (fun _ h => by cases h) }
theorem zeroD_check : deltaE zeroD = 1 := de_time rfl
theorem dcheck_zero (w : World) (hT : Tabs w) : Calls Tryd.prog 19 #[.agg #[.int .i64 0, .int .i64 0, .slice none 0 0, .slice none 0 0, .slice none 0 0, .slice none 0 0, .slice none 0 0, .slice none 0 0]] w fun e w' => e = .returned (.int .i64 1) ∧ Below w.heap.size w w' := by
  have := dcheck_any zeroD zeroDA w (zeroDAt w _) hT (by decide) (by decide)
  refine this.mono fun e w' h => ?_
  obtain ⟨he, hb⟩ := h
  rw [zeroD_check] at he
  exact ⟨he, hb⟩
set_option maxRecDepth 100000 in
set_option maxHeartbeats 1000000 in
theorem walkDeltaChecks (w : World) (st : DeltaD) (x : DelA) (h : DelAt w w.heap.size st x ∧ DeFull st) (hT : Tabs w) :
    Calls Tryd.prog 5 #[.agg (dC st x)] w fun e w'' => e = .returned (.bool true) ∧ Below w.heap.size w w'' := by
  have hS := h.1
  have hI := h.2.from_
  have hb1 : Below w.heap.size w (w.alloc (.cells (dC st x) 40)) := (Below.refl _ _).alloc (Nat.le_refl _) _
  have hB1 : Blk (w.alloc (.cells (dC st x) 40)) w.heap.size 40 (dC st x) := heap_alloc_new w _
  generalize hw1 : w.alloc (.cells (dC st x) 40) = w1 at hb1 hB1
  have hst : ∀ d os, DelAt (Sort.grow (redrawn w1 d) os) (Sort.grow (redrawn w1 d) os).heap.size st x := fun d os => (hS.below (hb1.trans ((below_regrown w1 d os).mono hb1.size))).more (Nat.le_trans hb1.size (below_regrown w1 d os).size)
  have htb : ∀ d os, Tabs (Sort.grow (redrawn w1 d) os) := fun d os => (hT.below hb1).below (below_regrown w1 d os)
  obtain ⟨E, hE⟩ : ∃ E, deltaE st = E := ⟨_, rfl⟩
  have hC : ∀ d os, Calls Tryd.prog 19 #[.agg (dC st x)] (Sort.grow (redrawn w1 d) os) fun e w'' => e = .returned (.int .i64 E) ∧ Below (Sort.grow (redrawn w1 d) os).heap.size (Sort.grow (redrawn w1 d) os) w'' := fun d os => by rw [← hE]; exact dcheck_any st x _ (hst d os) (htb d os) hI.1 hI.2
  have hR : ∀ d os, Calls Tryd.prog 20 #[.agg (dC st x)] (Sort.grow (redrawn w1 d) os) fun e w'' => e = .returned (.int .i64 E) ∧ Below (Sort.grow (redrawn w1 d) os).heap.size (Sort.grow (redrawn w1 d) os) w'' := fun d os => by rw [← hE]; exact rdcheck_any st x _ (hst d os)
  have HX := Lib.hid (fun d os => dcheck_zero _ (htb d os))
  have Hb1 := Lib.hid hb1
  have HW1 := Lib.hid hw1
  obtain ⟨from_, to_, jobs, nodes, leases, gj, gn, gl⟩ := st
  obtain ⟨aj, nj, cj, an, nn, cn, al, nl, cl, agj, ngj, cgj, agn, ngn, cgn, agl, ngl, cgl⟩ := x
  have b0 := fun d os => cell_regrown (show w1.cell? ⟨w.heap.size, 0, none⟩ = some (.int .i64 from_) from hB1.cell 0) d os
  have b1 := fun d os => cell_regrown (show w1.cell? ⟨w.heap.size, 1, none⟩ = some (.int .i64 to_) from hB1.cell 1) d os
  have b2 := fun d os => cell_regrown (show w1.cell? ⟨w.heap.size, 2, none⟩ = some (.slice aj nj cj) from hB1.cell 2) d os
  have b3 := fun d os => cell_regrown (show w1.cell? ⟨w.heap.size, 3, none⟩ = some (.slice an nn cn) from hB1.cell 3) d os
  have b4 := fun d os => cell_regrown (show w1.cell? ⟨w.heap.size, 4, none⟩ = some (.slice al nl cl) from hB1.cell 4) d os
  have b5 := fun d os => cell_regrown (show w1.cell? ⟨w.heap.size, 5, none⟩ = some (.slice agj ngj cgj) from hB1.cell 5) d os
  have b6 := fun d os => cell_regrown (show w1.cell? ⟨w.heap.size, 6, none⟩ = some (.slice agn ngn cgn) from hB1.cell 6) d os
  have b7 := fun d os => cell_regrown (show w1.cell? ⟨w.heap.size, 7, none⟩ = some (.slice agl ngl cgl) from hB1.cell 7) d os
  have HC := Lib.hid hC
  have HR := Lib.hid hR
  clear hC hR hst htb hB1 hb1 hw1 hS h hT hE hI
  simp only [dC] at *
  go_enter Tryd.func5, Tryd.ntmps5
  go_wp2_with fail
  rw [HW1.out]
  refine wp_region_quiet_below (by kernel_rfl) (by kernel_rfl) ?_
  go_big_quiet_step ((fail))
  go_big_quiet_step ((go_at_call 19; exact Calls.regrown_of (HC.out _ _)))
  go_big_quiet_step ((fail))
  go_big_quiet_step ((go_at_call 20; exact Calls.regrown_of (HR.out _ _)))
  go_big_quiet_step ((fail))
  go_big_quiet_step ((fail))
  go_big_quiet_step ((fail))
  go_big_quiet_step ((go_at_call 19; exact Calls.regrown_of (HX.out _ _)))
  go_big_quiet_step ((fail))
  go_big_quiet_step ((fail))
  go_big_quiet_step ((fail))
  refine wpQuiet_nil ?_
  intro _ hw'
  obtain ⟨⟨nq, osq⟩, hw''⟩ := hw'
  subst hw''
  have hb2 := Lib.hid (Hb1.out.trans ((below_regrown w1 nq osq).mono Hb1.out.size))
  clear b0 b1 b2 b3 b4 b5 b6 b7 HC HR HX HW1
  dsimp only
  generalize Sort.grow (redrawn w1 nq) osq = w2 at hb2 ⊢
  go_wp2
  go_ret
  exact ⟨rfl, hb2.out⟩
end Go.Proofs.YtonipllegfgdiaaDoor
