/- The walk of the law DeltaEncodes. -/
import Derived.Test.YtonipllegfgdiaaDoorDEnc
import Derived.Test.YtonipllegfgdiaaDoorDEncR
import Derived.Test.YtonipllegfgdiaaDoorWDeltaChecks
namespace Go.Proofs.YtonipllegfgdiaaDoor
open Go.RowKit
set_option maxRecDepth 100000 in
set_option maxHeartbeats 1000000 in
theorem walkDeltaEncodes (w : World) (st : DeltaD) (x : DelA) (h : DelAt w w.heap.size st x ∧ DeFull st) (hT : Tabs w) :
    Calls Tryd.prog 8 #[.agg (dC st x)] w fun e w'' => e = .returned (.bool true) ∧ Below w.heap.size w w'' := by
  have hS := h.1
  have hI := h.2.from_
  have hb1 : Below w.heap.size w (w.alloc (.cells (dC st x) 40)) := (Below.refl _ _).alloc (Nat.le_refl _) _
  have hB1 : Blk (w.alloc (.cells (dC st x) 40)) w.heap.size 40 (dC st x) := heap_alloc_new w _
  have h1 := dencode_any st x _ (hS.up hb1) (hT.below hb1) hI.1 hI.2
  have Hb1 := Lib.hid hb1
  have HB1 := Lib.hid hB1
  have HS := Lib.hid hS
  have HT := Lib.hid hT
  have H2 := Lib.hid (fun W (hb : Below w.heap.size w W) => rdencode_any st x W ((hS.below hb).more hb.size))
  unfold DEPost at h1
  have HE := Lib.hid (show encD st = encD st from rfl)
  obtain ⟨X, hX⟩ : ∃ X, encD st = X := ⟨_, rfl⟩
  have HX := Lib.hid hX
  rw [hX] at h1
  have H1 := Lib.hid h1
  clear h1 hX hb1 hB1 hS hT h hI HE
  obtain ⟨s, E⟩ := X
  dsimp only at H1
  have hss : (s.toList == s.toList) = true := beq_self_eq_true _
  have hee : (E == E) = true := beq_self_eq_true _
  obtain ⟨from_, to_, jobs, nodes, leases, gj, gn, gl⟩ := st
  obtain ⟨aj, nj, cj, an, nn, cn, al, nl, cl, agj, ngj, cgj, agn, ngn, cgn, agl, ngl, cgl⟩ := x
  simp only [dC] at *
  go_enter Tryd.func8, Tryd.ntmps8
  go_wp2_with fail
  refine Calls.mono H1.out ?_
  rintro e w1 ⟨rfl, hb2⟩
  have hB2 := HB1.out.below hb2 HB1.out.lt
  have y0 : w1.cell? ⟨w.heap.size, 0, none⟩ = some (.int .i64 from_) := hB2.cell 0
  have y1 : w1.cell? ⟨w.heap.size, 1, none⟩ = some (.int .i64 to_) := hB2.cell 1
  have y2 : w1.cell? ⟨w.heap.size, 2, none⟩ = some (.slice aj nj cj) := hB2.cell 2
  have y3 : w1.cell? ⟨w.heap.size, 3, none⟩ = some (.slice an nn cn) := hB2.cell 3
  have y4 : w1.cell? ⟨w.heap.size, 4, none⟩ = some (.slice al nl cl) := hB2.cell 4
  have y5 : w1.cell? ⟨w.heap.size, 5, none⟩ = some (.slice agj ngj cgj) := hB2.cell 5
  have y6 : w1.cell? ⟨w.heap.size, 6, none⟩ = some (.slice agn ngn cgn) := hB2.cell 6
  have y7 : w1.cell? ⟨w.heap.size, 7, none⟩ = some (.slice agl ngl cgl) := hB2.cell 7
  have hbA := Hb1.out.trans (hb2.mono Hb1.out.size)
  have hr := H2.out w1 hbA
  unfold DEPost at hr
  rw [HX.out] at hr
  dsimp only at hr
  have Hr := Lib.hid hr
  have HbA := Lib.hid hbA
  clear hbA hr hb2 hB2
  go_wp2_with fail
  refine Calls.mono Hr.out ?_
  rintro e w2 ⟨rfl, hb3⟩
  have HbB := Lib.hid (HbA.out.trans (hb3.mono HbA.out.size))
  have Hz := Lib.hid (dcheck_zero w2 ((HT.out.below (HbB.out))))
  clear hb3 y0 y1 y2 y3 y4 y5 y6 y7
  go_wp2_with fail
  refine Calls.mono Hz.out ?_
  rintro e w3 ⟨rfl, hb4⟩
  have HbC := Lib.hid (HbB.out.trans (hb4.mono HbB.out.size))
  clear hb4
  go_wp2
  go_ret
  exact ⟨rfl, HbC.out⟩
end Go.Proofs.YtonipllegfgdiaaDoor
