/- The walk of the law WireFrames. -/
import Derived.Test.YtbbagnfmoecdfaaDoorWFrame
import Derived.Test.YtbbagnfmoecdfaaDoorWDec
import Derived.Test.YtbbagnfmoecdfaaDoorArgSt
set_option linter.unusedVariables false
set_option linter.unusedSimpArgs false
namespace Go.Proofs.YtbbagnfmoecdfaaDoor
open Go.RowKit
set_option maxRecDepth 100000 in
set_option maxHeartbeats 1000000 in
theorem walkWireFrames (w : World) (st : StateD) (x : StA) (v : Int) (h : StAt w w.heap.size st x ∧ StFull st) (hv1 : -9223372036854775808 ≤ v) (hv2 : v ≤ 9223372036854775807) (hT : Tabs w) :
    Calls Tryd.prog 4 #[.agg (stC st x), .int .i64 v] w fun e w'' => e = .returned (.bool true) ∧ Below w.heap.size w w'' := by
  have hS := h.1
  have hbS : Below w.heap.size w (w.alloc (.cells (stC st x) 26)) := (Below.refl _ _).alloc (Nat.le_refl _) _
  have hBS : Blk (w.alloc (.cells (stC st x) 26)) w.heap.size 26 (stC st x) := heap_alloc_new w _
  have h1 := wframe_any st x v _ (hS.up hbS) (hT.below hbS)
  have h2 := fun W (hb : Below w.heap.size w W) => rsframe_any st x v W (hS.up hb)
  have H3 := Lib.hid (fun W (hb : Below w.heap.size w W) => wdecode_arg ⟨#[]⟩ 0 W (.inl (by decide)))
  have hx0 := decF_arg (b := ⟨#[]⟩) (v := 0) (.inl (by decide))
  have Hx0 := Lib.hid hx0
  have HbS := Lib.hid hbS
  have HBS := Lib.hid hBS
  unfold EnPostF at h1 h2
  obtain ⟨T, hT2⟩ : ∃ T, (wfrmF st v).1 = T := ⟨_, rfl⟩
  obtain ⟨E, hE2⟩ : ∃ E, (wfrmF st v).2 = E := ⟨_, rfl⟩
  rw [hT2, hE2] at h1
  simp only [hT2, hE2] at h2
  have H1 := Lib.hid h1
  have H2 := Lib.hid h2
  clear h hS hT hx0 hbS hBS h1 h2 hT2 hE2
  obtain ⟨rev0, jobs0, nodes0, leases0⟩ := st
  obtain ⟨aj0, nj0, cj0, an0, nn0, cn0, al0, nl0, cl0⟩ := x
  unfold stC at *
  dsimp only at *
  go_enter Tryd.func4, Tryd.ntmps4
  go_wp2_with fail
  refine Calls.mono H1.out ?_
  rintro e w1 ⟨rfl, hb1⟩
  have HB1 := Lib.hid (HbS.out.trans (hb1.mono HbS.out.size))
  have S1 := Lib.hid (HBS.out.below hb1 HBS.out.lt)
  have s0 : w1.cell? ⟨w.heap.size, 0, none⟩ = some (.int .i64 rev0) := S1.out.cell 0
  have s1 : w1.cell? ⟨w.heap.size, 1, none⟩ = some (.slice aj0 nj0 cj0) := S1.out.cell 1
  have s2 : w1.cell? ⟨w.heap.size, 2, none⟩ = some (.slice an0 nn0 cn0) := S1.out.cell 2
  have s3 : w1.cell? ⟨w.heap.size, 3, none⟩ = some (.slice al0 nl0 cl0) := S1.out.cell 3
  clear hb1 HBS HbS H1
  go_wp2_with fail
  refine Calls.mono (H2.out _ HB1.out) ?_
  rintro e w2 ⟨rfl, hb2⟩
  have HB2 := Lib.hid (HB1.out.trans (hb2.mono HB1.out.size))
  clear hb2 s0 s1 s2 s3 S1 HB1
  go_wp2_with fail
  refine Calls.mono (H3.out _ HB2.out) ?_
  rintro e w3 ⟨st0, x0, E0, rfl, hd0, -, hb4⟩
  rw [Hx0.out] at hd0
  obtain ⟨rfl, rfl⟩ := Prod.mk.inj hd0
  obtain ⟨aj0, nj0, cj0, an0, nn0, cn0, al0, nl0, cl0⟩ := x0
  unfold stC zeroSt
  dsimp only
  have hbz : Below w3.heap.size w3 (w3.alloc (.cells #[.int .i64 0, .slice aj0 nj0 cj0, .slice an0 nn0 cn0, .slice al0 nl0 cl0] 26)) := (Below.refl _ _).alloc (Nat.le_refl _) _
  have B4 := Lib.hid ((HB2.out.trans (hb4.mono HB2.out.size)).trans (hbz.mono (Nat.le_trans HB2.out.size hb4.size)))
  have hee : (E == E) = true := beq_self_eq_true _
  have htt : (T.toList == T.toList) = true := beq_self_eq_true _
  clear hbz hb4 hd0
  go_wp2
  go_ret
  exact ⟨rfl, B4.out⟩
end Go.Proofs.YtbbagnfmoecdfaaDoor
