/- The walks of wire.Frame and of the reference's StateFrame. -/
import Derived.Test.YtbbagnfmoecdfaaDoorEnc
import Derived.Test.YtbbagnfmoecdfaaDoorREncV
import Derived.Test.YtbbagnfmoecdfaaDoorFrmEncP
import Derived.Test.YtbbagnfmoecdfaaDoorFrmEncR
set_option linter.unusedVariables false
set_option linter.unusedSimpArgs false
namespace Go.Proofs.YtbbagnfmoecdfaaDoor
open Go.RowKit
/-- What Frame says. -/
def wfrmF (st : StateD) (v : Int) : ByteArray × Int := if (wencF st v).2 ≠ 0 then (⟨#[]⟩, (wencF st v).2) else (encF v 1 (wencF st v).1)
def EnPostF (st : StateD) (v : Int) (w : World) (e : Ending) (w' : World) : Prop := e = .returned (.tuple #[.string (wfrmF st v).1, .int .i64 (wfrmF st v).2]) ∧ Below w.heap.size w w'
theorem EnPostF.mk' {st : StateD} {v E : Int} {s : ByteArray} {w w' : World} (h : wfrmF st v = (s, E)) (hb : Below w.heap.size w w') : EnPostF st v w (.returned (.tuple #[.string s, .int .i64 E])) w' := ⟨by rw [h], hb⟩
set_option maxRecDepth 100000 in
set_option maxHeartbeats 2000000 in
theorem wframe_any (st : StateD) (x : StA) (v : Int) (w : World) (hS : StAt w w.heap.size st x) (hT : Tabs w) :
    Calls Tryd.prog 10 #[.agg (stC st x), .int .i64 v] w (EnPostF st v w) := by
  have hb1 : Below w.heap.size w (w.alloc (.cells (stC st x) 26)) := (Below.refl _ _).alloc (Nat.le_refl _) _
  have hC := wencode_any st x v _ (hS.up hb1) (hT.below hb1)
  have Hend := Lib.hid (fun s E (h : wfrmF st v = (s, E)) w' => EnPostF.mk' (w := w) (w' := w') h)
  have HF := Lib.hid (show wfrmF st v = if (wencF st v).2 ≠ 0 then (⟨#[]⟩, (wencF st v).2) else (encF v 1 (wencF st v).1) from rfl)
  have Hb1 := Lib.hid hb1
  unfold EnPost at hC
  obtain ⟨T, hT2⟩ : ∃ T, (wencF st v).1 = T := ⟨_, rfl⟩
  obtain ⟨E, hE2⟩ : ∃ E, (wencF st v).2 = E := ⟨_, rfl⟩
  rw [hT2, hE2] at hC HF
  have HC := Lib.hid hC
  clear hb1 hS hC hT2 hE2 hT
  obtain ⟨rev, jobs, nodes, leases⟩ := st
  obtain ⟨aj, nj, cj, an, nn, cn, al, nl, cl⟩ := x
  unfold stC at *
  dsimp only at *
  go_enter Tryd.func10, Tryd.ntmps10
  go_wp2_with fail
  refine Calls.mono HC.out ?_
  rintro e w1 ⟨rfl, hb⟩
  have HbA := Lib.hid (Hb1.out.trans (hb.mono Hb1.out.size))
  clear hb HC
  by_cases h0 : E = 0
  rotate_left
  · have e2 : (E != 0) = true := bne_iff_ne.2 h0
    have hend := Lib.hid (Hend.out _ _ (by rw [HF.out, if_pos h0]) _ HbA.out)
    go_wp2
    go_ret2
    exact hend.out
  subst h0
  have hF2 := HF.out
  rw [if_neg (by simp)] at hF2
  have hN := enc_any v 1 T w1
  unfold EncPost at hN
  obtain ⟨a, ha⟩ : ∃ a, (encF v 1 T).1 = a := ⟨_, rfl⟩
  obtain ⟨b, hb⟩ : ∃ b, (encF v 1 T).2 = b := ⟨_, rfl⟩
  rw [ha, hb] at hN
  have HN := Lib.hid hN
  have hend := Lib.hid (Hend.out a b (by rw [hF2, ← ha, ← hb]))
  clear hN ha hb hF2
  go_wp2_with fail
  refine Calls.mono HN.out ?_
  rintro e w2 ⟨rfl, hb⟩
  have hfin := Lib.hid (hend.out _ (HbA.out.trans (hb.mono HbA.out.size)))
  clear hb
  go_wp2
  go_ret2
  exact hfin.out
set_option maxRecDepth 100000 in
set_option maxHeartbeats 2000000 in
theorem rsframe_any (st : StateD) (x : StA) (v : Int) (w : World) (hS : StAt w w.heap.size st x) :
    Calls Tryd.prog 11 #[.agg (stC st x), .int .i64 v] w (EnPostF st v w) := by
  have hb1 : Below w.heap.size w (w.alloc (.cells (stC st x) 26)) := (Below.refl _ _).alloc (Nat.le_refl _) _
  have hC := rencode_any st x v _ (hS.up hb1)
  have Hend := Lib.hid (fun s E (h : wfrmF st v = (s, E)) w' => EnPostF.mk' (w := w) (w' := w') h)
  have HF := Lib.hid (show wfrmF st v = if (wencF st v).2 ≠ 0 then (⟨#[]⟩, (wencF st v).2) else (encF v 1 (wencF st v).1) from rfl)
  have Hb1 := Lib.hid hb1
  unfold EnPost at hC
  obtain ⟨T, hT2⟩ : ∃ T, (wencF st v).1 = T := ⟨_, rfl⟩
  obtain ⟨E, hE2⟩ : ∃ E, (wencF st v).2 = E := ⟨_, rfl⟩
  rw [hT2, hE2] at hC HF
  have HC := Lib.hid hC
  clear hb1 hS hC hT2 hE2
  obtain ⟨rev, jobs, nodes, leases⟩ := st
  obtain ⟨aj, nj, cj, an, nn, cn, al, nl, cl⟩ := x
  unfold stC at *
  dsimp only at *
  go_enter Tryd.func11, Tryd.ntmps11
  go_wp2_with fail
  refine Calls.mono HC.out ?_
  rintro e w1 ⟨rfl, hb⟩
  have HbA := Lib.hid (Hb1.out.trans (hb.mono Hb1.out.size))
  clear hb HC
  by_cases h0 : E = 0
  rotate_left
  · have e2 : (E != 0) = true := bne_iff_ne.2 h0
    have hend := Lib.hid (Hend.out _ _ (by rw [HF.out, if_pos h0]) _ HbA.out)
    go_wp2
    go_ret2
    exact hend.out
  subst h0
  have hF2 := HF.out
  rw [if_neg (by simp)] at hF2
  have hN := renc_any v 1 T w1
  unfold EncPost at hN
  obtain ⟨a, ha⟩ : ∃ a, (encF v 1 T).1 = a := ⟨_, rfl⟩
  obtain ⟨b, hb⟩ : ∃ b, (encF v 1 T).2 = b := ⟨_, rfl⟩
  rw [ha, hb] at hN
  have HN := Lib.hid hN
  have hend := Lib.hid (Hend.out a b (by rw [hF2, ← ha, ← hb]))
  clear hN ha hb hF2
  go_wp2_with fail
  refine Calls.mono HN.out ?_
  rintro e w2 ⟨rfl, hb⟩
  have hfin := Lib.hid (hend.out _ (HbA.out.trans (hb.mono HbA.out.size)))
  clear hb
  go_wp2
  go_ret2
  exact hfin.out
end Go.Proofs.YtbbagnfmoecdfaaDoor
