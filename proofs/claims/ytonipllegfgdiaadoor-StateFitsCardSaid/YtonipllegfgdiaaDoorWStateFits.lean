/- The walk of the law StateFits. -/
import Derived.Test.YtonipllegfgdiaaDoorFitsR
import Derived.Test.YtonipllegfgdiaaDoorWStateUsed
namespace Go.Proofs.YtonipllegfgdiaaDoor
open Go.RowKit
set_option maxRecDepth 100000 in
set_option maxHeartbeats 2000000 in
theorem walkStateFits (w : World) (st : StateD) (x : StA) (v : Int) (h : StAt w w.heap.size st x ∧ StFull st) (hv1 : -9223372036854775808 ≤ v) (hv2 : v ≤ 9223372036854775807) (hT : Tabs w) :
    Calls Tryd.prog 4 #[.agg (stC st x), .int .i64 v] w fun e w'' => e = .returned (.bool true) ∧ Below w.heap.size w w'' := by
  have hS := h.1
  have HS := Lib.hid hS
  have HT := Lib.hid hT
  have hb1 : Below w.heap.size w (w.alloc (.cells (stC st x) 26)) := (Below.refl _ _).alloc (Nat.le_refl _) _
  have hB1 : Blk (w.alloc (.cells (stC st x) 26)) w.heap.size 26 (stC st x) := heap_alloc_new w _
  have Hb1 := Lib.hid hb1
  have HB1 := Lib.hid hB1
  have hC1 := Lib.hid (fits_any st x v _ (below_st hS hb1) (hT.below hb1))
  have hC2 := Lib.hid (fun w2 (hb : Below w.heap.size w w2) => rcheck_any st x w2 (below_st HS.out hb))
  have hC3 := Lib.hid (fun (hv : ranged v 1 3 = true) w2 (hb : Below w.heap.size w w2) => rfits_any st x v w2 (below_st HS.out hb) hv)
  have hval : fitsF st v = if checkE st ≠ 0 then (false, checkE st) else if ranged v 1 3 = false then (false, 1) else (fitsE st v, 0) := rfl
  have Hval := Lib.hid hval
  clear h hS hT hb1 hB1 hval
  obtain ⟨rev, jobs, nodes, leases⟩ := st
  obtain ⟨aj, nj, cj, an, nn, cn, al, nl, cl⟩ := x
  simp only [stC] at *
  go_enter Tryd.func4, Tryd.ntmps4
  go_wp2_with fail
  refine Calls.mono hC1.out ?_
  rintro e w2 ⟨rfl, hb2⟩
  have Hb2 := Lib.hid (Hb1.out.trans (hb2.mono Hb1.out.size))
  have HB2 := Lib.hid (HB1.out.below hb2 HB1.out.lt)
  have y0 : w2.cell? ⟨w.heap.size, 0, none⟩ = some (.int .i64 rev) := HB2.out.cell 0
  have y1 : w2.cell? ⟨w.heap.size, 1, none⟩ = some (.slice aj nj cj) := HB2.out.cell 1
  have y2 : w2.cell? ⟨w.heap.size, 2, none⟩ = some (.slice an nn cn) := HB2.out.cell 2
  have y3 : w2.cell? ⟨w.heap.size, 3, none⟩ = some (.slice al nl cl) := HB2.out.cell 3
  obtain ⟨V1, V2, hV⟩ : ∃ V1 V2, fitsF ⟨rev, jobs, nodes, leases⟩ v = (V1, V2) := ⟨_, _, rfl⟩
  have HV := Lib.hid (hV.symm.trans Hval.out)
  rw [hV]
  clear hb2 hC1 HB1 hV Hval
  go_wp2_with fail
  refine Calls.mono (hC2.out w2 Hb2.out) ?_
  rintro e w3 ⟨rfl, hb3⟩
  have Hb3 := Lib.hid (Hb2.out.trans (hb3.mono Hb2.out.size))
  have HB3 := Lib.hid (HB2.out.below hb3 HB2.out.lt)
  clear hb3 y0 y1 y2 y3 HB2
  have y0 : w3.cell? ⟨w.heap.size, 0, none⟩ = some (.int .i64 rev) := HB3.out.cell 0
  have y1 : w3.cell? ⟨w.heap.size, 1, none⟩ = some (.slice aj nj cj) := HB3.out.cell 1
  have y2 : w3.cell? ⟨w.heap.size, 2, none⟩ = some (.slice an nn cn) := HB3.out.cell 2
  have y3 : w3.cell? ⟨w.heap.size, 3, none⟩ = some (.slice al nl cl) := HB3.out.cell 3
  obtain ⟨E, hE⟩ : ∃ E, checkE ⟨rev, jobs, nodes, leases⟩ = E := ⟨_, rfl⟩
  rw [hE] at HV ⊢
  by_cases he : E = 0
  rotate_left
  · have e1 : (E == 0) = false := beq_eq_false_iff_ne.2 he
    have e2 : (E != 0) = true := bne_iff_ne.2 he
    have hv := HV.out
    rw [if_pos he] at hv
    obtain ⟨rfl, rfl⟩ := Prod.mk.inj hv
    go_wp2_with fail
    refine Calls.mono (bad_any w3) ?_
    rintro e w4 ⟨rfl, hb4⟩
    go_wp2_with fail
    refine Calls.mono (scheck_bad w4 (HT.out.below (Hb3.out.trans (hb4.mono Hb3.out.size)))) ?_
    rintro e w5 ⟨rfl, hb5⟩
    have hb := Lib.hid ((Hb3.out.trans (hb4.mono Hb3.out.size)).trans (hb5.mono (Nat.le_trans Hb3.out.size hb4.size)))
    clear hb4 hb5
    go_wp2
    go_ret
    exact ⟨rfl, hb.out⟩
  subst he
  have hv := HV.out
  rw [if_neg (by simp)] at hv
  have HV2 := Lib.hid hv
  clear hv HV
  cases hr : ranged v 1 3
  · have hv := HV2.out
    rw [if_pos hr] at hv
    obtain ⟨rfl, rfl⟩ := Prod.mk.inj hv
    have hout := ranged_not.1 hr
    by_cases hlow : v < 1
    · have d1 : decide (v < 1) = true := decide_eq_true hlow
      go_wp2_with fail
      refine Calls.mono (bad_any w3) ?_
      rintro e w4 ⟨rfl, hb4⟩
      go_wp2_with fail
      refine Calls.mono (scheck_bad w4 (HT.out.below (Hb3.out.trans (hb4.mono Hb3.out.size)))) ?_
      rintro e w5 ⟨rfl, hb5⟩
      have hb := Lib.hid ((Hb3.out.trans (hb4.mono Hb3.out.size)).trans (hb5.mono (Nat.le_trans Hb3.out.size hb4.size)))
      clear hb4 hb5
      go_wp2
      go_ret
      exact ⟨rfl, hb.out⟩
    · have d1 : decide (v < 1) = false := decide_eq_false hlow
      have d2 : decide (3 < v) = true := decide_eq_true (by omega)
      go_wp2_with fail
      refine Calls.mono (bad_any w3) ?_
      rintro e w4 ⟨rfl, hb4⟩
      go_wp2_with fail
      refine Calls.mono (scheck_bad w4 (HT.out.below (Hb3.out.trans (hb4.mono Hb3.out.size)))) ?_
      rintro e w5 ⟨rfl, hb5⟩
      have hb := Lib.hid ((Hb3.out.trans (hb4.mono Hb3.out.size)).trans (hb5.mono (Nat.le_trans Hb3.out.size hb4.size)))
      clear hb4 hb5
      go_wp2
      go_ret
      exact ⟨rfl, hb.out⟩
  · have hv := HV2.out
    rw [if_neg (by rw [hr]; simp)] at hv
    obtain ⟨rfl, rfl⟩ := Prod.mk.inj hv
    have hin := ranged_iff.1 hr
    have d1 : decide (v < 1) = false := decide_eq_false (by omega)
    have d2 : decide (3 < v) = false := decide_eq_false (by omega)
    go_wp2_with fail
    refine Calls.mono (hC3.out hr w3 Hb3.out) ?_
    rintro e w4 ⟨rfl, hb4⟩
    have Hb4 := Lib.hid (Hb3.out.trans (hb4.mono Hb3.out.size))
    clear hb4
    generalize fitsE ⟨rev, jobs, nodes, leases⟩ v = U
    go_wp2_with fail
    refine Calls.mono (bad_any w4) ?_
    rintro e w6 ⟨rfl, hb6⟩
    have Hb6 := Lib.hid (Hb4.out.trans (hb6.mono Hb4.out.size))
    go_wp2_with fail
    refine Calls.mono (scheck_bad w6 (HT.out.below Hb6.out)) ?_
    rintro e w7 ⟨rfl, hb7⟩
    have hb := Lib.hid (Hb6.out.trans (hb7.mono Hb6.out.size))
    clear hb6 hb7
    go_wp2
    go_ret
    exact ⟨rfl, hb.out⟩
end Go.Proofs.YtonipllegfgdiaaDoor
