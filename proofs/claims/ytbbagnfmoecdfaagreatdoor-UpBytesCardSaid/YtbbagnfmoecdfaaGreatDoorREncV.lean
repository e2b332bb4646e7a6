/- The walks of the reference's Bytes and Encode of a state. -/
import Derived.Test.YtbbagnfmoecdfaaGreatDoorEnc
import Derived.Test.YtbbagnfmoecdfaaGreatDoorFitsR
import Derived.Test.YtbbagnfmoecdfaaGreatDoorSameR
set_option linter.unusedVariables false
set_option linter.unusedSimpArgs false
namespace Go.Proofs.YtbbagnfmoecdfaaGreatDoor
open Go.RowKit
set_option maxRecDepth 100000 in
set_option maxHeartbeats 4000000 in
theorem rbytes_any (st : StateD) (x : StA) (v : Int) (w : World) (hS : StAt w w.heap.size st x) (g : SGood st) :
    Calls Tryz.prog 137 #[.agg (stC st x), .int .i64 v] w (BsPost (wencL st v) w) := by
  have hb1 : Below w.heap.size w (w.alloc (.cells (stC st x) 30)) := (Below.refl _ _).alloc (Nat.le_refl _) _
  have hBS : Blk (w.alloc (.cells (stC st x) 30)) w.heap.size 30 (stC st x) := heap_alloc_new w _
  have hU := hS.up hb1
  have hl1 := hS.lj
  have hl2 := hS.ln
  have hl3 := hS.ll
  have HR := Lib.hid (rrows_any st.jobs st.nodes st.leases x.aj x.nj x.cj x.an x.nn x.cn x.al x.nl x.cl v (w.alloc (.cells (stC st x) 30)) hU.j hl1 (by have := g.nj; omega) g.jobs hU.n hl2 (by have := g.nn; omega) g.nodes hU.l hl3 (by have := g.nl; omega) g.leases)
  have HL := Lib.hid (show wencL st v = (if 2 < v then numL st.rev.toNat else []) ++ rowsL st.jobs st.nodes st.leases v from rfl)
  have g0 := g.r0
  have g1 := g.r1
  have hlen := rowsL_len g v
  have Hb1 := Lib.hid hb1
  have HBS := Lib.hid hBS
  clear hb1 hBS hU hS hl1 hl2 hl3 g
  obtain ⟨rev, jobs, nodes, leases⟩ := st
  obtain ⟨aj, nj, cj, an, nn, cn, al, nl, cl⟩ := x
  unfold stC at *
  dsimp only at *
  generalize hRR : rowsL jobs nodes leases v = RL at HR HL hlen
  have hsz2 : (bs RL).size ≤ 12000 := by rw [bs_size]; exact hlen
  generalize hbR : bs RL = T at HR hsz2
  have HT := Lib.hid hbR
  clear hRR hbR
  unfold BsPost at HR
  rw [HT.out] at HR
  go_enter Tryz.func137, Tryz.ntmps137
  go_wp2_with fail
  refine Calls.mono HR.out ?_
  rintro e w1 ⟨rfl, hb⟩
  have Hb := Lib.hid (Hb1.out.trans (hb.mono Hb1.out.size))
  have hB := HBS.out.below hb HBS.out.lt
  have y0 : w1.cell? ⟨w.heap.size, 0, none⟩ = some (.int .i64 rev) := hB.cell 0
  have hbl := hB.lt
  clear hb HR HBS hB
  by_cases h2 : 2 < v
  · have d2 : decide (2 < v) = true := decide_eq_true h2
    have hfin := Lib.hid (show bs (numL rev.toNat) ++ T = bs (wencL ⟨rev, jobs, nodes, leases⟩ v) from by rw [HL.out, if_pos h2, ← HT.out, bs_append])
    have hN := rnum_any rev w1 (by omega)
    have hs1 : (bs (numL rev.toNat)).size ≤ 17 := by rw [bs_size]; exact numL_len _
    generalize hn : bs (numL rev.toNat) = N at hs1 hfin
    unfold BsPost at hN
    rw [hn] at hN
    have HN := Lib.hid hN
    clear hN hn
    go_wp2_with fail
    refine Calls.mono HN.out ?_
    rintro e w2 ⟨rfl, hb⟩
    have Hb2 := Lib.hid (Hb.out.trans (hb.mono Hb.out.size))
    clear hb y0
    go_wp2
    go_ret
    exact ⟨ret_str hfin.out, Hb2.out⟩
  · have d2 : decide (2 < v) = false := decide_eq_false h2
    have hfin := Lib.hid (show T = bs (wencL ⟨rev, jobs, nodes, leases⟩ v) from by rw [HL.out, if_neg h2, ← HT.out, List.nil_append])
    go_wp2
    go_ret
    exact ⟨ret_str hfin.out, Hb.out⟩
set_option maxRecDepth 100000 in
set_option maxHeartbeats 4000000 in
theorem rencode_any (st : StateD) (x : StA) (v : Int) (w : World) (hS : StAt w w.heap.size st x) :
    Calls Tryz.prog 36 #[.agg (stC st x), .int .i64 v] w (EnPost st v w) := by
  have hb1 : Below w.heap.size w (w.alloc (.cells (stC st x) 30)) := (Below.refl _ _).alloc (Nat.le_refl _) _
  have hBS : Blk (w.alloc (.cells (stC st x) 30)) w.heap.size 30 (stC st x) := heap_alloc_new w _
  have HChk := Lib.hid (rcheck_any st x _ (hS.up hb1))
  have Hend := Lib.hid (fun s E (h : wencF st v = (s, E)) w' => EnPost.mk' (w := w) (w' := w') h)
  have HS := Lib.hid hS
  have Hb1 := Lib.hid hb1
  have HBS := Lib.hid hBS
  clear hb1 hBS hS
  obtain ⟨E, hE⟩ : ∃ E, checkE st = E := ⟨_, rfl⟩
  obtain ⟨fit, hfit⟩ : ∃ f, fitsE st v = f := ⟨_, rfl⟩
  have HE := Lib.hid hE
  have Hfit := Lib.hid hfit
  clear hE hfit
  obtain ⟨S, hSt⟩ : ∃ S, S = st := ⟨_, rfl⟩
  obtain ⟨X, hX⟩ : ∃ X, X = x := ⟨_, rfl⟩
  have HSt := Lib.hid hSt
  have HXx := Lib.hid hX
  obtain ⟨rev, jobs, nodes, leases⟩ := st
  obtain ⟨aj, nj, cj, an, nn, cn, al, nl, cl⟩ := x
  clear hSt hX
  unfold stC at *
  dsimp only at *
  go_enter Tryz.func36, Tryz.ntmps36
  go_wp2_with fail
  refine Calls.mono HChk.out ?_
  rintro e w1 ⟨rfl, hb⟩
  have HbA := Lib.hid (Hb1.out.trans (hb.mono Hb1.out.size))
  have HB1 := Lib.hid (HBS.out.below hb HBS.out.lt)
  have hbl := HB1.out.lt
  rw [HE.out]
  clear hb HChk HBS
  have y0 : w1.cell? ⟨w.heap.size, 0, none⟩ = some (.int .i64 rev) := HB1.out.cell 0
  have y1 : w1.cell? ⟨w.heap.size, 1, none⟩ = some (.slice aj nj cj) := HB1.out.cell 1
  have y2 : w1.cell? ⟨w.heap.size, 2, none⟩ = some (.slice an nn cn) := HB1.out.cell 2
  have y3 : w1.cell? ⟨w.heap.size, 3, none⟩ = some (.slice al nl cl) := HB1.out.cell 3
  by_cases h0 : E = 0
  rotate_left
  · have e2 : (E != 0) = true := bne_iff_ne.2 h0
    have hend := Lib.hid (Hend.out _ _ (by rw [wencF_check (by rw [HE.out]; exact h0), HE.out]) _ HbA.out)
    go_wp2
    go_ret2
    exact hend.out
  subst h0
  go_wp2_with fail
  refine Calls.mono (outside_any v 1 3 _) ?_
  rintro e w0 ⟨rfl, rfl⟩
  cases hr : ranged v 1 3
  · have hend := Lib.hid (Hend.out _ _ (wencF_arg HE.out hr) _ HbA.out)
    clear hr
    go_wp2
    go_ret2
    exact hend.out
  have Hr := Lib.hid hr
  have hF := rfits_any ⟨rev, jobs, nodes, leases⟩ ⟨aj, nj, cj, an, nn, cn, al, nl, cl⟩ v w1 (HS.out.up HbA.out) hr
  rw [Hfit.out] at hF
  unfold stC at hF
  dsimp only at hF
  have HF := Lib.hid hF
  clear hr hF
  go_wp2_with fail
  refine Calls.mono HF.out ?_
  rintro e w2 ⟨rfl, hb⟩
  have HbB := Lib.hid (HbA.out.trans (hb.mono HbA.out.size))
  have HB2 := Lib.hid (HB1.out.below hb HB1.out.lt)
  have hbl := HB2.out.lt
  clear hb y0 y1 y2 y3 HF HB1
  have y0 : w2.cell? ⟨w.heap.size, 0, none⟩ = some (.int .i64 rev) := HB2.out.cell 0
  have y1 : w2.cell? ⟨w.heap.size, 1, none⟩ = some (.slice aj nj cj) := HB2.out.cell 1
  have y2 : w2.cell? ⟨w.heap.size, 2, none⟩ = some (.slice an nn cn) := HB2.out.cell 2
  have y3 : w2.cell? ⟨w.heap.size, 3, none⟩ = some (.slice al nl cl) := HB2.out.cell 3
  cases fit
  · have hend := Lib.hid (Hend.out _ _ (wencF_form HE.out Hr.out Hfit.out) _ HbB.out)
    go_wp2
    go_ret2
    exact hend.out
  have hend := Lib.hid (Hend.out _ _ (wencF_ok HE.out Hr.out Hfit.out))
  have hC := rbytes_any ⟨rev, jobs, nodes, leases⟩ ⟨aj, nj, cj, an, nn, cn, al, nl, cl⟩ v w2 (HS.out.up HbB.out) (sgood HE.out)
  unfold stC at hC
  dsimp only at hC
  have HC := Lib.hid hC
  clear hC
  go_wp2_with fail
  refine Calls.mono HC.out ?_
  rintro e w3 ⟨rfl, hb⟩
  have Hfin := Lib.hid (hend.out _ (HbB.out.trans (hb.mono HbB.out.size)))
  clear hb
  go_wp2
  go_ret2
  exact Hfin.out
end Go.Proofs.YtbbagnfmoecdfaaGreatDoor
