/- The walk of the law StateUsed. -/
import Derived.Test.YtonipllegfgdiaaDoorStUsed
import Derived.Test.YtonipllegfgdiaaDoorArgSt
namespace Go.Proofs.YtonipllegfgdiaaDoor
open Go.RowKit
theorem below_st {w w' : World} {st : StateD} {x : StA} (hS : StAt w w.heap.size st x) (hb : Below w.heap.size w w') : StAt w' w'.heap.size st x := (hS.below hb).more hb.size
set_option maxRecDepth 100000 in
set_option maxHeartbeats 2000000 in
theorem walkStateUsed (w : World) (st : StateD) (x : StA) (s : ByteArray) (h : StAt w w.heap.size st x ∧ StFull st) (hs : s.size ≤ maxLen) (hT : Tabs w) :
    Calls Tryd.prog 3 #[.agg (stC st x), .string s] w fun e w'' => e = .returned (.bool true) ∧ Below w.heap.size w w'' := by
  have hS := h.1
  have HS := Lib.hid hS
  have HT := Lib.hid hT
  have hb1 : Below w.heap.size w (w.alloc (.cells (stC st x) 26)) := (Below.refl _ _).alloc (Nat.le_refl _) _
  have hB1 : Blk (w.alloc (.cells (stC st x) 26)) w.heap.size 26 (stC st x) := heap_alloc_new w _
  have Hb1 := Lib.hid hb1
  have HB1 := Lib.hid hB1
  have hC1 := Lib.hid (sused_any st x s _ (below_st hS hb1) (hT.below hb1) hs)
  have hC2 := Lib.hid (fun w2 (hb : Below w.heap.size w w2) => rcheck_any st x w2 (below_st HS.out hb))
  have hneed : checkE st = 0 → NeedsOk st ∧ x.nl ≤ 40 := by
    intro h0
    unfold checkE at h0
    split at h0
    · omega
    · split at h0
      · omega
      · rename_i h1 h2
        split at h0
        · rename_i h3; exact absurd h0 h3
        · rename_i h3
          have hz : sizesOk st = true := by simpa using h2
          unfold sizesOk at hz
          simp only [Bool.and_eq_true, decide_eq_true_eq] at hz
          have := hS.ll
          exact ⟨needs_of (by simpa using h3), by omega⟩
  have Hneed := Lib.hid hneed
  have hval : sUsed st s = if checkE st ≠ 0 then (0, checkE st) else if (nodeOf st.nodes s).isSome = true then (usedE st s, 0) else (0, 6) := rfl
  have Hval := Lib.hid hval
  clear h hS hT hb1 hB1 hneed hval
  obtain ⟨rev, jobs, nodes, leases⟩ := st
  obtain ⟨aj, nj, cj, an, nn, cn, al, nl, cl⟩ := x
  simp only [stC] at *
  go_enter Tryd.func3, Tryd.ntmps3
  go_wp2_with fail
  refine Calls.mono hC1.out ?_
  rintro e w2 ⟨rfl, hb2⟩
  have Hb2 := Lib.hid (Hb1.out.trans (hb2.mono Hb1.out.size))
  have HB2 := Lib.hid (HB1.out.below hb2 HB1.out.lt)
  have y0 : w2.cell? ⟨w.heap.size, 0, none⟩ = some (.int .i64 rev) := HB2.out.cell 0
  have y1 : w2.cell? ⟨w.heap.size, 1, none⟩ = some (.slice aj nj cj) := HB2.out.cell 1
  have y2 : w2.cell? ⟨w.heap.size, 2, none⟩ = some (.slice an nn cn) := HB2.out.cell 2
  have y3 : w2.cell? ⟨w.heap.size, 3, none⟩ = some (.slice al nl cl) := HB2.out.cell 3
  obtain ⟨V1, V2, hV⟩ : ∃ V1 V2, sUsed ⟨rev, jobs, nodes, leases⟩ s = (V1, V2) := ⟨_, _, rfl⟩
  have HV := Lib.hid (hV.symm.trans Hval.out)
  rw [hV]
  clear hb2 hC1 HB1 hV Hval
  go_wp2_with fail
  refine Calls.mono (hC2.out w2 Hb2.out) ?_
  rintro e w3 ⟨rfl, hb3⟩
  have Hb3 := Lib.hid (Hb2.out.trans (hb3.mono Hb2.out.size))
  have HB3 := Lib.hid (HB2.out.below hb3 HB2.out.lt)
  clear hb3 y0 y1 y2 y3 HB2
  have y0 : w3.cell? ⟨w.heap.size, 0, none⟩ = some (.int .i64 rev) := HB3.out.cell 0
  have y1 : w3.cell? ⟨w.heap.size, 1, none⟩ = some (.slice aj nj cj) := HB3.out.cell 1
  have y2 : w3.cell? ⟨w.heap.size, 2, none⟩ = some (.slice an nn cn) := HB3.out.cell 2
  have y3 : w3.cell? ⟨w.heap.size, 3, none⟩ = some (.slice al nl cl) := HB3.out.cell 3
  obtain ⟨E, hE⟩ : ∃ E, checkE ⟨rev, jobs, nodes, leases⟩ = E := ⟨_, rfl⟩
  rw [hE] at Hneed HV ⊢
  by_cases he : E = 0
  rotate_left
  · have e1 : (E == 0) = false := beq_eq_false_iff_ne.2 he
    have e2 : (E != 0) = true := bne_iff_ne.2 he
    have hv := HV.out
    rw [if_pos he] at hv
    obtain ⟨rfl, rfl⟩ := Prod.mk.inj hv
    go_wp2_with fail
    refine Calls.mono (bad_any w3) ?_
    rintro e w4 ⟨rfl, hb4⟩
    go_wp2_with fail
    refine Calls.mono (scheck_bad w4 (HT.out.below (Hb3.out.trans (hb4.mono Hb3.out.size)))) ?_
    rintro e w5 ⟨rfl, hb5⟩
    have hb := Lib.hid ((Hb3.out.trans (hb4.mono Hb3.out.size)).trans (hb5.mono (Nat.le_trans Hb3.out.size hb4.size)))
    clear hb4 hb5
    go_wp2
    go_ret
    exact ⟨rfl, hb.out⟩
  subst he
  have hv := HV.out
  rw [if_neg (by simp)] at hv
  have HV2 := Lib.hid hv
  clear hv HV
  obtain ⟨hneed, h40⟩ := Hneed.out rfl
  have hS3 := Lib.hid (below_st HS.out Hb3.out)
  have hbn := HS.out.bn
  have hln := HS.out.ln
  simp only at hbn hln h40
  go_wp2_with fail
  refine Calls.mono (nodeAt_any nodes s an nn cn _ hS3.out.n hln hbn) ?_
  rintro e w4 ⟨i, rfl, hb4, hcase⟩
  have Hb4 := Lib.hid (Hb3.out.trans (hb4.mono Hb3.out.size))
  have HB4 := Lib.hid (HB3.out.below hb4 HB3.out.lt)
  clear hb4 y0 y1 y2 y3 hS3
  have y0 : w4.cell? ⟨w.heap.size, 0, none⟩ = some (.int .i64 rev) := HB4.out.cell 0
  have y1 : w4.cell? ⟨w.heap.size, 1, none⟩ = some (.slice aj nj cj) := HB4.out.cell 1
  have y2 : w4.cell? ⟨w.heap.size, 2, none⟩ = some (.slice an nn cn) := HB4.out.cell 2
  have y3 : w4.cell? ⟨w.heap.size, 3, none⟩ = some (.slice al nl cl) := HB4.out.cell 3
  rcases hcase with ⟨rfl, hno⟩ | ⟨m, n, rfl, -, hno⟩
  · have hv := HV2.out
    rw [show nodeOf nodes s = none from hno, if_neg (by simp)] at hv
    obtain ⟨rfl, rfl⟩ := Prod.mk.inj hv
    go_wp2_with fail
    refine Calls.mono (bad_any w4) ?_
    rintro e w5 ⟨rfl, hb5⟩
    have Hb5 := Lib.hid (Hb4.out.trans (hb5.mono Hb4.out.size))
    go_wp2_with fail
    refine Calls.mono (scheck_bad w5 (HT.out.below Hb5.out)) ?_
    rintro e w6 ⟨rfl, hb6⟩
    have hb := Lib.hid (Hb5.out.trans (hb6.mono Hb5.out.size))
    clear hb5 hb6
    go_wp2
    go_ret
    exact ⟨rfl, hb.out⟩
  · have hv := HV2.out
    rw [show nodeOf nodes s = some n from hno, if_pos (by simp)] at hv
    obtain ⟨rfl, rfl⟩ := Prod.mk.inj hv
    have hm0 : decide ((m : Int) < 0) = false := decide_eq_false (by omega)
    go_wp2_with fail
    refine Calls.mono (rused_any ⟨rev, jobs, nodes, leases⟩ ⟨aj, nj, cj, an, nn, cn, al, nl, cl⟩ s w4 (below_st HS.out Hb4.out) hneed h40) ?_
    rintro e w5 ⟨rfl, hb5⟩
    have Hb5 := Lib.hid (Hb4.out.trans (hb5.mono Hb4.out.size))
    clear hb5
    generalize usedE ⟨rev, jobs, nodes, leases⟩ s = U
    go_wp2_with fail
    refine Calls.mono (bad_any w5) ?_
    rintro e w6 ⟨rfl, hb6⟩
    have Hb6 := Lib.hid (Hb5.out.trans (hb6.mono Hb5.out.size))
    go_wp2_with fail
    refine Calls.mono (scheck_bad w6 (HT.out.below Hb6.out)) ?_
    rintro e w7 ⟨rfl, hb7⟩
    have hb := Lib.hid (Hb6.out.trans (hb7.mono Hb6.out.size))
    clear hb6 hb7
    go_wp2
    go_ret
    exact ⟨rfl, hb.out⟩
end Go.Proofs.YtonipllegfgdiaaDoor
