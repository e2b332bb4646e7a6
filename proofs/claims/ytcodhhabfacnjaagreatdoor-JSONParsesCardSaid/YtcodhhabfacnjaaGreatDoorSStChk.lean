/- Of the proof of a statement: StChk. -/
import Derived.Test.YtcodhhabfacnjaaGreatDoorSStAt
set_option linter.unusedVariables false
set_option linter.unusedSimpArgs false
/- The walk of check of a state. -/
namespace Go.Proofs.YtcodhhabfacnjaaGreatDoor
open Go.RowKit
set_option maxRecDepth 100000 in
set_option maxHeartbeats 2000000 in
theorem check_any (st : StateD) (x : StA) (w : World) (hS : StAt w w.heap.size st x) (hT : Tabs w) :
    Calls Tryz.prog 32 #[.agg (stC st x)] w (CkPost st w) := by
  have HS := Lib.hid hS
  have hb1 : Below w.heap.size w (w.alloc (.cells (stC st x) 26)) := (Below.refl _ _).alloc (Nat.le_refl _) _
  have hB1 : Blk (w.alloc (.cells (stC st x) 26)) w.heap.size 26 (stC st x) := heap_alloc_new w _
  have hbad := Lib.hid (fun (E : Int) (h : checkE st = E) (hE : E ≠ 0) w' => CkPost.bad (w := w) (w' := w') h hE)
  have Hb1 := Lib.hid hb1
  have HB1 := Lib.hid hB1
  have HT1 := Lib.hid (hT.below hb1)
  clear hb1 hB1 hS hT
  obtain ⟨rev, jobs, nodes, leases⟩ := st
  obtain ⟨aj, nj, cj, an, nn, cn, al, nl, cl⟩ := x
  simp only [stC] at *
  go_enter Tryz.func32, Tryz.ntmps32
  go_wp2_with fail
  refine Calls.mono (swithin_any _ _ _ _) ?_
  rintro e w0 ⟨rfl, rfl⟩
  cases hr : ranged rev 0 1099511627776
  · have hend := Lib.hid (hbad.out 1 (ck_rev hr) (by omega) _ Hb1.out)
    go_wp2
    go_ret2
    exact hend.out
  have hlj := HS.out.lj
  have hln := HS.out.ln
  have hll := HS.out.ll
  have hbj := HS.out.bj
  have hbn := HS.out.bn
  have hbl := HS.out.bl
  simp only at hlj hln hll hbj hbn hbl
  by_cases s1 : nj ≤ 40
  rotate_left
  · have hend := Lib.hid (hbad.out 2 (ck_large hr (by unfold sizesOk; rw [decide_eq_false (by simp only; omega)]; rfl)) (by omega) _ Hb1.out)
    have d1 : decide ((40 : Int) < (nj : Int)) = true := decide_eq_true (by omega)
    go_wp2
    go_ret2
    exact hend.out
  have d1 : decide ((40 : Int) < (nj : Int)) = false := decide_eq_false (by omega)
  by_cases s2 : nl ≤ 40
  rotate_left
  · have hend := Lib.hid (hbad.out 2 (ck_large hr (by unfold sizesOk; simp only; rw [decide_eq_false (p := leases.length ≤ 40) (by omega)]; simp)) (by omega) _ Hb1.out)
    have d2 : decide ((40 : Int) < (nl : Int)) = true := decide_eq_true (by omega)
    go_wp2
    go_ret2
    exact hend.out
  have d2 : decide ((40 : Int) < (nl : Int)) = false := decide_eq_false (by omega)
  by_cases s3 : nn ≤ 20
  rotate_left
  · have hend := Lib.hid (hbad.out 2 (ck_large hr (by unfold sizesOk; simp only; rw [decide_eq_false (p := nodes.length ≤ 20) (by omega)]; simp)) (by omega) _ Hb1.out)
    have d3 : decide ((20 : Int) < (nn : Int)) = true := decide_eq_true (by omega)
    go_wp2
    go_ret2
    exact hend.out
  have d3 : decide ((20 : Int) < (nn : Int)) = false := decide_eq_false (by omega)
  have hsz := Lib.hid (show sizesOk ⟨rev, jobs, nodes, leases⟩ = true by unfold sizesOk; simp; omega)
  have hS1 := Lib.hid ((HS.out.below Hb1.out).more Hb1.out.size)
  go_wp2_with fail
  refine Calls.mono (rowsJob_any jobs aj nj cj _ hS1.out.j hS1.out.lj hbj hS1.out.oj HT1.out) ?_
  rintro e w2 ⟨rfl, hb2⟩
  have Hb2 := Lib.hid (Hb1.out.trans (hb2.mono Hb1.out.size))
  have HB2 := Lib.hid (HB1.out.below hb2 HB1.out.lt)
  have HT2 := Lib.hid (HT1.out.below hb2)
  have y2 : w2.cell? ⟨w.heap.size, 2, none⟩ = some (.slice an nn cn) := HB2.out.cell 2
  clear d1 d2 d3 hb2 HT1 HB1
  obtain ⟨EJ, hEJ⟩ : ∃ E, rowsE jobE JobD.name jobs = E := ⟨_, rfl⟩
  rw [hEJ]
  by_cases he : EJ = 0
  rotate_left
  · have hend := Lib.hid (hbad.out EJ (by rw [ck_jobs hr hsz.out (by rw [hEJ]; exact he)]; exact hEJ) he _ Hb2.out)
    have e1 : (EJ == 0) = false := beq_eq_false_iff_ne.2 he
    have e2 : (EJ != 0) = true := bne_iff_ne.2 he
    go_wp2
    go_ret2
    exact hend.out
  subst he
  have HEJ := Lib.hid hEJ
  clear hEJ
  have hS2 := Lib.hid ((HS.out.below Hb2.out).more Hb2.out.size)
  go_wp2_with fail
  refine Calls.mono (rowsNode_any nodes an nn cn _ hS2.out.n hS2.out.ln hbn hS2.out.on_ HT2.out) ?_
  rintro e w3 ⟨rfl, hb3⟩
  have Hb3 := Lib.hid (Hb2.out.trans (hb3.mono Hb2.out.size))
  have HB3 := Lib.hid (HB2.out.below hb3 HB2.out.lt)
  clear y2 hb3 HT2 HB2 hS2 hS1
  obtain ⟨EN, hEN⟩ : ∃ E, rowsE nodeE NodeD.name nodes = E := ⟨_, rfl⟩
  rw [hEN]
  by_cases he : EN = 0
  rotate_left
  · have hend := Lib.hid (hbad.out EN (by rw [ck_nodes hr hsz.out HEJ.out (by rw [hEN]; exact he)]; exact hEN) he _ Hb3.out)
    have e1 : (EN == 0) = false := beq_eq_false_iff_ne.2 he
    have e2 : (EN != 0) = true := bne_iff_ne.2 he
    go_wp2
    go_ret2
    exact hend.out
  subst he
  have HEN := Lib.hid hEN
  have Hrest := Lib.hid (ck_rest hr hsz.out HEJ.out hEN)
  clear hEN
  have hSl := HB3.out.lt
  have hmk := fun t W => run_makeMap (P := Tryz.prog) t W
  have z1 : (madeW w3).cell? ⟨w.heap.size, 1, none⟩ = some (.slice aj nj cj) := ((madeW_below w3).cell (p := ⟨w.heap.size, 1, none⟩) hSl).trans (HB3.out.cell 1)
  have HC0 := Lib.hid (show CkAt w (madeW w3) ⟨rev, jobs, nodes, leases⟩ ⟨aj, nj, cj, an, nn, cn, al, nl, cl⟩ w.heap.size (w3.heap.size + 1 + 1 + 1) w3.heap.size (w3.heap.size + 1) (w3.heap.size + 1 + 1) 0 0 0 noG noG noG from
    ⟨Hb3.out.trans ((madeW_below w3).mono Hb3.out.size), HB3.out.below (madeW_below w3) hSl, madeW_tabs w3⟩)
  have hw3 := Hb3.out.size
  clear HB3 Hb3
  unfold madeW at z1
  go_wp2
  clear z1 hmk
  go_loopw [8, 56] (fun _ i wr => L1Inv w wr ⟨rev, jobs, nodes, leases⟩ ⟨aj, nj, cj, an, nn, cn, al, nl, cl⟩ w3.heap.size nj i) (fun _ i _ => nj - (intOf i).toNat)
  case atStart => exact ⟨0, Nat.zero_le _, rfl, HC0.out⟩
  case round =>
    obtain ⟨k, hk, rfl, hC⟩ := hrel
    by_cases hlt : k < nj
    · obtain ⟨y, hf⟩ : ∃ y, jobs[k]? = some y := ⟨_, List.getElem?_eq_getElem (by omega)⟩
      obtain ⟨b, off, rfl, hbB, hc⟩ := (HS.out.j.below hC.below).rec_ jobV_len hlj hf
      have hso := Lib.hid (HS.out.oj y (List.mem_of_getElem? hf))
      have hstep := Lib.hid (jobG_step HEJ.out hf)
      obtain ⟨name, prio, need, tries, tag⟩ := y
      have c0 : wr.cell? ⟨b, off + k * 5, none⟩ = some (.string name) := hc 0 _ rfl
      have c1 : wr.cell? ⟨b, off + k * 5 + 1, none⟩ = some (.int .i64 prio) := hc 1 _ rfl
      have c2 : wr.cell? ⟨b, off + k * 5 + 2, none⟩ = some (.int .i64 need) := hc 2 _ rfl
      have c3 : wr.cell? ⟨b, off + k * 5 + 3, none⟩ = some (.int .i64 tries) := hc 3 _ rfl
      have c4 : wr.cell? ⟨b, off + k * 5 + 4, none⟩ = some (.string tag) := hc 4 _ rfl
      have hsz1 := hC.below.size
      have hlb : b < wr.heap.size := by omega
      have hb0 := ((Below.refl wr.heap.size wr).alloc (Nat.le_refl _) (.cells #[.string name, .int .i64 prio, .int .i64 need, .int .i64 tries, .string tag] 39)).drew
      have htab := hC.tabs.below hb0
      have hTl := hC.tabs.t.lt
      have t0 : (wr.alloc (.cells #[.string name, .int .i64 prio, .int .i64 need, .int .i64 tries, .string tag] 39)).cell? ⟨w3.heap.size + 1 + 1 + 1, 0, none⟩ = some (.map (some w3.heap.size)) := htab.t.cell 0
      obtain ⟨w5, hput, hm5, hg5⟩ := htab.m1.put Tryz.underlying104 (by unfold maxLen; omega) name hso.out.1 (.agg #[.string name, .int .i64 prio, .int .i64 need, .int .i64 tries, .string tag])
      have hnext := Lib.hid (show CkAt w w5 ⟨rev, jobs, nodes, leases⟩ ⟨some ⟨b, off, none⟩, nj, cj, an, nn, cn, al, nl, cl⟩ w.heap.size (w3.heap.size + 1 + 1 + 1) w3.heap.size (w3.heap.size + 1) (w3.heap.size + 1 + 1) (k + 1) 0 0 (jobG (jobs.take (k + 1))) noG noG from
        ⟨below_grown (hC.below.trans (hb0.mono hsz1)) hg5 (by omega), (hg5.block _ (by simp; omega) (by simp; omega)).trans (hC.box.below hb0 (by omega)), htab.setJobs hg5 (by omega) (by omega) (by omega) (hm5.congr (fun s => (hstep.out s).symm))⟩)
      clear hc hf hm5 hg5 htab hC hb0
      go_wp2
      go_region
      go_wp2
      go_roundw
      case rel => exact ⟨k + 1, by omega, by go_num, hnext.out⟩
      case measure => simp [intOf]; omega
    · obtain rfl : k = nj := by omega
      have htk : List.take k jobs = jobs := List.take_of_length_le (by omega)
      simp only [htk] at hC
      have hC1 := Lib.hid hC
      have y2 : wr.cell? ⟨w.heap.size, 2, none⟩ = some (.slice an nn cn) := hC.box.cell 2
      clear hC HC0 htk
      go_wp2
      clear y2
      go_loopw [10, 71] (fun _ i wr => L2Inv w wr ⟨rev, jobs, nodes, leases⟩ ⟨aj, k, cj, an, nn, cn, al, nl, cl⟩ w3.heap.size k nn i) (fun _ i _ => nn - (intOf i).toNat)
      case atStart => exact ⟨0, Nat.zero_le _, rfl, hC1.out⟩
      case round =>
        clear hC1
        obtain ⟨m, hm, rfl, hC⟩ := hrel
        by_cases hlt : m < nn
        · obtain ⟨y, hf⟩ : ∃ y, nodes[m]? = some y := ⟨_, List.getElem?_eq_getElem (by omega)⟩
          obtain ⟨b, off, rfl, hbB, hc⟩ := (HS.out.n.below hC.below).rec_ nodeV_len hln hf
          have hso := Lib.hid (HS.out.on_ y (List.mem_of_getElem? hf))
          have hstep := Lib.hid (nodeG_step HEN.out hf)
          obtain ⟨name, room, zone⟩ := y
          have c0 : wr.cell? ⟨b, off + m * 3, none⟩ = some (.string name) := hc 0 _ rfl
          have c1 : wr.cell? ⟨b, off + m * 3 + 1, none⟩ = some (.int .i64 room) := hc 1 _ rfl
          have c2 : wr.cell? ⟨b, off + m * 3 + 2, none⟩ = some (.string zone) := hc 2 _ rfl
          have hsz1 := hC.below.size
          have hlb : b < wr.heap.size := by omega
          have hb0 := ((Below.refl wr.heap.size wr).alloc (Nat.le_refl _) (.cells #[.string name, .int .i64 room, .string zone] 43)).drew
          have htab := hC.tabs.below hb0
          have hTl := hC.tabs.t.lt
          have t0 : (wr.alloc (.cells #[.string name, .int .i64 room, .string zone] 43)).cell? ⟨w3.heap.size + 1 + 1 + 1, 1, none⟩ = some (.map (some (w3.heap.size + 1))) := htab.t.cell 1
          obtain ⟨w5, hput, hm5, hg5⟩ := htab.m2.put Tryz.underlying105 (by unfold maxLen; omega) name hso.out.1 (.agg #[.string name, .int .i64 room, .string zone])
          have hnext := Lib.hid (show CkAt w w5 ⟨rev, jobs, nodes, leases⟩ ⟨aj, k, cj, some ⟨b, off, none⟩, nn, cn, al, nl, cl⟩ w.heap.size (w3.heap.size + 1 + 1 + 1) w3.heap.size (w3.heap.size + 1) (w3.heap.size + 1 + 1) k (m + 1) 0 (jobG jobs) (nodeG (nodes.take (m + 1))) noG from
            ⟨below_grown (hC.below.trans (hb0.mono hsz1)) hg5 (by omega), (hg5.block _ (by simp; omega) (by simp; omega)).trans (hC.box.below hb0 (by omega)), htab.setNodes hg5 (by omega) (by omega) (by omega) (hm5.congr (fun s => (hstep.out s).symm))⟩)
          clear hc hf hm5 hg5 htab hC hb0
          go_wp2
          go_region
          go_wp2
          go_roundw
          case rel => exact ⟨m + 1, by omega, by go_num, hnext.out⟩
          case measure => simp [intOf]; omega
        · obtain rfl : m = nn := by omega
          have htk : List.take m nodes = nodes := List.take_of_length_le (by omega)
          simp only [htk] at hC
          have hC1 := Lib.hid hC
          have hsz1 := hC.below.size
          have hTl := hC.tabs.t.lt
          have y3 : wr.cell? ⟨w.heap.size, 3, none⟩ = some (.slice al nl cl) := hC.box.cell 3
          have hrow := Lib.hid (rowsLease_any ⟨rev, jobs, nodes, leases⟩ al nl cl wr (w3.heap.size + 1 + 1 + 1) w3.heap.size (w3.heap.size + 1) (w3.heap.size + 1 + 1) k m noG ((HS.out.l.below hC.below).more (by omega)) hll s2 HS.out.ol (needs_of HEJ.out) (by omega) (by omega) (by omega) (fun _ => rfl) hC.tabs)
          clear hC htk
          go_wp2_with fail
          refine Calls.mono hrow.out ?_
          rintro e w6 ⟨rfl, hg6, hz6⟩
          have hb6 := Lib.hid (below_grown hC1.out.below hg6 (by omega))
          have hbox6 := Lib.hid (show Blk w6 w.heap.size 26 _ from (hg6.block _ (by omega) (by simp; omega)).trans hC1.out.box)
          have hG6 := Lib.hid hg6
          have hZ6 := Lib.hid hz6
          clear hrow y3 hg6 hz6
          obtain ⟨R, hR⟩ : ∃ R, rowsE (leaseE ⟨rev, jobs, nodes, leases⟩) LeaseD.job leases = R := ⟨_, rfl⟩
          simp only [hR] at hZ6 ⊢
          rw [hR] at Hrest
          by_cases he : R = 0
          rotate_left
          · have hend := Lib.hid (hbad.out R (by rw [Hrest.out, if_pos he]) he _ hb6.out)
            have e1 : (R == 0) = false := beq_eq_false_iff_ne.2 he
            have e2 : (R != 0) = true := bne_iff_ne.2 he
            go_wp2
            go_ret2
            exact hend.out
          subst he
          obtain ⟨g3, hm3, hu3⟩ := hZ6.out rfl
          have hu3' := Lib.hid hu3
          have hC6 := Lib.hid (show CkAt w w6 ⟨rev, jobs, nodes, leases⟩ ⟨aj, k, cj, an, m, cn, al, nl, cl⟩ w.heap.size (w3.heap.size + 1 + 1 + 1) w3.heap.size (w3.heap.size + 1) (w3.heap.size + 1 + 1) k m nl (jobG jobs) (nodeG nodes) g3 from
            ⟨hb6.out, hbox6.out, hC1.out.tabs.used hG6.out (by omega) (by omega) (by omega) hm3⟩)
          have y2 : w6.cell? ⟨w.heap.size, 2, none⟩ = some (.slice an m cn) := hC6.out.box.cell 2
          clear hm3 hu3 hZ6 hG6 hbox6 hb6 hC1
          have Hck := Lib.hid (show checkE ⟨rev, jobs, nodes, leases⟩ = if roomOk ⟨rev, jobs, nodes, leases⟩ = true then 0 else 9 by rw [Hrest.out, if_neg (by simp)])
          clear Hrest hR
          go_wp2
          clear y2
          go_loopw [2, 3, 13, 94] (fun _ _ _ i wr => L3Inv w wr ⟨rev, jobs, nodes, leases⟩ ⟨aj, k, cj, an, m, cn, al, nl, cl⟩ w3.heap.size k m nl g3 m i) (fun _ _ _ i _ => m - (intOf i).toNat)
          case atStart => exact ⟨0, Nat.zero_le _, rfl, hC6.out, rfl⟩
          case round =>
            clear hC6
            obtain ⟨q, hq, rfl, hC, hroom⟩ := hrel
            have Hroom := Lib.hid hroom
            clear hroom
            by_cases hltq : q < m
            · obtain ⟨y, hf⟩ : ∃ y, nodes[q]? = some y := ⟨_, List.getElem?_eq_getElem (by omega)⟩
              obtain ⟨b, off, rfl, hbB, hc⟩ := (HS.out.n.below hC.below).rec_ nodeV_len hln hf
              have hso := Lib.hid (HS.out.on_ y (List.mem_of_getElem? hf))
              have hstep := Lib.hid (roomFrom_step (st := ⟨rev, jobs, nodes, leases⟩) hf)
              obtain ⟨name, room, zone⟩ := y
              have c0 : wr.cell? ⟨b, off + q * 3, none⟩ = some (.string name) := hc 0 _ rfl
              have c1 : wr.cell? ⟨b, off + q * 3 + 1, none⟩ = some (.int .i64 room) := hc 1 _ rfl
              have c2 : wr.cell? ⟨b, off + q * 3 + 2, none⟩ = some (.string zone) := hc 2 _ rfl
              have hszq := hC.below.size
              have hlb : b < wr.heap.size := by omega
              have hb0 := ((Below.refl wr.heap.size wr).alloc (Nat.le_refl _) (.cells #[.string name, .int .i64 room, .string zone] 43)).drew
              have htab := hC.tabs.below hb0
              have hTlq := hC.tabs.t.lt
              have t0 : (wr.alloc (.cells #[.string name, .int .i64 room, .string zone] 43)).cell? ⟨w3.heap.size + 1 + 1 + 1, 2, none⟩ = some (.map (some (w3.heap.size + 1 + 1))) := htab.t.cell 2
              have h3 := htab.m3.look Tryz.underlying106 (zeroInt _) name hso.out.1
              rw [hu3'.out name] at h3
              have hnext := Lib.hid (show CkAt w (wr.alloc (.cells #[.string name, .int .i64 room, .string zone] 43)).drew ⟨rev, jobs, nodes, leases⟩ ⟨aj, k, cj, some ⟨b, off, none⟩, m, cn, al, nl, cl⟩ w.heap.size (w3.heap.size + 1 + 1 + 1) w3.heap.size (w3.heap.size + 1) (w3.heap.size + 1 + 1) k m nl (jobG jobs) (nodeG nodes) g3 from
                ⟨hC.below.trans (hb0.mono hszq), hC.box.below hb0 (by omega), htab⟩)
              generalize usedE ⟨rev, jobs, nodes, leases⟩ name = U at h3 hstep
              clear hc hf htab hC hb0
              by_cases hU : U ≤ room
              · have d1 : decide (room < U) = false := decide_eq_false (by omega)
                have hok := Lib.hid (show roomFrom ⟨rev, jobs, nodes, leases⟩ (nodes.drop (q + 1)) = roomOk ⟨rev, jobs, nodes, leases⟩ by rw [← Hroom.out, hstep.out, decide_eq_true hU]; rfl)
                go_wp2
                go_region
                go_wp2
                go_roundw
                case rel => exact ⟨q + 1, by omega, by go_num, hnext.out, hok.out⟩
                case measure => simp [intOf]; omega
              · have d1 : decide (room < U) = true := decide_eq_true (by omega)
                have hbad9 := Lib.hid (show checkE ⟨rev, jobs, nodes, leases⟩ = 9 by
                  have : roomOk ⟨rev, jobs, nodes, leases⟩ = false := by rw [← Hroom.out, hstep.out, decide_eq_false hU]; rfl
                  rw [Hck.out, this]; rfl)
                go_wp2
                go_region
                go_wp2
                go_ret2
                exact hbad.out 9 hbad9.out (by omega) _ hnext.out.below
            · obtain rfl : q = m := by omega
              have hgood := Lib.hid (show checkE ⟨rev, jobs, nodes, leases⟩ = 0 by
                have : roomOk ⟨rev, jobs, nodes, leases⟩ = true := by rw [← Hroom.out, List.drop_of_length_le (by show nodes.length ≤ q; omega)]; rfl
                rw [Hck.out, if_pos this])
              have HC := Lib.hid hC
              clear hC
              go_wp2
              go_ret2
              exact ⟨HC.out.below, .inr ⟨hgood.out, _, _, _, _, _, _, _, g3, rfl, HC.out.tabs, hu3'.out⟩⟩
end Go.Proofs.YtcodhhabfacnjaaGreatDoor
