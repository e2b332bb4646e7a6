/- Of the proof of a statement: StChkS. -/
import Derived.Lib.QuietBelow
import Derived.Test.YtcodhhabfacnjaaGreatDoorSStChkR
set_option linter.unusedVariables false
set_option linter.unusedSimpArgs false
/- The walk of Check in the reference. -/
namespace Go.Proofs.YtcodhhabfacnjaaGreatDoor
open Go.RowKit
def RCPost (st : StateD) (w : World) (e : Ending) (w' : World) : Prop := e = .returned (.int .i64 (checkE st)) ∧ Below w.heap.size w w'
theorem RCPost.mk' {st : StateD} {w w' : World} {E : Int} (h : checkE st = E) (hb : Below w.heap.size w w') : RCPost st w (.returned (.int .i64 E)) w' := ⟨by rw [h], hb⟩
def RC1Inv (st : StateD) (x : StA) (w : World) (n : Nat) (R : Int) (i : Value) (wr : World) : Prop :=
  ∃ k : Nat, k ≤ n ∧ i = .int .i64 k ∧ rowsFrom (leaseE st) LeaseD.job (prevK LeaseD.job st.leases k) (st.leases.drop k) = R ∧ Below w.heap.size w wr ∧ Blk wr w.heap.size 26 (stC st x)
def RC2Inv (st : StateD) (x : StA) (w : World) (n : Nat) (i : Value) (wr : World) : Prop :=
  ∃ k : Nat, k ≤ n ∧ i = .int .i64 k ∧ roomFrom st (st.nodes.drop k) = roomOk st ∧ Below w.heap.size w wr ∧ Blk wr w.heap.size 26 (stC st x)
theorem leaseE_6 {st : StateD} {l : LeaseD} (h : (jobOf st.jobs l.job).isSome = false ∨ (nodeOf st.nodes l.node).isSome = false) : leaseE st l = 6 := by
  unfold leaseE
  rcases h with h | h <;> simp [h]
theorem leaseE_in {st : StateD} {l : LeaseD} (h1 : (jobOf st.jobs l.job).isSome = true) (h2 : (nodeOf st.nodes l.node).isSome = true) : leaseE st l = if ranged l.till 0 1099511627776 then 0 else 1 := by
  unfold leaseE; simp [h1, h2]
set_option maxRecDepth 100000 in
set_option maxHeartbeats 2000000 in
theorem rcheck_any (st : StateD) (x : StA) (w : World) (hS : StAt w w.heap.size st x) :
    Calls Tryz.prog 40 #[.agg (stC st x)] w (RCPost st w) := by
  have HS := Lib.hid hS
  have hb1 : Below w.heap.size w (w.alloc (.cells (stC st x) 26)) := (Below.refl _ _).alloc (Nat.le_refl _) _
  have hB1 : Blk (w.alloc (.cells (stC st x) 26)) w.heap.size 26 (stC st x) := heap_alloc_new w _
  have hbad := Lib.hid (fun (E : Int) (h : checkE st = E) w' => RCPost.mk' (w := w) (w' := w') h)
  have Hb1 := Lib.hid hb1
  have HB1 := Lib.hid hB1
  clear hb1 hB1 hS
  obtain ⟨rev, jobs, nodes, leases⟩ := st
  obtain ⟨aj, nj, cj, an, nn, cn, al, nl, cl⟩ := x
  simp only [stC] at *
  go_enter Tryz.func40, Tryz.ntmps40
  go_wp2_with fail
  refine Calls.mono (outside_any _ _ _ _) ?_
  rintro e w0 ⟨rfl, rfl⟩
  cases hr : ranged rev 0 1099511627776
  · have hend := Lib.hid (hbad.out 1 (ck_rev hr) _ Hb1.out)
    go_wp2
    go_ret
    exact hend.out
  have hlj := HS.out.lj
  have hln := HS.out.ln
  have hll := HS.out.ll
  have hbj := HS.out.bj
  have hbn := HS.out.bn
  have hbl := HS.out.bl
  simp only at hlj hln hll hbj hbn hbl
  by_cases s1 : nj ≤ 40
  rotate_left
  · have hend := Lib.hid (hbad.out 2 (ck_large hr (by unfold sizesOk; rw [decide_eq_false (by simp only; omega)]; rfl)) _ Hb1.out)
    have d1 : decide ((40 : Int) < (nj : Int)) = true := decide_eq_true (by omega)
    go_wp2
    go_ret
    exact hend.out
  have d1 : decide ((40 : Int) < (nj : Int)) = false := decide_eq_false (by omega)
  by_cases s2 : nl ≤ 40
  rotate_left
  · have hend := Lib.hid (hbad.out 2 (ck_large hr (by unfold sizesOk; simp only; rw [decide_eq_false (p := leases.length ≤ 40) (by omega)]; simp)) _ Hb1.out)
    have d2 : decide ((40 : Int) < (nl : Int)) = true := decide_eq_true (by omega)
    go_wp2
    go_ret
    exact hend.out
  have d2 : decide ((40 : Int) < (nl : Int)) = false := decide_eq_false (by omega)
  by_cases s3 : nn ≤ 20
  rotate_left
  · have hend := Lib.hid (hbad.out 2 (ck_large hr (by unfold sizesOk; simp only; rw [decide_eq_false (p := nodes.length ≤ 20) (by omega)]; simp)) _ Hb1.out)
    have d3 : decide ((20 : Int) < (nn : Int)) = true := decide_eq_true (by omega)
    go_wp2
    go_ret
    exact hend.out
  have d3 : decide ((20 : Int) < (nn : Int)) = false := decide_eq_false (by omega)
  have hsz := Lib.hid (show sizesOk ⟨rev, jobs, nodes, leases⟩ = true by unfold sizesOk; simp; omega)
  have hS1 := Lib.hid ((HS.out.below Hb1.out).more Hb1.out.size)
  go_wp2_with fail
  refine Calls.mono (jobsCheck_any jobs aj nj cj _ hS1.out.j hS1.out.lj hbj hS1.out.oj) ?_
  rintro e w2 ⟨rfl, hb2⟩
  have Hb2 := Lib.hid (Hb1.out.trans (hb2.mono Hb1.out.size))
  have HB2 := Lib.hid (HB1.out.below hb2 HB1.out.lt)
  have y2 : w2.cell? ⟨w.heap.size, 2, none⟩ = some (.slice an nn cn) := HB2.out.cell 2
  clear d1 d2 d3 hb2 HB1
  obtain ⟨EJ, hEJ⟩ : ∃ E, rowsE jobE JobD.name jobs = E := ⟨_, rfl⟩
  rw [hEJ]
  by_cases he : EJ = 0
  rotate_left
  · have hend := Lib.hid (hbad.out EJ (by rw [ck_jobs hr hsz.out (by rw [hEJ]; exact he)]; exact hEJ) _ Hb2.out)
    have e1 : (EJ == 0) = false := beq_eq_false_iff_ne.2 he
    have e2 : (EJ != 0) = true := bne_iff_ne.2 he
    go_wp2
    go_ret
    exact hend.out
  subst he
  have HEJ := Lib.hid hEJ
  clear hEJ
  have hS2 := Lib.hid ((HS.out.below Hb2.out).more Hb2.out.size)
  go_wp2_with fail
  refine Calls.mono (nodesCheck_any nodes an nn cn _ hS2.out.n hS2.out.ln hbn hS2.out.on_) ?_
  rintro e w3 ⟨rfl, hb3⟩
  have Hb3 := Lib.hid (Hb2.out.trans (hb3.mono Hb2.out.size))
  have HB3 := Lib.hid (HB2.out.below hb3 HB2.out.lt)
  clear y2 hb3 HB2 hS2 hS1
  obtain ⟨EN, hEN⟩ : ∃ E, rowsE nodeE NodeD.name nodes = E := ⟨_, rfl⟩
  rw [hEN]
  by_cases he : EN = 0
  rotate_left
  · have hend := Lib.hid (hbad.out EN (by rw [ck_nodes hr hsz.out HEJ.out (by rw [hEN]; exact he)]; exact hEN) _ Hb3.out)
    have e1 : (EN == 0) = false := beq_eq_false_iff_ne.2 he
    have e2 : (EN != 0) = true := bne_iff_ne.2 he
    go_wp2
    go_ret
    exact hend.out
  subst he
  have HEN := Lib.hid hEN
  have Hrest := Lib.hid (ck_rest hr hsz.out HEJ.out hEN)
  clear hEN
  obtain ⟨R, hR⟩ : ∃ R, rowsE (leaseE ⟨rev, jobs, nodes, leases⟩) LeaseD.job leases = R := ⟨_, rfl⟩
  have HR := Lib.hid hR
  have y3 : w3.cell? ⟨w.heap.size, 3, none⟩ = some (.slice al nl cl) := HB3.out.cell 3
  clear hR
  go_wp2
  clear y3
  go_loopw [2, 5, 6, 43, 52, 59, 64] (fun _ _ _ i _ _ _ wr => RC1Inv ⟨rev, jobs, nodes, leases⟩ ⟨aj, nj, cj, an, nn, cn, al, nl, cl⟩ w nl R i wr) (fun _ _ _ i _ _ _ _ => nl - (intOf i).toNat)
  case atStart => exact ⟨0, Nat.zero_le _, rfl, HR.out, Hb3.out, HB3.out⟩
  case round =>
    clear HB3 Hb3 Hb2
    obtain ⟨k, hk, rfl, hrow, hb, hB⟩ := hrel
    have Hrow := Lib.hid hrow
    have Hb := Lib.hid hb
    have HB := Lib.hid hB
    have hszr := hb.size
    clear hrow
    by_cases hlt : k < nl
    · obtain ⟨y, hf⟩ : ∃ y, leases[k]? = some y := ⟨_, List.getElem?_eq_getElem (by omega)⟩
      obtain ⟨b, off, hao, hbB, hc⟩ := (HS.out.l.below hb).rec_ leaseV_len hll hf
      have hso := Lib.hid (HS.out.ol y (List.mem_of_getElem? hf))
      have Hf := Lib.hid hf
      simp only at hao
      subst hao
      obtain ⟨job, node, till⟩ := y
      have c0 : wr.cell? ⟨b, off + k * 3, none⟩ = some (.string job) := hc 0 _ rfl
      have c1 : wr.cell? ⟨b, off + k * 3 + 1, none⟩ = some (.string node) := hc 1 _ rfl
      have c2 : wr.cell? ⟨b, off + k * 3 + 2, none⟩ = some (.int .i64 till) := hc 2 _ rfl
      have hlb : b < wr.heap.size := by omega
      have hb0 := (Below.refl wr.heap.size wr).alloc (Nat.le_refl _) (.cells #[.string job, .string node, .int .i64 till] 47)
      have HBa := Lib.hid (hB.below hb0 hB.lt)
      have Hba := Lib.hid (hb.trans (hb0.mono hszr))
      have hSa := Lib.hid ((HS.out.below Hba.out).more Hba.out.size)
      have y1 : (wr.alloc (.cells #[.string job, .string node, .int .i64 till] 47)).cell? ⟨w.heap.size, 1, none⟩ = some (.slice aj nj cj) := HBa.out.cell 1
      clear hc hf hb0 hb hB
      go_wp2_with fail
      refine Calls.mono (jobAt_any jobs job aj nj cj _ hSa.out.j hlj hbj) ?_
      rintro e w4 ⟨i, rfl, hb4, hcj⟩
      have l0 : w4.cell? ⟨wr.heap.size, 0, none⟩ = some (.string job) := by rw [(bcell hb4).1 _ _ (by simp)]; simp [go_sem]
      have l1 : w4.cell? ⟨wr.heap.size, 1, none⟩ = some (.string node) := by rw [(bcell hb4).1 _ _ (by simp)]; simp [go_sem]
      have l2 : w4.cell? ⟨wr.heap.size, 2, none⟩ = some (.int .i64 till) := by rw [(bcell hb4).1 _ _ (by simp)]; simp [go_sem]
      have hl4 : wr.heap.size < w4.heap.size := by have := hb4.size; simp at this; omega
      have Hb4 := Lib.hid (Hba.out.trans (hb4.mono Hba.out.size))
      have HB4 := Lib.hid (HBa.out.below hb4 HBa.out.lt)
      have hS4 := Lib.hid ((HS.out.below Hb4.out).more Hb4.out.size)
      clear y1 hb4 HBa Hba hSa c0 c1 c2
      have hcase : (i = -1 ∧ (jobOf jobs job).isSome = false) ∨ (0 ≤ i ∧ (jobOf jobs job).isSome = true) := by
        rcases hcj with ⟨h1, h2⟩ | ⟨m, j, h1, _, h3⟩
        · exact .inl ⟨h1, by rw [h2]; rfl⟩
        · exact .inr ⟨by omega, by rw [h3]; rfl⟩
      clear hcj
      rcases hcase with ⟨rfl, hj0⟩ | ⟨hi0, hj1⟩
      · have hE6 := leaseE_6 (st := ⟨rev, jobs, nodes, leases⟩) (l := ⟨job, node, till⟩) (.inl hj0)
        have hst := Lib.hid (rows_err (E := leaseE ⟨rev, jobs, nodes, leases⟩) (key := LeaseD.job) Hf.out (by rw [hE6]; omega))
        have h8 : R = 6 := by rw [← Hrow.out, hst.out, hE6]
        have hend := Lib.hid (hbad.out 6 (by rw [Hrest.out, HR.out, if_pos (by rw [h8]; omega), h8]) _ Hb4.out)
        clear hE6
        go_wp2
        go_ret
        exact hend.out
      have d0 : decide (i < 0) = false := decide_eq_false (by omega)
      have y2 : w4.cell? ⟨w.heap.size, 2, none⟩ = some (.slice an nn cn) := HB4.out.cell 2
      go_wp2_with fail
      refine Calls.mono (nodeAt_any nodes node an nn cn _ hS4.out.n hln hbn) ?_
      rintro e w5 ⟨i2, rfl, hb5, hcn⟩
      replace l0 := ((bcell hb5).1 _ _ hl4).trans l0
      replace l2 := ((bcell hb5).1 _ _ hl4).trans l2
      have Hb5 := Lib.hid (Hb4.out.trans (hb5.mono Hb4.out.size))
      have HB5 := Lib.hid (HB4.out.below hb5 HB4.out.lt)
      have hl5 : wr.heap.size < w5.heap.size := by have := hb5.size; omega
      have hcase : (i2 = -1 ∧ (nodeOf nodes node).isSome = false) ∨ (0 ≤ i2 ∧ (nodeOf nodes node).isSome = true) := by
        rcases hcn with ⟨h1, h2⟩ | ⟨m, j, h1, _, h3⟩
        · exact .inl ⟨h1, by rw [h2]; rfl⟩
        · exact .inr ⟨by omega, by rw [h3]; rfl⟩
      clear hcn hb5 y2 l1 HB4 Hb4 hS4
      rcases hcase with ⟨rfl, hj0⟩ | ⟨hi2, hn1⟩
      · have hE6 := leaseE_6 (st := ⟨rev, jobs, nodes, leases⟩) (l := ⟨job, node, till⟩) (.inr hj0)
        have hst := Lib.hid (rows_err (E := leaseE ⟨rev, jobs, nodes, leases⟩) (key := LeaseD.job) Hf.out (by rw [hE6]; omega))
        have h8 : R = 6 := by rw [← Hrow.out, hst.out, hE6]
        have hend := Lib.hid (hbad.out 6 (by rw [Hrest.out, HR.out, if_pos (by rw [h8]; omega), h8]) _ Hb5.out)
        clear hE6
        go_wp2
        go_ret
        exact hend.out
      have d2 : decide (i2 < 0) = false := decide_eq_false (by omega)
      have hE := Lib.hid (leaseE_in (st := ⟨rev, jobs, nodes, leases⟩) (l := ⟨job, node, till⟩) hj1 hn1)
      clear hj1 hn1
      go_wp2_with fail
      refine Calls.mono (outside_any _ _ _ _) ?_
      rintro e w6 ⟨rfl, rfl⟩
      cases hr2 : ranged till 0 1099511627776
      · have hE1 : leaseE ⟨rev, jobs, nodes, leases⟩ ⟨job, node, till⟩ = 1 := by rw [hE.out, hr2]; rfl
        have hst := Lib.hid (rows_err (E := leaseE ⟨rev, jobs, nodes, leases⟩) (key := LeaseD.job) Hf.out (by rw [hE1]; omega))
        have h8 : R = 1 := by rw [← Hrow.out, hst.out, hE1]
        have hend := Lib.hid (hbad.out 1 (by rw [Hrest.out, HR.out, if_pos (by rw [h8]; omega), h8]) _ Hb5.out)
        clear hE1
        go_wp2
        go_ret
        exact hend.out
      have hE0 := Lib.hid (show leaseE ⟨rev, jobs, nodes, leases⟩ ⟨job, node, till⟩ = 0 by rw [hE.out, hr2]; rfl)
      have y3 : w5.cell? ⟨w.heap.size, 3, none⟩ = some (.slice (some ⟨b, off, none⟩) nl cl) := HB5.out.cell 3
      have hB2 := Lib.hid Hb5.out.drew
      have HBd := Lib.hid (show Blk w5.drew w.heap.size 26 _ from HB5.out)
      by_cases hk0 : k = 0
      · subst hk0
        have hst := Lib.hid (rows_next (key := LeaseD.job) Hf.out hE0.out (.inl rfl))
        go_wp2
        go_region
        go_wp2
        go_roundw
        case rel => exact ⟨1, by omega, by go_num, by rw [← hst.out]; exact Hrow.out, hB2.out, HBd.out⟩
        case measure => simp [intOf]; omega
      · obtain ⟨y, hy⟩ : ∃ y, leases[k - 1]? = some y := ⟨_, List.getElem?_eq_getElem (by omega)⟩
        obtain ⟨b', off', hbo, hbB', hp⟩ := (HS.out.l.below Hb5.out).rec_ leaseV_len hll hy
        obtain ⟨rfl, rfl⟩ : b = b' ∧ off = off' := by simpa using hbo
        have Hy := Lib.hid hy
        obtain ⟨job', node', till'⟩ := y
        have q0 : w5.cell? ⟨b, off + (k - 1) * 3, none⟩ = some (.string job') := hp 0 _ rfl
        clear hp hy
        have hkp : decide ((0 : Int) < (k : Int)) = true := decide_eq_true (by omega)
        have hkn : 0 < k := by omega
        obtain ⟨B, hB⟩ : ∃ B, Op.bytesLess job'.toList job.toList = B := ⟨_, rfl⟩
        have HL := Lib.hid hB
        cases B
        · have hst := Lib.hid (rows_order (key := LeaseD.job) Hf.out hE0.out hk0 Hy.out HL.out)
          have h8 : R = 8 := by rw [← Hrow.out, hst.out]
          have hend := Lib.hid (hbad.out 8 (by rw [Hrest.out, HR.out, if_pos (by rw [h8]; omega), h8]) _ hB2.out)
          go_wp2
          go_region
          go_wp2
          go_ret
          exact hend.out
        · have hst := Lib.hid (rows_next (key := LeaseD.job) Hf.out hE0.out (.inr ⟨_, Hy.out, HL.out⟩))
          go_wp2
          go_region
          go_wp2
          go_roundw
          case rel => exact ⟨k + 1, by omega, by go_num, by rw [← hst.out]; exact Hrow.out, hB2.out, HBd.out⟩
          case measure => simp [intOf]; omega
    · obtain rfl : k = nl := by omega
      have h8 : R = 0 := by rw [← Hrow.out]; exact rows_end (by show leases.length ≤ k; omega) _
      have Hck := Lib.hid (show checkE ⟨rev, jobs, nodes, leases⟩ = if roomOk ⟨rev, jobs, nodes, leases⟩ = true then 0 else 9 by rw [Hrest.out, HR.out, if_neg (by simp [h8])])
      have y2 : wr.cell? ⟨w.heap.size, 2, none⟩ = some (.slice an nn cn) := HB.out.cell 2
      clear h8 hb hB Hrow Hrest HR
      go_wp2
      clear y2
      go_loopw [2, 8, 83, 90] (fun _ _ i _ wr => RC2Inv ⟨rev, jobs, nodes, leases⟩ ⟨aj, nj, cj, an, nn, cn, al, k, cl⟩ w nn i wr) (fun _ _ i _ _ => nn - (intOf i).toNat)
      case atStart => exact ⟨0, Nat.zero_le _, rfl, rfl, Hb.out, HB.out⟩
      case round =>
        clear Hb HB
        obtain ⟨q, hq, rfl, hroom, hb, hB⟩ := hrel
        have Hroom := Lib.hid hroom
        have Hb := Lib.hid hb
        have hszq := hb.size
        clear hroom
        by_cases hltq : q < nn
        · obtain ⟨y, hf⟩ : ∃ y, nodes[q]? = some y := ⟨_, List.getElem?_eq_getElem (by omega)⟩
          obtain ⟨b, off, hao, hbB, hc⟩ := (HS.out.n.below hb).rec_ nodeV_len hln hf
          have hstep := Lib.hid (roomFrom_step (st := ⟨rev, jobs, nodes, leases⟩) hf)
          simp only at hao
          subst hao
          obtain ⟨name, room, zone⟩ := y
          have c0 : wr.cell? ⟨b, off + q * 3, none⟩ = some (.string name) := hc 0 _ rfl
          have c1 : wr.cell? ⟨b, off + q * 3 + 1, none⟩ = some (.int .i64 room) := hc 1 _ rfl
          have c2 : wr.cell? ⟨b, off + q * 3 + 2, none⟩ = some (.string zone) := hc 2 _ rfl
          have hlb : b < wr.heap.size := by omega
          have hb0 := (Below.refl wr.heap.size wr).alloc (Nat.le_refl _) (.cells #[.string name, .int .i64 room, .string zone] 43)
          have HBa := hB.below hb0 hB.lt
          have hba := hb.trans (hb0.mono hszq)
          obtain ⟨w1, hw1⟩ : ∃ w1, wr.alloc (.cells #[.string name, .int .i64 room, .string zone] 43) = w1 := ⟨_, rfl⟩
          have x0 : w1.cell? ⟨wr.heap.size, 0, none⟩ = some (.string name) := by rw [← hw1]; simp [go_sem]
          have x1 : w1.cell? ⟨wr.heap.size, 1, none⟩ = some (.int .i64 room) := by rw [← hw1]; simp [go_sem]
          rw [hw1] at HBa hba
          have l0 := fun d os => cell_regrown x0 d os
          have l1 := fun d os => cell_regrown x1 d os
          have b0 := fun d os => cell_regrown (show w1.cell? ⟨w.heap.size, 0, none⟩ = some (.int .i64 rev) from HBa.cell 0) d os
          have b1 := fun d os => cell_regrown (show w1.cell? ⟨w.heap.size, 1, none⟩ = some (.slice aj nj cj) from HBa.cell 1) d os
          have b2 := fun d os => cell_regrown (show w1.cell? ⟨w.heap.size, 2, none⟩ = some (.slice (some ⟨b, off, none⟩) nn cn) from HBa.cell 2) d os
          have b3 := fun d os => cell_regrown (show w1.cell? ⟨w.heap.size, 3, none⟩ = some (.slice al k cl) from HBa.cell 3) d os
          have Hba := Lib.hid hba
          have HBB := Lib.hid HBa
          have hU := Lib.hid (fun d os => rused_any ⟨rev, jobs, nodes, leases⟩ ⟨aj, nj, cj, some ⟨b, off, none⟩, nn, cn, al, k, cl⟩ name (Sort.grow (redrawn w1 d) os)
            ((HS.out.below (hba.trans ((below_regrown w1 d os).mono hba.size))).more (Nat.le_trans hba.size (below_regrown w1 d os).size)) (needs_of HEJ.out) s2)
          have Hw1 := Lib.hid hw1
          clear hc hf hb0 HBa hba hb hB x0 x1 hw1
          go_wp2_with fail
          rw [Hw1.out]
          refine wp_region_quiet_below (by kernel_rfl) (by kernel_rfl) ?_
          repeat (go_big_quiet_step ((go_at_call 65; exact Calls.regrown_of (hU.out _ _))))
          refine wpQuiet_nil ?_
          intro _ hw'
          obtain ⟨⟨nq, osq⟩, hw''⟩ := hw'
          subst hw''
          have hb2 := Lib.hid (Hba.out.trans ((below_regrown w1 nq osq).mono Hba.out.size))
          have hB2 := Lib.hid (HBB.out.below (below_regrown w1 nq osq) HBB.out.lt)
          clear l0 l1 b0 b1 b2 b3 hU Hw1
          dsimp only
          generalize Sort.grow (redrawn w1 nq) osq = w2 at hb2 hB2 ⊢
          generalize usedE ⟨rev, jobs, nodes, leases⟩ name = U at hstep ⊢
          by_cases hU : U ≤ room
          · have d1 : decide (room < U) = false := decide_eq_false (by omega)
            have hok := Lib.hid (show roomFrom ⟨rev, jobs, nodes, leases⟩ (nodes.drop (q + 1)) = roomOk ⟨rev, jobs, nodes, leases⟩ by rw [← Hroom.out, hstep.out, decide_eq_true hU]; rfl)
            go_wp2
            go_roundw
            case rel => exact ⟨q + 1, by omega, by go_num, hok.out, hb2.out, hB2.out⟩
            case measure => simp [intOf]; omega
          · have d1 : decide (room < U) = true := decide_eq_true (by omega)
            have hend := Lib.hid (hbad.out 9 (by
              have : roomOk ⟨rev, jobs, nodes, leases⟩ = false := by rw [← Hroom.out, hstep.out, decide_eq_false hU]; rfl
              rw [Hck.out, this]; rfl) _ hb2.out)
            go_wp2
            go_ret
            exact hend.out
        · have hend := Lib.hid (hbad.out 0 (by
            have : roomOk ⟨rev, jobs, nodes, leases⟩ = true := by rw [← Hroom.out, List.drop_of_length_le (by show nodes.length ≤ q; omega)]; rfl
            rw [Hck.out, if_pos this]) _ Hb.out)
          clear hb hB
          go_wp2
          go_ret
          exact hend.out
end Go.Proofs.YtcodhhabfacnjaaGreatDoor
