/- Of the proof of a statement: DChkR. -/
import Derived.Shelf.Abstract
import Derived.Test.YtjgnnobccecpeaaGreatDoorRDChk
set_option linter.unusedVariables false
set_option linter.unusedSimpArgs false
set_option maxRecDepth 100000
set_option maxHeartbeats 8000000
/- The walk of DeltaCheck in the reference. -/
namespace Go.Proofs.YtjgnnobccecpeaaGreatDoor
open Go.Lib (hid)
open Go.RowKit
theorem firstE_last (e : Int) : firstE [e] = e := by unfold firstE; split <;> simp_all [firstE]
def RDInv (d : DeltaD) (x : DelA) (w : World) (n : Nat) (R : Int) (i : Value) (wr : World) : Prop :=
 ∃ k : Nat, k ≤ n ∧ i = .int .i64 k ∧ rowsFrom lsE LeaseD.job (prevK LeaseD.job d.leases k) (d.leases.drop k) = R ∧ Below w.heap.size w wr ∧ Blk wr w.heap.size 49 (dC d x)
theorem rdcheck_any (d : DeltaD) (x : DelA) (w : World) (hD : DelAt w w.heap.size d x) :
 Calls Tryz.prog 51 #[.agg (dC d x)] w (DCPost d w) := by
 have HS := hid hD
 have Hb1 := hid (show Below w.heap.size w (w.alloc (.cells (dC d x) 49)) from (Below.refl _ _).alloc (Nat.le_refl _) _)
 have HB1 := hid (show Blk (w.alloc (.cells (dC d x) 49)) w.heap.size 49 (dC d x) from heap_alloc_new w _)
 have hbad := hid (fun (E : Int) (h : deltaE d = E) w' => DCPost.mk' (w := w) (w' := w') h)
 clear hD
 obtain ⟨from_, to_, jobs, nodes, leases, gj, gn, gl⟩ := d
 obtain ⟨aj, nj, cj, an, nn, cn, al, nl, cl, agj, ngj, cgj, agn, ngn, cgn, agl, ngl, cgl⟩ := x
 have hlj := HS.out.lj
 have hln := HS.out.ln
 have hll := HS.out.ll
 have hlgj := HS.out.lgj
 have hlgn := HS.out.lgn
 have hlgl := HS.out.lgl
 have hbj := HS.out.bj
 have hbn := HS.out.bn
 have hbl := HS.out.bl
 have hbgj := HS.out.bgj
 have hbgn := HS.out.bgn
 have hbgl := HS.out.bgl
 simp only at hlj hln hll hlgj hlgn hlgl hbj hbn hbl hbgj hbgn hbgl
 simp only [dC] at *
 go_enter Tryz.func51, Tryz.ntmps51
 go_wp2_with fail
 refine Calls.mono (outside_any _ _ _ _) ?_
 rintro e w0 ⟨rfl, rfl⟩
 cases hr : ranged from_ 0 1099511627776
 · have hend := hid (hbad.out 1 (de_time (by unfold dTimes; simp only; rw [hr]; rfl)) _ Hb1.out)
   go_wp2
   go_ret
   exact hend.out
 have hr1 := ranged_iff.1 hr
 go_wp2_with fail
 refine Calls.mono (outside_any _ _ _ _) ?_
 rintro e w0 ⟨rfl, rfl⟩
 cases hr2 : ranged to_ 0 1099511627776
 · have hend := hid (hbad.out 1 (de_time (by
    have := ranged_not.1 hr2
    unfold dTimes
    simp only
    rw [hr]
    by_cases h : from_ < to_
    · rw [decide_eq_true h, decide_eq_false (by omega)]; rfl
    · rw [decide_eq_false h]; rfl)) _ Hb1.out)
   go_wp2
   go_ret
   exact hend.out
 have hr3 := ranged_iff.1 hr2
 by_cases hft : from_ < to_
 rotate_left
 · have hend := hid (hbad.out 1 (de_time (by unfold dTimes; simp only; rw [hr, decide_eq_false hft]; rfl)) _ Hb1.out)
   have d1 : decide (to_ ≤ from_) = true := decide_eq_true (by omega)
   go_wp2
   go_ret
   exact hend.out
 have d1 : decide (to_ ≤ from_) = false := decide_eq_false (by omega)
 have Htime := hid (show dTimes ⟨from_, to_, jobs, nodes, leases, gj, gn, gl⟩ = true by unfold dTimes; simp only; rw [hr, decide_eq_true hft, decide_eq_true hr3.2]; rfl)
 clear hr hr2
 by_cases s1 : nj ≤ 40
 rotate_left
 · have hend := hid (hbad.out 2 (de_large Htime.out (by unfold dSizes; simp; omega)) _ Hb1.out)
   have q1 : decide ((40 : Int) < (nj : Int)) = true := decide_eq_true (by omega)
   go_wp2
   go_ret
   exact hend.out
 have q1 : decide ((40 : Int) < (nj : Int)) = false := decide_eq_false (by omega)
 by_cases s2 : nl ≤ 40
 rotate_left
 · have hend := hid (hbad.out 2 (de_large Htime.out (by unfold dSizes; simp; omega)) _ Hb1.out)
   have q2 : decide ((40 : Int) < (nl : Int)) = true := decide_eq_true (by omega)
   go_wp2
   go_ret
   exact hend.out
 have q2 : decide ((40 : Int) < (nl : Int)) = false := decide_eq_false (by omega)
 by_cases s3 : ngj ≤ 40
 rotate_left
 · have hend := hid (hbad.out 2 (de_large Htime.out (by unfold dSizes; simp; omega)) _ Hb1.out)
   have q3 : decide ((40 : Int) < (ngj : Int)) = true := decide_eq_true (by omega)
   go_wp2
   go_ret
   exact hend.out
 have q3 : decide ((40 : Int) < (ngj : Int)) = false := decide_eq_false (by omega)
 by_cases s4 : ngl ≤ 40
 rotate_left
 · have hend := hid (hbad.out 2 (de_large Htime.out (by unfold dSizes; simp; omega)) _ Hb1.out)
   have q4 : decide ((40 : Int) < (ngl : Int)) = true := decide_eq_true (by omega)
   go_wp2
   go_ret
   exact hend.out
 have q4 : decide ((40 : Int) < (ngl : Int)) = false := decide_eq_false (by omega)
 by_cases s5 : nn ≤ 20
 rotate_left
 · have hend := hid (hbad.out 2 (de_large Htime.out (by unfold dSizes; simp; omega)) _ Hb1.out)
   have q5 : decide ((20 : Int) < (nn : Int)) = true := decide_eq_true (by omega)
   go_wp2
   go_ret
   exact hend.out
 have q5 : decide ((20 : Int) < (nn : Int)) = false := decide_eq_false (by omega)
 by_cases s6 : ngn ≤ 20
 rotate_left
 · have hend := hid (hbad.out 2 (de_large Htime.out (by unfold dSizes; simp; omega)) _ Hb1.out)
   have q6 : decide ((20 : Int) < (ngn : Int)) = true := decide_eq_true (by omega)
   go_wp2
   go_ret
   exact hend.out
 have q6 : decide ((20 : Int) < (ngn : Int)) = false := decide_eq_false (by omega)
 have Hrows := hid (de_rows Htime.out (show dSizes ⟨from_, to_, jobs, nodes, leases, gj, gn, gl⟩ = true by unfold dSizes; simp; omega))
 have hS1 := hid (HS.out.up Hb1.out)
 go_wp2_with fail
 refine Calls.mono (jobsCheck_any jobs aj nj cj _ hS1.out.j hlj hbj hS1.out.oj) ?_
 rintro e w2 ⟨rfl, hb2⟩
 have Hb2 := hid (Hb1.out.trans (hb2.mono Hb1.out.size))
 have HB2 := hid (HB1.out.below hb2 HB1.out.lt)
 clear d1 q1 q2 q3 q4 q5 q6 hb2 HB1 hS1
 have y3 : w2.cell? ⟨w.heap.size, 3, none⟩ = some (.slice an nn cn) := HB2.out.cell 3
 obtain ⟨E0, hE0⟩ : ∃ E, rowsE jobE JobD.name jobs = E := ⟨_, rfl⟩
 have Hr1 := hid (show deltaE ⟨from_, to_, jobs, nodes, leases, gj, gn, gl⟩ = firstE (E0 :: rowsE nodeE NodeD.name nodes :: rowsE lsE LeaseD.job leases :: goneE (fun s => (jobOf jobs s).isSome) gj :: goneE (fun s => (nodeOf nodes s).isSome) gn :: goneE (fun s => (leaseOf leases s).isSome) gl :: []) by rw [Hrows.out]; unfold dRows; simp only; rw [hE0])
 rw [hE0]
 clear hE0 Hrows
 by_cases he : E0 = 0
 rotate_left
 · have hend := hid (hbad.out E0 (by rw [Hr1.out, firstE_stop he]) _ Hb2.out)
   have e1 : (E0 == 0) = false := beq_eq_false_iff_ne.2 he
   have e2 : (E0 != 0) = true := bne_iff_ne.2 he
   go_wp2
   go_ret
   exact hend.out
 subst he
 have hS2 := hid (HS.out.up Hb2.out)
 go_wp2_with fail
 refine Calls.mono (nodesCheck_any nodes an nn cn _ hS2.out.n hln hbn hS2.out.on_) ?_
 rintro e w3 ⟨rfl, hb3⟩
 have Hb3 := hid (Hb2.out.trans (hb3.mono Hb2.out.size))
 have HB3 := hid (HB2.out.below hb3 HB2.out.lt)
 clear y3 hb3 HB2 hS2
 obtain ⟨E1, hE1⟩ : ∃ E, rowsE nodeE NodeD.name nodes = E := ⟨_, rfl⟩
 have Hr2 := hid (show deltaE ⟨from_, to_, jobs, nodes, leases, gj, gn, gl⟩ = firstE (E1 :: rowsE lsE LeaseD.job leases :: goneE (fun s => (jobOf jobs s).isSome) gj :: goneE (fun s => (nodeOf nodes s).isSome) gn :: goneE (fun s => (leaseOf leases s).isSome) gl :: []) by rw [Hr1.out, firstE_zero rfl, hE1])
 rw [hE1]
 clear hE1 Hr1
 by_cases he : E1 = 0
 rotate_left
 · have hend := hid (hbad.out E1 (by rw [Hr2.out, firstE_stop he]) _ Hb3.out)
   have e1 : (E1 == 0) = false := beq_eq_false_iff_ne.2 he
   have e2 : (E1 != 0) = true := bne_iff_ne.2 he
   go_wp2
   go_ret
   exact hend.out
 subst he
 obtain ⟨R, hR⟩ : ∃ R, rowsE lsE LeaseD.job leases = R := ⟨_, rfl⟩
 have HR := hid hR
 have Hr3 := hid (show deltaE ⟨from_, to_, jobs, nodes, leases, gj, gn, gl⟩ = firstE (R :: goneE (fun s => (jobOf jobs s).isSome) gj :: goneE (fun s => (nodeOf nodes s).isSome) gn :: goneE (fun s => (leaseOf leases s).isSome) gl :: []) by rw [Hr2.out, firstE_zero rfl, hR])
 have y4 : w3.cell? ⟨w.heap.size, 4, none⟩ = some (.slice al nl cl) := HB3.out.cell 4
 clear hR Hr2
 go_wp2
 clear y4
 go_loopw [2, 5, 6, 7, 74, 80] (fun _ _ _ _ i _ wr => RDInv ⟨from_, to_, jobs, nodes, leases, gj, gn, gl⟩ ⟨aj, nj, cj, an, nn, cn, al, nl, cl, agj, ngj, cgj, agn, ngn, cgn, agl, ngl, cgl⟩ w nl R i wr) (fun _ _ _ _ i _ _ => nl - (intOf i).toNat)
 case atStart => exact ⟨0, Nat.zero_le _, rfl, HR.out, Hb3.out, HB3.out⟩
 case round =>
  clear HB3 Hb3 Hb2
  obtain ⟨k, hk, rfl, hrow, hb, hB⟩ := hrel
  have Hrow := hid hrow
  have Hb := hid hb
  have HB := hid hB
  have hszr := hb.size
  clear hrow
  by_cases hlt : k < nl
  · obtain ⟨y, hf⟩ : ∃ y, leases[k]? = some y := ⟨_, List.getElem?_eq_getElem (by omega)⟩
    obtain ⟨b, off, hao, hbB, hc⟩ := (HS.out.l.below hb).rec_ leaseV_len hll hf
    have hso := hid (HS.out.ol y (List.mem_of_getElem? hf))
    have Hf := hid hf
    simp only at hao
    subst hao
    obtain ⟨E, hE⟩ : ∃ E, lsE y = E := ⟨_, rfl⟩
    have HE := hid hE
    obtain ⟨job, node, till⟩ := y
    obtain ⟨c0, c1, c2⟩ := rc3 hc
    have hlb : b < wr.heap.size := by omega
    have hb0 := (Below.refl wr.heap.size wr).alloc (Nat.le_refl _) (.cells #[.string job, .string node, .int .i64 till] 42)
    have HBa := hid (hB.below hb0 hB.lt)
    have Hba := hid (hb.trans (hb0.mono hszr))
    clear hc hf hb0 hb hB hE
    go_wp2_with fail
    refine Calls.mono (leaseCheck_any ⟨job, node, till⟩ _ hso.out.1 hso.out.2) ?_
    rintro e w5 ⟨rfl, hb5⟩
    have l0 : w5.cell? ⟨wr.heap.size, 0, none⟩ = some (.string job) := by rw [(bcell hb5).1 _ _ (by simp)]; simp [go_sem]
    have Hb5 := hid (Hba.out.trans (hb5.mono Hba.out.size))
    have HB5 := hid (HBa.out.below hb5 HBa.out.lt)
    have hl5 : wr.heap.size < w5.heap.size := by have := hb5.size; simp at this; omega
    rw [HE.out]
    clear hb5 c0 c1 c2
    by_cases he : E = 0
    rotate_left
    · have hst := hid (rows_err (E := lsE) (key := LeaseD.job) Hf.out (by rw [HE.out]; exact he))
      have h8 := hid (show R = E by rw [← Hrow.out, hst.out, HE.out])
      have hend := hid (hbad.out E (by rw [Hr3.out, firstE_stop (by rw [h8.out]; exact he), h8.out]) _ Hb5.out)
      have e1 : (E == 0) = false := beq_eq_false_iff_ne.2 he
      have e2 : (E != 0) = true := bne_iff_ne.2 he
      go_wp2
      go_ret
      exact hend.out
    subst he
    have y4 : w5.cell? ⟨w.heap.size, 4, none⟩ = some (.slice (some ⟨b, off, none⟩) nl cl) := HB5.out.cell 4
    have hB2 := hid Hb5.out.drew
    have HBd := hid (show Blk w5.drew w.heap.size 49 _ from HB5.out)
    by_cases hk0 : k = 0
    · subst hk0
      have hst := hid (rows_next (key := LeaseD.job) Hf.out HE.out (.inl rfl))
      go_wp2
      go_region
      go_wp2
      go_roundw
      case rel => exact ⟨1, by omega, by go_num, by rw [← hst.out]; exact Hrow.out, hB2.out, HBd.out⟩
      case measure => simp [intOf]; omega
    · obtain ⟨y, hy⟩ : ∃ y, leases[k - 1]? = some y := ⟨_, List.getElem?_eq_getElem (by omega)⟩
      obtain ⟨b', off', hbo, hbB', hp⟩ := (HS.out.l.below Hb5.out).rec_ leaseV_len hll hy
      obtain ⟨rfl, rfl⟩ : b = b' ∧ off = off' := by simpa using hbo
      have Hy := hid hy
      obtain ⟨job', node', till'⟩ := y
      have q0 : w5.cell? ⟨b, off + (k - 1) * 3, none⟩ = some (.string job') := hp 0 _ rfl
      clear hp hy
      have hkp : decide ((0 : Int) < (k : Int)) = true := decide_eq_true (by omega)
      have hkn : 0 < k := by omega
      obtain ⟨B, hB⟩ : ∃ B, Op.bytesLess job'.toList job.toList = B := ⟨_, rfl⟩
      have HL := hid hB
      cases B
      · have hst := hid (rows_order (key := LeaseD.job) Hf.out HE.out hk0 Hy.out HL.out)
        have h8 := hid (show R = 8 by rw [← Hrow.out, hst.out])
        have hend := hid (hbad.out 8 (by rw [Hr3.out, firstE_stop (by rw [h8.out]; omega), h8.out]) _ hB2.out)
        go_wp2
        go_region
        go_wp2
        go_ret
        exact hend.out
      · have hst := hid (rows_next (key := LeaseD.job) Hf.out HE.out (.inr ⟨_, Hy.out, HL.out⟩))
        go_wp2
        go_region
        go_wp2
        go_roundw
        case rel => exact ⟨k + 1, by omega, by go_num, by rw [← hst.out]; exact Hrow.out, hB2.out, HBd.out⟩
        case measure => simp [intOf]; omega
  · obtain rfl : k = nl := by omega
    have h8 : R = 0 := by rw [← Hrow.out]; exact rows_end (by show leases.length ≤ k; omega) _
    have Hr4 := hid (Hr3.out.trans (firstE_zero h8))
    have hmf : ∀ (fn : Fn) (first cap : Array Value) (w : World), (Instr.makeFunc fn first cap).run Tryz.prog w = .ok (.func fn first cap) w := fun _ _ _ _ => rfl
    have y5 : wr.cell? ⟨w.heap.size, 5, none⟩ = some (.slice agj ngj cgj) := HB.out.cell 5
    have hSr := hid (HS.out.up Hb.out)
    have hcJ := hid (fun s W (hW : Below wr.heap.size wr W) => isJob_any jobs s aj nj cj w.heap.size W (hSr.out.up hW).j hlj hbj ((hW.cell (p := ⟨w.heap.size, 2, none⟩) HB.out.lt).trans (HB.out.cell 2)))
    clear h8 hb hB Hrow Hr3 HR
    go_wp2_with fail
    refine Calls.mono (goneCheck_any (fun s => (jobOf jobs s).isSome) 146 (.pointer (some ⟨w.heap.size, 0, none⟩)) gj agj ngj cgj wr hSr.out.gj hlgj hbgj hSr.out.ogj (Go.Proofs.enters_of Tryz.func146 (by kernel_rfl) rfl) hcJ.out) ?_
    rintro e w4 ⟨rfl, hb4⟩
    have Hb4 := hid (Hb.out.trans (hb4.mono Hb.out.size))
    have HB4 := hid (HB.out.below hb4 HB.out.lt)
    clear hb4 y5 hSr hcJ
    obtain ⟨E3, hE3⟩ : ∃ E, goneE (fun s => (jobOf jobs s).isSome) gj = E := ⟨_, rfl⟩
    rw [hE3] at Hr4 ⊢
    clear hE3
    by_cases he : E3 = 0
    rotate_left
    · have hend := hid (hbad.out E3 (by rw [Hr4.out, firstE_stop he]) _ Hb4.out)
      have e1 : (E3 == 0) = false := beq_eq_false_iff_ne.2 he
      have e2 : (E3 != 0) = true := bne_iff_ne.2 he
      go_wp2
      go_ret
      exact hend.out
    subst he
    have Hr5 := hid (Hr4.out.trans (firstE_zero rfl))
    have y6 : w4.cell? ⟨w.heap.size, 6, none⟩ = some (.slice agn ngn cgn) := HB4.out.cell 6
    have hSr := hid (HS.out.up Hb4.out)
    have hcN := hid (fun s W (hW : Below w4.heap.size w4 W) => isNode_any nodes s an nn cn w.heap.size W (hSr.out.up hW).n hln hbn ((hW.cell (p := ⟨w.heap.size, 3, none⟩) HB4.out.lt).trans (HB4.out.cell 3)))
    clear Hr4
    go_wp2_with fail
    refine Calls.mono (goneCheck_any (fun s => (nodeOf nodes s).isSome) 147 (.pointer (some ⟨w.heap.size, 0, none⟩)) gn agn ngn cgn w4 hSr.out.gn hlgn hbgn hSr.out.ogn (Go.Proofs.enters_of Tryz.func147 (by kernel_rfl) rfl) hcN.out) ?_
    rintro e w5 ⟨rfl, hb5⟩
    have Hb5 := hid (Hb4.out.trans (hb5.mono Hb4.out.size))
    have HB5 := hid (HB4.out.below hb5 HB4.out.lt)
    clear hb5 y6 hSr hcN
    obtain ⟨E4, hE4⟩ : ∃ E, goneE (fun s => (nodeOf nodes s).isSome) gn = E := ⟨_, rfl⟩
    rw [hE4] at Hr5 ⊢
    clear hE4
    by_cases he : E4 = 0
    rotate_left
    · have hend := hid (hbad.out E4 (by rw [Hr5.out, firstE_stop he]) _ Hb5.out)
      have e1 : (E4 == 0) = false := beq_eq_false_iff_ne.2 he
      have e2 : (E4 != 0) = true := bne_iff_ne.2 he
      go_wp2
      go_ret
      exact hend.out
    subst he
    have Hr6 := hid ((Hr5.out.trans (firstE_zero rfl)).trans (firstE_last _))
    have y7 : w5.cell? ⟨w.heap.size, 7, none⟩ = some (.slice agl ngl cgl) := HB5.out.cell 7
    have hSr := hid (HS.out.up Hb5.out)
    have hcL := hid (fun s W (hW : Below w5.heap.size w5 W) => isLease_any leases s al k cl w.heap.size W (hSr.out.up hW).l hll hbl ((hW.cell (p := ⟨w.heap.size, 4, none⟩) HB5.out.lt).trans (HB5.out.cell 4)))
    clear Hr5
    go_wp2_with fail
    refine Calls.mono (goneCheck_any (fun s => (leaseOf leases s).isSome) 148 (.pointer (some ⟨w.heap.size, 0, none⟩)) gl agl ngl cgl w5 hSr.out.gl hlgl hbgl hSr.out.ogl (Go.Proofs.enters_of Tryz.func148 (by kernel_rfl) rfl) hcL.out) ?_
    rintro e w6 ⟨rfl, hb6⟩
    have hend := hid (hbad.out _ Hr6.out _ (Hb5.out.trans (hb6.mono Hb5.out.size)))
    clear hb6 y7 hSr hcL Hr6
    go_wp2
    go_ret
    exact hend.out
end Go.Proofs.YtjgnnobccecpeaaGreatDoor
