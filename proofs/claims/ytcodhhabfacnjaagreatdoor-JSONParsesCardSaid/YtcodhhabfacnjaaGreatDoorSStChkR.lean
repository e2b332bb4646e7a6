/- Of the proof of a statement: StChkR. -/
import Derived.Test.YtcodhhabfacnjaaGreatDoorSAt
set_option linter.unusedVariables false
set_option linter.unusedSimpArgs false
/- The walks of Used and Check in the reference. -/
namespace Go.Proofs.YtcodhhabfacnjaaGreatDoor
open Go.RowKit
def UInv (st : StateD) (x : StA) (s : ByteArray) (w : World) (n : Nat) (sum i : Value) (wr : World) : Prop :=
  ∃ k : Nat, k ≤ n ∧ i = .int .i64 k ∧ sum = .int .i64 (usedL st s (st.leases.take k)) ∧ Below w.heap.size w wr ∧ Blk wr w.heap.size 26 (stC st x)
theorem needOf_other {st : StateD} {l : LeaseD} {s : ByteArray} (h : l.node ≠ s) : needOf st l s = 0 := by unfold needOf; rw [if_neg h]
theorem needOf_none {st : StateD} {l : LeaseD} {s : ByteArray} (h : jobOf st.jobs l.job = none) : needOf st l s = 0 := by unfold needOf; rw [h]; split <;> rfl
theorem needOf_some {st : StateD} {l : LeaseD} {s : ByteArray} {j : JobD} (hn : l.node = s) (h : jobOf st.jobs l.job = some j) : needOf st l s = j.need := by unfold needOf; rw [if_pos hn, h]
set_option maxRecDepth 100000 in
set_option maxHeartbeats 2000000 in
theorem rused_any (st : StateD) (x : StA) (s : ByteArray) (w : World) (hS : StAt w w.heap.size st x) (hneed : NeedsOk st) (h40 : x.nl ≤ 40) :
    Calls Tryz.prog 65 #[.agg (stC st x), .string s] w fun e w' => e = .returned (.int .i64 (usedE st s)) ∧ Below w.heap.size w w' := by
  have HS := Lib.hid hS
  have hb1 : Below w.heap.size w (w.alloc (.cells (stC st x) 26)) := (Below.refl _ _).alloc (Nat.le_refl _) _
  have hB1 : Blk (w.alloc (.cells (stC st x) 26)) w.heap.size 26 (stC st x) := heap_alloc_new w _
  have Hb1 := Lib.hid hb1
  have HB1 := Lib.hid hB1
  have Hneed := Lib.hid hneed
  clear hb1 hB1 hS hneed
  obtain ⟨rev, jobs, nodes, leases⟩ := st
  obtain ⟨aj, nj, cj, an, nn, cn, al, nl, cl⟩ := x
  simp only [stC] at *
  have hlj := HS.out.lj
  have hll := HS.out.ll
  have hbj := HS.out.bj
  simp only at hlj hll hbj
  go_enter Tryz.func65, Tryz.ntmps65
  go_wp2
  go_loopw [5, 7, 8, 12, 20] (fun sum _ _ i _ wr => UInv ⟨rev, jobs, nodes, leases⟩ ⟨aj, nj, cj, an, nn, cn, al, nl, cl⟩ s w nl sum i wr) (fun _ _ _ i _ _ => nl - (intOf i).toNat)
  case atStart => exact ⟨0, Nat.zero_le _, rfl, rfl, Hb1.out, HB1.out⟩
  case round =>
    obtain ⟨k, hk, rfl, rfl, hb, hB⟩ := hrel
    have Hb := Lib.hid hb
    have HB := Lib.hid hB
    have hsz := hb.size
    by_cases hlt : k < nl
    · obtain ⟨y, hf⟩ : ∃ y, leases[k]? = some y := ⟨_, List.getElem?_eq_getElem (by omega)⟩
      obtain ⟨b, off, rfl, hbB, hc⟩ := (HS.out.l.below hb).rec_ leaseV_len hll hf
      have hstep := Lib.hid (usedL_step ⟨rev, jobs, nodes, leases⟩ s hf)
      have hbnd := Lib.hid (usedL_bound Hneed.out s (leases.take k))
      have hbl : (leases.take k).length ≤ 40 := by rw [List.length_take]; omega
      obtain ⟨job, node, till⟩ := y
      have c0 : wr.cell? ⟨b, off + k * 3, none⟩ = some (.string job) := hc 0 _ rfl
      have c1 : wr.cell? ⟨b, off + k * 3 + 1, none⟩ = some (.string node) := hc 1 _ rfl
      have c2 : wr.cell? ⟨b, off + k * 3 + 2, none⟩ = some (.int .i64 till) := hc 2 _ rfl
      have hlb : b < wr.heap.size := by omega
      have hb0 := (Below.refl wr.heap.size wr).alloc (Nat.le_refl _) (.cells #[.string job, .string node, .int .i64 till] 47)
      have HBa := Lib.hid (hB.below hb0 hB.lt)
      have y1 : (wr.alloc (.cells #[.string job, .string node, .int .i64 till] 47)).cell? ⟨w.heap.size, 1, none⟩ = some (.slice aj nj cj) := HBa.out.cell 1
      have Hba := Lib.hid (hb.trans (hb0.mono hsz))
      have hSj := Lib.hid ((HS.out.j.below Hba.out).more Hba.out.size)
      have hSl := hB.lt
      clear hc hf hb0 hb hB
      go_wp2_with fail
      refine Calls.mono (jobAt_any jobs job aj nj cj _ hSj.out hlj hbj) ?_
      rintro e w2 ⟨i, rfl, hb2, hcase⟩
      have z0 : w2.cell? ⟨wr.heap.size, 1, none⟩ = some (.string node) := by rw [(bcell hb2).1 _ _ (by simp)]; simp [go_sem]
      have hB2 := HBa.out.below hb2 HBa.out.lt
      have Hb2 := Lib.hid (Hba.out.trans (hb2.mono Hba.out.size))
      have HB2 := Lib.hid hB2
      have z1 : w2.cell? ⟨w.heap.size, 1, none⟩ = some (.slice aj nj cj) := hB2.cell 1
      generalize hu : usedL ⟨rev, jobs, nodes, leases⟩ s (leases.take k) = u at hstep hbnd ⊢
      have hu1 : 0 ≤ u ∧ u ≤ 40000000 := by have := hbnd.out; omega
      clear hu hbnd hb2 hB2 y1
      by_cases hs : node = s
      rotate_left
      · have e1 := beq_diff hs
        have hfin := Lib.hid (show usedL ⟨rev, jobs, nodes, leases⟩ s (leases.take (k + 1)) = u by rw [hstep.out, needOf_other hs, Int.add_zero])
        clear z1 hcase
        go_wp2
        go_roundw
        case rel => exact ⟨k + 1, by omega, by go_num, by rw [hfin.out], Hb2.out, HB2.out⟩
        case measure => simp [intOf]; omega
      have e1 := beq_same node
      rcases hcase with ⟨rfl, hjo⟩ | ⟨m, j, rfl, hjm, hjo⟩
      · have hfin := Lib.hid (show usedL ⟨rev, jobs, nodes, leases⟩ s (leases.take (k + 1)) = u by rw [hstep.out, needOf_none (l := ⟨job, node, till⟩) hjo, Int.add_zero])
        clear z1 hjo
        subst hs
        go_wp2
        go_roundw
        case rel => exact ⟨k + 1, by omega, by go_num, by rw [hfin.out], Hb2.out, HB2.out⟩
        case measure => simp [intOf]; omega
      · have hjn := Hneed.out j (List.mem_of_getElem? hjm)
        have hfin := Lib.hid (show usedL ⟨rev, jobs, nodes, leases⟩ s (leases.take (k + 1)) = u + j.need by rw [hstep.out, needOf_some (l := ⟨job, node, till⟩) hs hjo])
        obtain ⟨bj, oj, rfl, hbjB, hcj⟩ := (HS.out.j.below Hb2.out).rec_ jobV_len hlj hjm
        obtain ⟨hml, _⟩ := List.getElem?_eq_some_iff.1 hjm
        obtain ⟨name, prio, need, tries, tag⟩ := j
        have q2 : w2.cell? ⟨bj, oj + m * 5 + 2, none⟩ = some (.int .i64 need) := hcj 2 _ rfl
        simp only at hjn
        clear hjo hcj hjm
        subst hs
        have hm0 : decide ((0 : Int) ≤ (m : Int)) = true := decide_eq_true (by omega)
        go_wp2
        go_roundw
        case rel => exact ⟨k + 1, by omega, by go_num, by rw [hfin.out], Hb2.out, HB2.out⟩
        case measure => simp [intOf]; omega
    · have htk : leases.take k = leases := List.take_of_length_le (by omega)
      have fin := Lib.hid (show usedL ⟨rev, jobs, nodes, leases⟩ s (leases.take k) = usedE ⟨rev, jobs, nodes, leases⟩ s by rw [htk]; rfl)
      clear hb hB
      go_wp2
      go_ret
      exact ⟨ret_int fin.out, Hb.out⟩
end Go.Proofs.YtcodhhabfacnjaaGreatDoor
