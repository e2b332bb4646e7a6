/- The walk of Fits in the reference. -/
import Derived.Test.YtbbagnfmoecdfaaGreatDoorFits
set_option linter.unusedVariables false
set_option linter.unusedSimpArgs false
namespace Go.Proofs.YtbbagnfmoecdfaaGreatDoor
open Go.RowKit
def RFJ (st : StateD) (x : StA) (v : Int) (w : World) (n : Nat) (i : Value) (wr : World) : Prop :=
  ∃ k : Nat, k ≤ n ∧ i = .int .i64 k ∧ (st.jobs.take k).all (okJ v) = true ∧ Below w.heap.size w wr ∧ Blk wr w.heap.size 30 (stC st x)
def RFN (st : StateD) (x : StA) (v : Int) (w : World) (n : Nat) (i : Value) (wr : World) : Prop :=
  ∃ k : Nat, k ≤ n ∧ i = .int .i64 k ∧ (st.nodes.take k).all (okN v) = true ∧ Below w.heap.size w wr ∧ Blk wr w.heap.size 30 (stC st x)
theorem all_false {α : Type} {p : α → Bool} {l : List α} {k : Nat} {x : α} (h : l[k]? = some x) (hp : p x = false) : l.all p = false := by
  rw [List.all_eq_false]
  exact ⟨x, List.mem_of_getElem? h, by rw [hp]; simp⟩
set_option maxRecDepth 100000 in
set_option maxHeartbeats 4000000 in
theorem rfits_any (st : StateD) (x : StA) (v : Int) (w : World) (hS : StAt w w.heap.size st x) (hv : ranged v 1 3 = true) :
    Calls Tryz.prog 136 #[.agg (stC st x), .int .i64 v] w fun e w' => e = .returned (.bool (fitsE st v)) ∧ Below w.heap.size w w' := by
  have HS := Lib.hid hS
  have Hb := Lib.hid (show Below w.heap.size w (w.alloc (.cells (stC st x) 30)) from (Below.refl _ _).alloc (Nat.le_refl _) _)
  have HB := Lib.hid (show Blk (w.alloc (.cells (stC st x) 30)) w.heap.size 30 (stC st x) from heap_alloc_new w _)
  obtain ⟨rev, jobs, nodes, leases⟩ := st
  obtain ⟨aj, nj, cj, an, nn, cn, al, nl, cl⟩ := x
  have hlj := HS.out.lj
  have hln := HS.out.ln
  have hbj := HS.out.bj
  have hbn := HS.out.bn
  simp only at hlj hln hbj hbn
  obtain ⟨F, hF⟩ : ∃ F, fitsE ⟨rev, jobs, nodes, leases⟩ v = F := ⟨_, rfl⟩
  rw [hF]
  have HF := Lib.hid (show ((decide (v = 3) || decide (rev = 0)) && jobs.all (okJ v) && nodes.all (okN v)) = F from hF)
  have hd : (decide (1 < v) = false ∧ decide (2 < v) = false ∧ decide (v = 3) = false ∧ decide (v < 3) = true ∧ decide (v < 2) = true) ∨ (decide (1 < v) = true ∧ decide (2 < v) = false ∧ decide (v = 3) = false ∧ decide (v < 3) = true ∧ decide (v < 2) = false) ∨ (decide (1 < v) = true ∧ decide (2 < v) = true ∧ decide (v = 3) = true ∧ decide (v < 3) = false ∧ decide (v < 2) = false) := by
    rcases ranged_v hv with rfl | rfl | rfl
    · exact .inl ⟨rfl, rfl, rfl, rfl, rfl⟩
    · exact .inr (.inl ⟨rfl, rfl, rfl, rfl, rfl⟩)
    · exact .inr (.inr ⟨rfl, rfl, rfl, rfl, rfl⟩)
  clear hS hF hv
  simp only [stC] at *
  by_cases hrev : rev = 0
  rotate_left
  all_goals rcases hd with ⟨d1, d2, d3, d4, d5⟩ | ⟨d1, d2, d3, d4, d5⟩ | ⟨d1, d2, d3, d4, d5⟩
  · have e1 : (rev == 0) = false := beq_eq_false_iff_ne.2 hrev
    have e2 : (rev != 0) = true := bne_iff_ne.2 hrev
    have h0 := Lib.hid (show false = F by rw [← HF.out, d3, decide_eq_false hrev]; rfl)
    go_enter Tryz.func136, Tryz.ntmps136
    go_wp2
    go_ret
    exact ⟨ret_bool h0.out, Hb.out⟩
  · have e1 : (rev == 0) = false := beq_eq_false_iff_ne.2 hrev
    have e2 : (rev != 0) = true := bne_iff_ne.2 hrev
    have h0 := Lib.hid (show false = F by rw [← HF.out, d3, decide_eq_false hrev]; rfl)
    go_enter Tryz.func136, Tryz.ntmps136
    go_wp2
    go_ret
    exact ⟨ret_bool h0.out, Hb.out⟩
  all_goals (
    have HG := Lib.hid (show (jobs.all (okJ v) && nodes.all (okN v)) = F by rw [← HF.out, d3]; simp [hrev])
    clear HF d3
    try subst hrev
    go_enter Tryz.func136, Tryz.ntmps136
    go_wp2
    go_loopw [4, 6, 19] (fun _ _ i wr => RFJ ⟨_, jobs, nodes, leases⟩ ⟨aj, nj, cj, an, nn, cn, al, nl, cl⟩ v w nj i wr) (fun _ _ i _ => nj - (intOf i).toNat)
    case atStart => exact ⟨0, Nat.zero_le _, rfl, by simp, Hb.out, HB.out⟩
    case round =>
      clear Hb HB
      obtain ⟨k, hk, rfl, hall, hb, hB⟩ := hrel
      have Hall := Lib.hid hall
      have Hb := Lib.hid hb
      have HB := Lib.hid hB
      have hsz := hb.size
      clear hall
      by_cases hlt : k < nj
      · obtain ⟨y, hf⟩ : ∃ y, jobs[k]? = some y := ⟨_, List.getElem?_eq_getElem (by omega)⟩
        obtain ⟨b, off, hao, hbB, hc⟩ := (HS.out.j.below hb).rec_ jobV_len hlj hf
        have hstep := Lib.hid (all_step (p := okJ v) hf)
        have hstop := Lib.hid (all_false (p := okJ v) hf)
        simp only at hao
        subst hao
        obtain ⟨name, prio, need, tries, tag⟩ := y
        have c0 : wr.cell? ⟨b, off + k * 5, none⟩ = some (.string name) := hc 0 _ rfl
        have c1 : wr.cell? ⟨b, off + k * 5 + 1, none⟩ = some (.int .i64 prio) := hc 1 _ rfl
        have c2 : wr.cell? ⟨b, off + k * 5 + 2, none⟩ = some (.int .i64 need) := hc 2 _ rfl
        have c3 : wr.cell? ⟨b, off + k * 5 + 3, none⟩ = some (.int .i64 tries) := hc 3 _ rfl
        have c4 : wr.cell? ⟨b, off + k * 5 + 4, none⟩ = some (.string tag) := hc 4 _ rfl
        have hlb : b < wr.heap.size := by omega
        have hba := Lib.hid (Hb.out.alloc Hb.out.size (.cells #[.string name, .int .i64 prio, .int .i64 need, .int .i64 tries, .string tag] 41))
        have hBa := Lib.hid (HB.out.alloc (.cells #[.string name, .int .i64 prio, .int .i64 need, .int .i64 tries, .string tag] 41))
        clear hc hf hb hB
        obtain ⟨a, ha⟩ : ∃ a, decide (tag.size = 0) = a := ⟨_, rfl⟩
        obtain ⟨q, hq⟩ : ∃ q, decide (tries = 0) = q := ⟨_, rfl⟩
        have hokv := Lib.hid (okJ_eq (j := ⟨name, prio, need, tries, tag⟩) ha hq d1 d2)
        have htag : (a = true ∧ tag = ⟨#[]⟩) ∨ (a = false ∧ (tag.toList == []) = false ∧ (tag.toList == ByteArray.toList ⟨#[]⟩) = false) := by
          by_cases h : tag.size = 0
          · exact .inl ⟨by rw [← ha]; exact decide_eq_true h, empty_of h⟩
          · exact .inr ⟨by rw [← ha]; exact decide_eq_false h, beq_nil h, beq_empty h⟩
        have htri : (q = true ∧ tries = 0) ∨ (q = false ∧ (tries == 0) = false ∧ (tries != 0) = true) := by
          by_cases h : tries = 0
          · exact .inl ⟨by rw [← hq]; exact decide_eq_true h, h⟩
          · exact .inr ⟨by rw [← hq]; exact decide_eq_false h, beq_eq_false_iff_ne.2 h, bne_iff_ne.2 h⟩
        clear ha hq
        rcases htag with ⟨rfl, rfl⟩ | ⟨rfl, t1, t2⟩
        all_goals rcases htri with ⟨rfl, rfl⟩ | ⟨rfl, r1, r2⟩
        all_goals go_wp2
        all_goals first
          | (go_ret
             exact ⟨ret_bool (by rw [← HG.out, hstop.out (by rw [hokv.out]; rfl)]; rfl), hba.out⟩)
          | (go_roundw
             case rel => exact ⟨k + 1, by omega, by go_num, by rw [hstep.out, Hall.out, hokv.out]; rfl, hba.out, hBa.out⟩
             case measure => simp [intOf]; omega)
      · have htk : jobs.all (okJ v) = true := by
          have := Hall.out
          rwa [show List.take k jobs = jobs from List.take_of_length_le (by omega)] at this
        have HG2 := Lib.hid (show nodes.all (okN v) = F by rw [← HG.out, htk]; rfl)
        have y2 : wr.cell? ⟨w.heap.size, 2, none⟩ = some (.slice an nn cn) := HB.out.cell 2
        clear htk hb hB HG
        go_wp2
        clear y2
        go_loopw [4, 8, 43] (fun _ _ i wr => RFN ⟨_, jobs, nodes, leases⟩ ⟨aj, nj, cj, an, nn, cn, al, nl, cl⟩ v w nn i wr) (fun _ _ i _ => nn - (intOf i).toNat)
        case atStart => exact ⟨0, Nat.zero_le _, rfl, by simp, Hb.out, HB.out⟩
        case round =>
          clear Hb HB Hall
          obtain ⟨m, hm, rfl, hall, hb, hB⟩ := hrel
          have Hall := Lib.hid hall
          have Hb := Lib.hid hb
          have HB := Lib.hid hB
          have hsz := hb.size
          clear hall
          by_cases hltm : m < nn
          · obtain ⟨y, hf⟩ : ∃ y, nodes[m]? = some y := ⟨_, List.getElem?_eq_getElem (by omega)⟩
            obtain ⟨b, off, hao, hbB, hc⟩ := (HS.out.n.below hb).rec_ nodeV_len hln hf
            have hstep := Lib.hid (all_step (p := okN v) hf)
            have hstop := Lib.hid (all_false (p := okN v) hf)
            simp only at hao
            subst hao
            obtain ⟨name, room, zone⟩ := y
            have c0 : wr.cell? ⟨b, off + m * 3, none⟩ = some (.string name) := hc 0 _ rfl
            have c1 : wr.cell? ⟨b, off + m * 3 + 1, none⟩ = some (.int .i64 room) := hc 1 _ rfl
            have c2 : wr.cell? ⟨b, off + m * 3 + 2, none⟩ = some (.string zone) := hc 2 _ rfl
            have hlb : b < wr.heap.size := by omega
            have hba := Lib.hid (Hb.out.alloc Hb.out.size (.cells #[.string name, .int .i64 room, .string zone] 43))
            have hBa := Lib.hid (HB.out.alloc (.cells #[.string name, .int .i64 room, .string zone] 43))
            clear hc hf hb hB
            obtain ⟨a, ha⟩ : ∃ a, decide (zone.size = 0) = a := ⟨_, rfl⟩
            have hokv := Lib.hid (okN_eq (n := ⟨name, room, zone⟩) ha d1)
            have htag : (a = true ∧ zone = ⟨#[]⟩) ∨ (a = false ∧ (zone.toList == []) = false ∧ (zone.toList == ByteArray.toList ⟨#[]⟩) = false) := by
              by_cases h : zone.size = 0
              · exact .inl ⟨by rw [← ha]; exact decide_eq_true h, empty_of h⟩
              · exact .inr ⟨by rw [← ha]; exact decide_eq_false h, beq_nil h, beq_empty h⟩
            clear ha
            rcases htag with ⟨rfl, rfl⟩ | ⟨rfl, t1, t2⟩
            all_goals go_wp2
            all_goals first
              | (go_ret
                 exact ⟨ret_bool (by rw [← HG2.out, hstop.out (by rw [hokv.out]; rfl)]), hba.out⟩)
              | (go_roundw
                 case rel => exact ⟨m + 1, by omega, by go_num, by rw [hstep.out, Hall.out, hokv.out]; rfl, hba.out, hBa.out⟩
                 case measure => simp [intOf]; omega)
          · have htk := Lib.hid (show true = F by
              rw [← HG2.out]
              have := Hall.out
              rw [show List.take m nodes = nodes from List.take_of_length_le (by omega)] at this
              exact this.symm)
            clear hb hB
            go_wp2
            go_ret
            exact ⟨ret_bool htk.out, Hb.out⟩)
end Go.Proofs.YtbbagnfmoecdfaaGreatDoor
