/- Replies: what the program reads. -/
import Derived.Test.YtonipllegfgdiaaRq
import Derived.Test.YtonipllegfgdiaaRdr
set_option linter.unusedVariables false
set_option linter.unusedSimpArgs false
namespace Go.Proofs.Ytonipllegfgdiaa
open Go.RowKit
def rrF (b : ByteArray) : (Int × Int) × Int := match numP b with
  | .bad x => ((0, 0), (x : Int))
  | .ok n s => match numP s with
    | .bad x => ((0, 0), (x : Int))
    | .ok m t => if t.size ≠ 0 then ((0, 0), 4) else if replyOk n m = true then (((n : Int), (m : Int)), 0) else ((0, 0), 1)
def rrS (b : ByteArray) : RR Unit := ((numP b).st.bind fun _ s => numP s).st
theorem rr_cases (b : ByteArray) (hb : b.size ≤ RxMax) : (∃ x : Nat, x ≠ 0 ∧ endE (rrS b) = x ∧ rrF b = ((0, 0), (x : Int))) ∨
    (∃ n m s t, numP b = .ok n s ∧ numP s = .ok m t ∧ endE (rrS b) = 0 ∧ rrF b = if replyOk n m = true then (((n : Int), (m : Int)), 0) else ((0, 0), 1)) := by
  have g1 := numP_good hb
  unfold rrS rrF
  cases h1 : numP b with
  | bad x => rw [h1] at g1; exact .inl ⟨x, g1.1, rfl, rfl⟩
  | ok n s =>
    rw [h1] at g1
    have g2 := numP_good (s := s) (N := RxMax) g1
    cases h2 : numP s with
    | bad x =>
      rw [h2] at g2
      refine .inl ⟨x, g2.1, ?_, by simp only [h2]⟩
      show endE (((numP s)).st) = x
      rw [h2]; rfl
    | ok m t =>
      by_cases hz : t.size = 0
      · refine .inr ⟨n, m, s, t, rfl, h2, ?_, by simp only [h2]; rw [if_neg (by simp [hz])]⟩
        show endE (((numP s)).st) = 0
        rw [h2]; exact endE_ok0 hz
      · refine .inl ⟨4, by decide, ?_, by simp only [h2]; rw [if_pos hz]; rfl⟩
        show endE (((numP s)).st) = 4
        rw [h2]; exact endE_ok4 hz
theorem st_good' {σ : RR Unit} (h : σ.Good RxMax) : (σ.bind fun _ s => numP s).st.Good RxMax := (h.bind fun _ _ hr => numP_good hr).st
theorem rq_keep {w0 w w' : World} {b : Nat} (h : Below w0.heap.size w0 w) (hg : w.grownBy w' (some b)) (hb : w0.heap.size ≤ b) : Below w0.heap.size w0 w' :=
  ⟨hg.os.trans h.os, hg.tape.trans h.tape, hg.output.trans h.output, Nat.le_trans h.size hg.size, fun k hk => (hg.block k (Nat.lt_of_lt_of_le hk h.size) (by simp; omega)).trans (h.block k hk)⟩
theorem rqS_grow {w w' : World} {g b : Nat} {σ : RR Unit} (h : RxS w g σ) (hg : w.grownBy w' (some b)) (hne : g ≠ b) : RxS w' g σ := by
  cases σ with
  | ok u s => exact grow_blk hg h hne
  | bad x => obtain ⟨s, h1, h2⟩ := h; exact ⟨s, h1, grow_blk hg h2 hne⟩
theorem rq_bne_nil {s : ByteArray} (h : s.size ≠ 0) : (s.toList != []) = true := by unfold bne; rw [beq_nil h]; rfl
theorem rq_bne_empty {s : ByteArray} (h : s.size ≠ 0) : (s.toList != ByteArray.toList ⟨#[]⟩) = true := by unfold bne; rw [beq_empty h]; rfl
set_option maxRecDepth 100000 in
set_option maxHeartbeats 1000000 in
theorem rxEnd (g : Nat) (σ : RR Unit) (w : World) (h : RxS w g σ) (hσ : σ.Good RxMax) :
    Calls Try.prog 28 #[.pointer (some ⟨g, 0, none⟩)] w fun e w' => e = .returned (.int .i64 (endE σ : Int)) ∧ w.grownBy w' (some g) := by
  obtain ⟨s, x, hA, hx⟩ : ∃ (s : ByteArray) (x : Nat), RxAt w g s x ∧ ((x = 0 ∧ endE σ = (if s.size = 0 then 0 else 4)) ∨ (x ≠ 0 ∧ endE σ = x)) := by
    cases σ with
    | ok u s => exact ⟨s, 0, h, .inl ⟨rfl, rfl⟩⟩
    | bad x => obtain ⟨s, _, hA⟩ := h; exact ⟨s, x, hA, .inr ⟨hσ.1, rfl⟩⟩
  obtain ⟨E, hE⟩ : ∃ E, endE σ = E := ⟨_, rfl⟩
  rw [hE] at hx ⊢
  have y0 : w.cell? ⟨g, 0, none⟩ = some (.string s) := Blk.cell hA 0
  have y1 : w.cell? ⟨g, 1, none⟩ = some (.int .i64 (x : Int)) := Blk.cell hA 1
  have HA := Lib.hid hA
  clear h hE hA hσ
  by_cases hs : s.size = 0
  · obtain rfl := empty_of hs
    have hEx : E = x := by
      rcases hx with ⟨h1, h2⟩ | ⟨h1, h2⟩
      · rw [if_pos hs] at h2; omega
      · exact h2
    subst hEx
    clear hx hs
    go_enter Try.func28, Try.ntmps28
    go_wp2
    go_ret
    exact ⟨rfl, grow_refl _ _⟩
  · have e1 := rq_bne_nil hs
    have e2 := rq_bne_empty hs
    have e3 := isEmpty_no hs
    have hEx : (if x = 0 then 4 else x) = E := by
      rcases hx with ⟨h1, h2⟩ | ⟨h1, h2⟩
      · rw [if_neg hs] at h2; rw [if_pos h1]; exact h2.symm
      · rw [if_neg h1]; exact h2.symm
    have HEx := Lib.hid hEx
    clear hx hs hEx
    go_enter Try.func28, Try.ntmps28
    go_wp2_with fail
    refine Calls.mono (rxfail g s 4 x _ HA.out) ?_
    rintro e w1 ⟨rfl, hA2, hg2⟩
    rw [HEx.out] at hA2
    have x1 : w1.cell? ⟨g, 1, none⟩ = some (.int .i64 (E : Int)) := Blk.cell hA2 1
    clear hA2 y0 y1
    go_wp2
    go_ret
    exact ⟨rfl, hg2⟩
def RrPost (b : ByteArray) (w : World) (e : Ending) (w' : World) : Prop := e = .returned (.tuple #[.agg #[.int .i64 (rrF b).1.1, .int .i64 (rrF b).1.2], .int .i64 (rrF b).2]) ∧ Below w.heap.size w w'
set_option maxRecDepth 100000 in
set_option maxHeartbeats 2000000 in
theorem readreply_any (b : ByteArray) (w : World) (hb : b.size ≤ 9223372036854775807) : Calls Try.prog 11 #[.string b] w (RrPost b w) := by
  have hcs := rr_cases b hb
  have hb1 : Below w.heap.size w (w.alloc (.cells #[.int .i64 0, .int .i64 0] 34)) := (Below.refl _ _).alloc (Nat.le_refl _) _
  have hb2 := hb1.alloc hb1.size (.cells #[.string b, .int .i64 0] 62)
  have hR : Blk ((w.alloc (.cells #[.int .i64 0, .int .i64 0] 34)).alloc (.cells #[.string b, .int .i64 0] 62)) w.heap.size 34 #[.int .i64 0, .int .i64 0] := Blk.alloc (show Blk _ _ _ _ from heap_alloc_new w _) _
  have hX : RxS ((w.alloc (.cells #[.int .i64 0, .int .i64 0] 34)).alloc (.cells #[.string b, .int .i64 0] 62)) (w.heap.size + 1) (.ok () b) := by
    have h := heap_alloc_new (w.alloc (.cells #[.int .i64 0, .int .i64 0] 34)) (.cells #[.string b, .int .i64 0] 62)
    rw [show (w.alloc (.cells #[.int .i64 0, .int .i64 0] 34)).heap.size = w.heap.size + 1 by simp] at h
    exact h
  have H1 := Lib.hid (rxNumber (w.heap.size + 1) (.ok () b) _ hX hb)
  have g1 : (numP b).st.Good RxMax := (numP_good hb).st
  have g2 : (rrS b).Good RxMax := st_good' g1
  have Hcs := Lib.hid hcs
  have HR := Lib.hid hR
  have Hb2 := Lib.hid hb2
  have G1 := Lib.hid g1
  have G2 := Lib.hid g2
  clear hb1 hb2 hR hX hb hcs g1 g2
  unfold RrPost
  go_enter Try.func11, Try.ntmps11
  go_wp2_with fail
  refine Calls.mono H1.out ?_
  rintro e w1 ⟨a1, rfl, hv1, hs1, hg1⟩
  have hR1 := grow_blk hg1 HR.out (by omega)
  have hB1 := rq_keep Hb2.out hg1 (by omega)
  have hs1' : RxS w1 (w.heap.size + 1) (numP b).st := hs1
  have H2 := Lib.hid (rxNumber (w.heap.size + 1) _ w1 hs1' G1.out)
  have HR1 := Lib.hid hR1
  have HB1 := Lib.hid hB1
  have HV1 := Lib.hid (show RxVal (numP b) (fun n => n = 0) a1 from hv1)
  clear hv1 hs1 hg1 hR1 hB1 hs1' H1 HR Hb2
  go_wp2_with fail
  refine Calls.mono H2.out ?_
  rintro e w2 ⟨a2, rfl, hv2, hs2, hg2⟩
  have HV2 := Lib.hid hv2
  have hR2 := grow_blk hg2 HR1.out (by omega)
  have hB2 := rq_keep HB1.out hg2 (by omega)
  have hs2' : RxS w2 (w.heap.size + 1) (rrS b) := hs2
  have hA : Below w2.heap.size w2 (w2.alloc (.cells #[.int .i64 a1, .int .i64 a2] 34)) := (Below.refl _ _).alloc (Nat.le_refl _) _
  have hlt2 : w.heap.size + 1 < w2.heap.size := by
    cases hr : rrS b with
    | ok u s => rw [hr] at hs2'; exact Blk.lt hs2'
    | bad x => rw [hr] at hs2'; obtain ⟨s, _, h⟩ := hs2'; exact Blk.lt h
  have hD : Blk (w2.alloc (.cells #[.int .i64 a1, .int .i64 a2] 34)) w2.heap.size 34 #[.int .i64 a1, .int .i64 a2] := heap_alloc_new w2 _
  have H3 := Lib.hid (rxEnd (w.heap.size + 1) (rrS b) _ (rqS_grow hs2' (grow_below (w2.heap.size) hA) (by omega)) G2.out)
  have HR3 := Lib.hid (hR2.below hA hR2.lt)
  have HB3 := Lib.hid (hB2.trans (hA.mono hB2.size))
  have HD := Lib.hid hD
  clear hv2 hs2 hg2 hR2 hB2 hs2' hA hD H2 HR1 HB1
  go_wp2_with fail
  refine Calls.mono H3.out ?_
  rintro e w3 ⟨rfl, hg3⟩
  have hR3 := grow_blk hg3 HR3.out (by omega)
  have hD3 := grow_blk hg3 HD.out (by omega)
  have hB3 := rq_keep HB3.out hg3 (by omega)
  have HR4 := Lib.hid hR3
  have HD4 := Lib.hid hD3
  have HB4 := Lib.hid hB3
  have hrl := hR3.lt
  have hdl := hD3.lt
  clear hg3 H3 HR3 HD HB3 hR3 hD3 hB3
  rcases Hcs.out with ⟨x, hx0, hE, hF⟩ | ⟨n, m, s, t, hn, hm, hE, hF⟩
  · rw [hE]
    have HFx := Lib.hid hF
    clear hF hE Hcs
    have e1 : ((x : Int) == 0) = false := beq_eq_false_iff_ne.2 (by omega)
    have e2 : ((x : Int) != 0) = true := bne_iff_ne.2 (by omega)
    have u0 : w3.frozen? ⟨w.heap.size, 0, none⟩ = false := HR4.out.thaw 0
    have s0 : w3.cell? ⟨w.heap.size, 0, none⟩ = some (.int .i64 0) := HR4.out.cell 0
    have u1 : w3.frozen? ⟨w.heap.size, 1, none⟩ = false := HR4.out.thaw 1
    have s1 : w3.cell? ⟨w.heap.size, 1, none⟩ = some (.int .i64 0) := HR4.out.cell 1
    have hR9 := (Blk.eq ((Blk.eq (HR4.out.set 0 (.int .i64 0)) (show _ = #[.int .i64 0, .int .i64 0] from rfl)).set 1 (.int .i64 0)) (show _ = #[.int .i64 0, .int .i64 0] from rfl))
    have q0 := (show _ = (some (.int .i64 0) : Option Value) from hR9.cell 0)
    have q1 := (show _ = (some (.int .i64 0) : Option Value) from hR9.cell 1)
    have hG9 := (bes_set (bes_set (grow_refl w3 (w.heap.size)) 0 (.int .i64 0)) 1 (.int .i64 0))
    have Hend := Lib.hid (rq_keep HB4.out hG9 (Nat.le_refl _))
    clear hR9 hG9
    go_wp2
    exact bodyPost_ret (v := .tuple #[.agg #[.int .i64 0, .int .i64 0], .int .i64 (x : Int)]) (by simp [results, Try.results11, go_sem, *]) rfl ⟨by rw [HFx.out], Hend.out⟩
  · rw [hE]
    obtain rfl : a1 = n := by have := HV1.out; rw [hn] at this; exact this
    obtain rfl : a2 = m := by have := HV2.out; rw [show (numP b).st = .ok () s by rw [hn]; rfl] at this; rw [show ((RR.ok () s).bind fun _ s => numP s) = .ok m t from hm] at this; exact this
    have HF := Lib.hid hF
    have C := Lib.hid (isReply_any (a1 : Int) (a2 : Int) w3)
    clear hF hE hn hm HV1 HV2 Hcs
    have d0 : w3.cell? ⟨w2.heap.size, 0, none⟩ = some (.int .i64 (a1 : Int)) := HD4.out.cell 0
    have d1 : w3.cell? ⟨w2.heap.size, 1, none⟩ = some (.int .i64 (a2 : Int)) := HD4.out.cell 1
    go_wp2_with fail
    refine Calls.mono C.out ?_
    rintro e w4 ⟨rfl, hb4⟩
    have HR5 := Lib.hid (HR4.out.below hb4 hrl)
    have HD5 := Lib.hid (HD4.out.below hb4 hdl)
    have HB5 := Lib.hid (HB4.out.trans (hb4.mono HB4.out.size))
    have hrl5 := HR5.out.lt
    have hdl5 := HD5.out.lt
    clear hb4 d0 d1 HR4 HD4 HB4 C
    cases hok : replyOk (a1 : Int) (a2 : Int)
    · have HFx := Lib.hid (show rrF b = ((0, 0), 1) by rw [HF.out, hok]; rfl)
      clear hok
      have u0 : w4.frozen? ⟨w.heap.size, 0, none⟩ = false := HR5.out.thaw 0
      have s0 : w4.cell? ⟨w.heap.size, 0, none⟩ = some (.int .i64 0) := HR5.out.cell 0
      have u1 : w4.frozen? ⟨w.heap.size, 1, none⟩ = false := HR5.out.thaw 1
      have s1 : w4.cell? ⟨w.heap.size, 1, none⟩ = some (.int .i64 0) := HR5.out.cell 1
      have hR9 := (Blk.eq ((Blk.eq (HR5.out.set 0 (.int .i64 0)) (show _ = #[.int .i64 0, .int .i64 0] from rfl)).set 1 (.int .i64 0)) (show _ = #[.int .i64 0, .int .i64 0] from rfl))
      have q0 := (show _ = (some (.int .i64 0) : Option Value) from hR9.cell 0)
      have q1 := (show _ = (some (.int .i64 0) : Option Value) from hR9.cell 1)
      have hG9 := (bes_set (bes_set (grow_refl w4 (w.heap.size)) 0 (.int .i64 0)) 1 (.int .i64 0))
      have Hend := Lib.hid (rq_keep HB5.out hG9 (Nat.le_refl _))
      clear hR9 hG9
      go_wp2
      exact bodyPost_ret (v := .tuple #[.agg #[.int .i64 0, .int .i64 0], .int .i64 1]) (by simp [results, Try.results11, go_sem, *]) rfl ⟨by rw [HFx.out], Hend.out⟩
    · have HFx := Lib.hid (show rrF b = (((a1 : Int), (a2 : Int)), 0) by rw [HF.out, hok]; rfl)
      clear hok
      have d0 : w4.cell? ⟨w2.heap.size, 0, none⟩ = some (.int .i64 (a1 : Int)) := HD5.out.cell 0
      have d1 : w4.cell? ⟨w2.heap.size, 1, none⟩ = some (.int .i64 (a2 : Int)) := HD5.out.cell 1
      have u0 : w4.frozen? ⟨w.heap.size, 0, none⟩ = false := HR5.out.thaw 0
      have s0 : w4.cell? ⟨w.heap.size, 0, none⟩ = some (.int .i64 0) := HR5.out.cell 0
      have u1 : w4.frozen? ⟨w.heap.size, 1, none⟩ = false := HR5.out.thaw 1
      have s1 : w4.cell? ⟨w.heap.size, 1, none⟩ = some (.int .i64 0) := HR5.out.cell 1
      have hR9 := (Blk.eq ((Blk.eq (HR5.out.set 0 (.int .i64 (a1 : Int))) (show _ = #[.int .i64 (a1 : Int), .int .i64 0] from rfl)).set 1 (.int .i64 (a2 : Int))) (show _ = #[.int .i64 (a1 : Int), .int .i64 (a2 : Int)] from rfl))
      have q0 := (show _ = (some (.int .i64 (a1 : Int)) : Option Value) from hR9.cell 0)
      have q1 := (show _ = (some (.int .i64 (a2 : Int)) : Option Value) from hR9.cell 1)
      have hG9 := (bes_set (bes_set (grow_refl w4 (w.heap.size)) 0 (.int .i64 (a1 : Int))) 1 (.int .i64 (a2 : Int)))
      have Hend := Lib.hid (rq_keep HB5.out hG9 (Nat.le_refl _))
      clear hR9 hG9
      go_wp2
      exact bodyPost_ret (v := .tuple #[.agg #[.int .i64 (a1 : Int), .int .i64 (a2 : Int)], .int .i64 0]) (by simp [results, Try.results11, go_sem, *]) rfl ⟨by rw [HFx.out], Hend.out⟩
end Go.Proofs.Ytonipllegfgdiaa
