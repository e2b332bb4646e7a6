/- The walk of up.State. -/
import Derived.Test.YtonipllegfgdiaaDoorUpSteps
import Derived.Test.YtonipllegfgdiaaDoorWDec
set_option linter.unusedVariables false
set_option linter.unusedSimpArgs false
namespace Go.Proofs.YtonipllegfgdiaaDoor
open Go.RowKit
def UPost (st : StateD) (a b : Int) (w : World) (e : Ending) (w' : World) : Prop :=
  ∃ (st' : StateD) (x' : StA) (E : Int), e = .returned (.tuple #[.agg (stC st' x'), .int .i64 E]) ∧ upF st a b = (st', E) ∧ StAt w' w'.heap.size st' x' ∧ Below w.heap.size w w'
theorem UPost.none_ {st : StateD} {a b E : Int} {w w' : World} (h : upF st a b = (zeroSt, E)) (hb : Below w.heap.size w w') : UPost st a b w (.returned (.tuple #[.agg #[.int .i64 0, .slice none 0 0, .slice none 0 0, .slice none 0 0], .int .i64 E])) w' :=
  ⟨zeroSt, nilA, E, rfl, h, zeroAt _ _, hb⟩
theorem ck_sizes {st : StateD} (h : checkE st = 0) : st.jobs.length ≤ 40 ∧ st.nodes.length ≤ 20 ∧ st.leases.length ≤ 40 := by
  have hz : sizesOk st = true := by
    cases hr : ranged st.rev 0 1099511627776 with
    | false => rw [ck_rev hr] at h; exact absurd h (by decide)
    | true =>
      cases hs : sizesOk st with
      | true => rfl
      | false => rw [ck_large hr hs] at h; exact absurd h (by decide)
  unfold sizesOk at hz
  simp at hz
  omega
theorem upSt_ok {st : StateD} {a b : Int} (hj : JobsOk st.jobs) (hn : NodesOk st.nodes) : JobsOk (upSt st a b).jobs ∧ NodesOk (upSt st a b).nodes ∧ (upSt st a b).leases = st.leases := by
  refine ⟨?_, ?_, rfl⟩
  · show JobsOk (if a < 2 ∧ 1 < b then st.jobs.map (upJ st.leases) else st.jobs)
    split
    · intro y hy
      obtain ⟨x, hx, rfl⟩ := List.mem_map.1 hy
      exact hj x hx
    · exact hj
  · show NodesOk (if a < 2 ∧ 1 < b then st.nodes.map upN else st.nodes)
    split
    · intro y hy
      obtain ⟨x, hx, rfl⟩ := List.mem_map.1 hy
      exact ⟨(hn x hx).1, by show (1 : Nat) ≤ _; decide⟩
    · exact hn
set_option maxRecDepth 100000 in
set_option maxHeartbeats 4000000 in
theorem upstate_any (st : StateD) (x : StA) (a b : Int) (w : World) (hS : StAt w w.heap.size st x) (hT : Tabs w) :
    Calls Tryd.prog 21 #[.agg (stC st x), .int .i64 a, .int .i64 b] w (UPost st a b w) := by
  have hb1 : Below w.heap.size w (w.alloc (.cells (stC st x) 26)) := (Below.refl _ _).alloc (Nat.le_refl _) _
  have hb2 := hb1.alloc hb1.size (.cells #[.int .i64 0, .slice none 0 0, .slice none 0 0, .slice none 0 0] 26)
  have hBS : Blk ((w.alloc (.cells (stC st x) 26)).alloc (.cells #[.int .i64 0, .slice none 0 0, .slice none 0 0, .slice none 0 0] 26)) w.heap.size 26 (stC st x) := Blk.alloc (show Blk _ _ _ _ from heap_alloc_new w _) _
  have hBR : Blk ((w.alloc (.cells (stC st x) 26)).alloc (.cells #[.int .i64 0, .slice none 0 0, .slice none 0 0, .slice none 0 0] 26)) (w.heap.size + 1) 26 #[.int .i64 0, .slice none 0 0, .slice none 0 0, .slice none 0 0] := by
    have h := heap_alloc_new (w.alloc (.cells (stC st x) 26)) (.cells #[.int .i64 0, .slice none 0 0, .slice none 0 0, .slice none 0 0] 26)
    rwa [show (w.alloc (.cells (stC st x) 26)).heap.size = w.heap.size + 1 by simp] at h
  have HFit := Lib.hid (fits_any st x a _ (hS.up hb2) (hT.below hb2))
  have Hnone := Lib.hid (fun E (h : upF st a b = (zeroSt, E)) w' => UPost.none_ (w := w) (w' := w') h)
  have HS := Lib.hid hS
  have Hb2 := Lib.hid hb2
  have HBS := Lib.hid hBS
  have HBR := Lib.hid hBR
  clear hb1 hb2 hS hBS hBR hT
  obtain ⟨rev, jobs, nodes, leases⟩ := st
  obtain ⟨aj, nj, cj, an, nn, cn, al, nl, cl⟩ := x
  unfold stC at *
  dsimp only at *
  go_enter Tryd.func21, Tryd.ntmps21
  go_wp2_with fail
  refine Calls.mono (isway_any a b _) ?_
  rintro e w0 ⟨rfl, rfl⟩
  cases hway : isWayB a b
  · have Hend := Lib.hid (Hnone.out 1 (upF_way hway) _ Hb2.out)
    go_wp2
    refine bodyPost_ret (v := .tuple #[.agg #[.int .i64 0, .slice none 0 0, .slice none 0 0, .slice none 0 0], .int .i64 1]) (by simp [results, Tryd.results21, go_sem]) rfl ?_
    exact Hend.out
  have hw3 : 1 ≤ a ∧ a ≤ b ∧ b ≤ 3 := by unfold isWayB at hway; simp at hway; omega
  obtain ⟨ha1, hab, hb3⟩ := hw3
  have Hway := Lib.hid hway
  clear hway
  go_wp2_with fail
  refine Calls.mono HFit.out ?_
  rintro e w1 ⟨rfl, hb⟩
  have Hb1 := Lib.hid (Hb2.out.trans (hb.mono Hb2.out.size))
  have HB1 := Lib.hid (HBS.out.below hb HBS.out.lt)
  have HR1 := Lib.hid (HBR.out.below hb HBR.out.lt)
  have hbl := HB1.out.lt
  have hrl := HR1.out.lt
  have hF : fitsF ⟨rev, jobs, nodes, leases⟩ a = if checkE ⟨rev, jobs, nodes, leases⟩ ≠ 0 then (false, checkE ⟨rev, jobs, nodes, leases⟩) else (fitsE ⟨rev, jobs, nodes, leases⟩ a, 0) := by
    unfold fitsF
    rw [if_neg (c := ranged a 1 3 = false) (by rw [show ranged a 1 3 = true from ranged_iff.2 ⟨ha1, by omega⟩]; simp)]
  rw [hF]
  clear hF hb HFit HBS HBR
  obtain ⟨E, hE⟩ : ∃ E, checkE ⟨rev, jobs, nodes, leases⟩ = E := ⟨_, rfl⟩
  obtain ⟨fit, hfit⟩ : ∃ f, fitsE ⟨rev, jobs, nodes, leases⟩ a = f := ⟨_, rfl⟩
  have HE := Lib.hid hE
  have Hfit := Lib.hid hfit
  rw [hE, hfit]
  clear hE hfit
  have u0 : w1.frozen? ⟨w.heap.size + 1, 0, none⟩ = false := HR1.out.thaw 0
  have s0 : w1.cell? ⟨w.heap.size + 1, 0, none⟩ = some (.int .i64 0) := HR1.out.cell 0
  have u1 : w1.frozen? ⟨w.heap.size + 1, 1, none⟩ = false := HR1.out.thaw 1
  have s1 : w1.cell? ⟨w.heap.size + 1, 1, none⟩ = some (.slice none 0 0) := HR1.out.cell 1
  have u2 : w1.frozen? ⟨w.heap.size + 1, 2, none⟩ = false := HR1.out.thaw 2
  have s2 : w1.cell? ⟨w.heap.size + 1, 2, none⟩ = some (.slice none 0 0) := HR1.out.cell 2
  have u3 : w1.frozen? ⟨w.heap.size + 1, 3, none⟩ = false := HR1.out.thaw 3
  have s3 : w1.cell? ⟨w.heap.size + 1, 3, none⟩ = some (.slice none 0 0) := HR1.out.cell 3
  by_cases h0 : E = 0
  rotate_left
  · rw [if_pos h0]
    have e1 : (E == 0) = false := beq_eq_false_iff_ne.2 h0
    have e2 : (E != 0) = true := bne_iff_ne.2 h0
    have hR4 := (Blk.eq ((Blk.eq ((Blk.eq ((Blk.eq (HR1.out.set 0 (.int .i64 0)) (show _ = #[.int .i64 0, .slice none 0 0, .slice none 0 0, .slice none 0 0] from rfl)).set 1 (.slice none 0 0)) (show _ = #[.int .i64 0, .slice none 0 0, .slice none 0 0, .slice none 0 0] from rfl)).set 2 (.slice none 0 0)) (show _ = #[.int .i64 0, .slice none 0 0, .slice none 0 0, .slice none 0 0] from rfl)).set 3 (.slice none 0 0)) (show _ = #[.int .i64 0, .slice none 0 0, .slice none 0 0, .slice none 0 0] from rfl))
    have q0 := (show _ = (some (.int .i64 0) : Option Value) from hR4.cell 0)
    have q1 := (show _ = (some (.slice none 0 0) : Option Value) from hR4.cell 1)
    have q2 := (show _ = (some (.slice none 0 0) : Option Value) from hR4.cell 2)
    have q3 := (show _ = (some (.slice none 0 0) : Option Value) from hR4.cell 3)
    have hG4 := (bes_set (bes_set (bes_set (bes_set (grow_refl w1 (w.heap.size + 1)) 0 (.int .i64 0)) 1 (.slice none 0 0)) 2 (.slice none 0 0)) 3 (.slice none 0 0))
    have Hend := Lib.hid (Hnone.out E (by rw [upF_check Hway.out (by rw [HE.out]; exact h0), HE.out]) _ (grow_keep Hb1.out hG4 (by omega)))
    clear hR4 hG4
    go_wp2
    refine bodyPost_ret (v := .tuple #[.agg #[.int .i64 0, .slice none 0 0, .slice none 0 0, .slice none 0 0], .int .i64 E]) (by simp [results, Tryd.results21, go_sem, *]) rfl ?_
    exact Hend.out
  subst h0
  rw [if_neg (by simp)]
  cases fit
  · have hR4 := (Blk.eq ((Blk.eq ((Blk.eq ((Blk.eq (HR1.out.set 0 (.int .i64 0)) (show _ = #[.int .i64 0, .slice none 0 0, .slice none 0 0, .slice none 0 0] from rfl)).set 1 (.slice none 0 0)) (show _ = #[.int .i64 0, .slice none 0 0, .slice none 0 0, .slice none 0 0] from rfl)).set 2 (.slice none 0 0)) (show _ = #[.int .i64 0, .slice none 0 0, .slice none 0 0, .slice none 0 0] from rfl)).set 3 (.slice none 0 0)) (show _ = #[.int .i64 0, .slice none 0 0, .slice none 0 0, .slice none 0 0] from rfl))
    have q0 := (show _ = (some (.int .i64 0) : Option Value) from hR4.cell 0)
    have q1 := (show _ = (some (.slice none 0 0) : Option Value) from hR4.cell 1)
    have q2 := (show _ = (some (.slice none 0 0) : Option Value) from hR4.cell 2)
    have q3 := (show _ = (some (.slice none 0 0) : Option Value) from hR4.cell 3)
    have hG4 := (bes_set (bes_set (bes_set (bes_set (grow_refl w1 (w.heap.size + 1)) 0 (.int .i64 0)) 1 (.slice none 0 0)) 2 (.slice none 0 0)) 3 (.slice none 0 0))
    have Hend := Lib.hid (Hnone.out 4 (upF_form Hway.out HE.out Hfit.out) _ (grow_keep Hb1.out hG4 (by omega)))
    clear hR4 hG4
    go_wp2
    refine bodyPost_ret (v := .tuple #[.agg #[.int .i64 0, .slice none 0 0, .slice none 0 0, .slice none 0 0], .int .i64 4]) (by simp [results, Tryd.results21, go_sem, *]) rfl ?_
    exact Hend.out
  have hsz := ck_sizes HE.out
  have hl1 := HS.out.lj
  have hl2 := HS.out.ln
  have hl3 := HS.out.ll
  dsimp only at hsz hl1 hl2 hl3
  have HC := Lib.hid (steps_any ⟨rev, jobs, nodes, leases⟩ ⟨aj, nj, cj, an, nn, cn, al, nl, cl⟩ a b w1 (HS.out.up Hb1.out) (by dsimp only; omega) (by dsimp only; omega) (by dsimp only; omega) ha1 hab hb3 (fun h => by
    obtain rfl : a = 1 := by omega
    exact fits_tries Hfit.out))
  unfold stC at HC
  dsimp only at HC
  have b0 : w1.cell? ⟨w.heap.size, 0, none⟩ = some (.int .i64 rev) := HB1.out.cell 0
  have b1 : w1.cell? ⟨w.heap.size, 1, none⟩ = some (.slice aj nj cj) := HB1.out.cell 1
  have b2 : w1.cell? ⟨w.heap.size, 2, none⟩ = some (.slice an nn cn) := HB1.out.cell 2
  have b3 : w1.cell? ⟨w.heap.size, 3, none⟩ = some (.slice al nl cl) := HB1.out.cell 3
  go_wp2_with fail
  refine Calls.mono HC.out ?_
  rintro e w2 ⟨x', rfl, e1, e2, e3, hO, hb⟩
  obtain ⟨aj', nj', cj', an', nn', cn', al', nl', cl'⟩ := x'
  dsimp only at e1 e2 e3
  obtain ⟨rev', hrev⟩ : ∃ r, (upSt ⟨rev, jobs, nodes, leases⟩ a b).rev = r := ⟨_, rfl⟩
  unfold stC
  dsimp only
  rw [hrev]
  have hOk := upSt_ok (a := a) (b := b) HS.out.oj HS.out.on_
  have hR2 := HR1.out.below hb hrl
  have hrl2 := hR2.lt
  have HO := Lib.hid hO
  have HB2 := Lib.hid (Hb1.out.trans (hb.mono Hb1.out.size))
  clear b0 b1 b2 b3 s0 s1 s2 s3 u0 u1 u2 u3
  have u0 : w2.frozen? ⟨w.heap.size + 1, 0, none⟩ = false := hR2.thaw 0
  have s0 : w2.cell? ⟨w.heap.size + 1, 0, none⟩ = some (.int .i64 0) := hR2.cell 0
  have u1 : w2.frozen? ⟨w.heap.size + 1, 1, none⟩ = false := hR2.thaw 1
  have s1 : w2.cell? ⟨w.heap.size + 1, 1, none⟩ = some (.slice none 0 0) := hR2.cell 1
  have u2 : w2.frozen? ⟨w.heap.size + 1, 2, none⟩ = false := hR2.thaw 2
  have s2 : w2.cell? ⟨w.heap.size + 1, 2, none⟩ = some (.slice none 0 0) := hR2.cell 2
  have u3 : w2.frozen? ⟨w.heap.size + 1, 3, none⟩ = false := hR2.thaw 3
  have s3 : w2.cell? ⟨w.heap.size + 1, 3, none⟩ = some (.slice none 0 0) := hR2.cell 3
  have hR4 := (Blk.eq ((Blk.eq ((Blk.eq ((Blk.eq (hR2.set 0 (.int .i64 rev')) (show _ = #[.int .i64 rev', .slice none 0 0, .slice none 0 0, .slice none 0 0] from rfl)).set 1 (.slice aj' nj' cj')) (show _ = #[.int .i64 rev', .slice aj' nj' cj', .slice none 0 0, .slice none 0 0] from rfl)).set 2 (.slice an' nn' cn')) (show _ = #[.int .i64 rev', .slice aj' nj' cj', .slice an' nn' cn', .slice none 0 0] from rfl)).set 3 (.slice al' nl' cl')) (show _ = #[.int .i64 rev', .slice aj' nj' cj', .slice an' nn' cn', .slice al' nl' cl'] from rfl))
  have q0 := (show _ = (some (.int .i64 rev') : Option Value) from hR4.cell 0)
  have q1 := (show _ = (some (.slice aj' nj' cj') : Option Value) from hR4.cell 1)
  have q2 := (show _ = (some (.slice an' nn' cn') : Option Value) from hR4.cell 2)
  have q3 := (show _ = (some (.slice al' nl' cl') : Option Value) from hR4.cell 3)
  have hG4 := (bes_set (bes_set (bes_set (bes_set (grow_refl w2 (w.heap.size + 1)) 0 (.int .i64 rev')) 1 (.slice aj' nj' cj')) 2 (.slice an' nn' cn')) 3 (.slice al' nl' cl'))
  have hgo : StOwn _ w1.heap.size (upSt ⟨rev, jobs, nodes, leases⟩ a b) ⟨aj', nj', cj', an', nn', cn', al', nl', cl'⟩ := hO.grow hG4 hrl
  have hAt := hgo.at_ (by dsimp only; omega) (by dsimp only; omega) (by dsimp only; omega) hOk.1 hOk.2.1 (by rw [hOk.2.2]; exact HS.out.ol)
  have Hend := Lib.hid (show UPost ⟨rev, jobs, nodes, leases⟩ a b w (.returned (.tuple #[.agg #[.int .i64 rev', .slice aj' nj' cj', .slice an' nn' cn', .slice al' nl' cl'], .int .i64 0])) _ from ⟨upSt ⟨rev, jobs, nodes, leases⟩ a b, ⟨aj', nj', cj', an', nn', cn', al', nl', cl'⟩, 0, by rw [← hrev]; rfl, upF_ok Hway.out HE.out Hfit.out, hAt, grow_keep HB2.out hG4 (by omega)⟩)
  clear hb hO hgo hAt hR2 hR4 hG4 hOk hrev e1 e2 e3 HC
  go_wp2
  refine bodyPost_ret (v := .tuple #[.agg #[.int .i64 rev', .slice aj' nj' cj', .slice an' nn' cn', .slice al' nl' cl'], .int .i64 0]) (by simp [results, Tryd.results21, go_sem, *]) rfl ?_
  exact Hend.out
end Go.Proofs.YtonipllegfgdiaaDoor
