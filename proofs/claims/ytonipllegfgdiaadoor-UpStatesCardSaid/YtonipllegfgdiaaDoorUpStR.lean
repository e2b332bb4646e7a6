/- The walk of the reference's UpState. -/
import Derived.Test.YtonipllegfgdiaaDoorRUp
import Derived.Test.YtonipllegfgdiaaDoorUpState
import Derived.Test.YtonipllegfgdiaaDoorFitsR
set_option linter.unusedVariables false
set_option linter.unusedSimpArgs false
namespace Go.Proofs.YtonipllegfgdiaaDoor
open Go.RowKit
theorem rup_any (st : StateD) (x : StA) (a b : Int) (w : World) (hS : StAt w w.heap.size st x) (h1 : x.nj ≤ 1000) (h2 : x.nn ≤ 1000) (h3 : x.nl ≤ 1000) (ha : 1 ≤ a) (hab : a ≤ b) (hb : b ≤ 3) :
    Calls Tryd.prog 60 #[.agg (stC st x), .int .i64 a, .int .i64 b] w (StepsPost (upSt st a b) x w) := by
  rcases (show (a = 1 ∧ b = 1) ∨ (a = 1 ∧ b = 2) ∨ (a = 1 ∧ b = 3) ∨ (a = 2 ∧ b = 2) ∨ (a = 2 ∧ b = 3) ∨ (a = 3 ∧ b = 3) by omega) with ⟨rfl, rfl⟩ | ⟨rfl, rfl⟩ | ⟨rfl, rfl⟩ | ⟨rfl, rfl⟩ | ⟨rfl, rfl⟩ | ⟨rfl, rfl⟩
  · exact rup_11 st x w hS h1 h2 h3
  · exact rup_12 st x w hS h1 h2 h3
  · exact rup_13 st x w hS h1 h2 h3
  · exact rup_22 st x w hS h1 h2 h3
  · exact rup_23 st x w hS h1 h2 h3
  · exact rup_33 st x w hS h1 h2 h3
theorem isWay_ranged (a b : Int) : isWayB a b = (ranged a 1 b && ranged b 1 3) := by
  unfold isWayB ranged
  by_cases h1 : 1 ≤ a <;> by_cases h2 : a ≤ b <;> by_cases h3 : b ≤ 3 <;> simp [h1, h2, h3] <;> omega
set_option maxRecDepth 100000 in
set_option maxHeartbeats 4000000 in
theorem rupstate_any (st : StateD) (x : StA) (a b : Int) (w : World) (hS : StAt w w.heap.size st x) :
    Calls Tryd.prog 22 #[.agg (stC st x), .int .i64 a, .int .i64 b] w (UPost st a b w) := by
  have hb1 : Below w.heap.size w (w.alloc (.cells (stC st x) 26)) := (Below.refl _ _).alloc (Nat.le_refl _) _
  have hb2 := hb1.alloc hb1.size (.cells #[.int .i64 0, .slice none 0 0, .slice none 0 0, .slice none 0 0] 26)
  have hBS : Blk ((w.alloc (.cells (stC st x) 26)).alloc (.cells #[.int .i64 0, .slice none 0 0, .slice none 0 0, .slice none 0 0] 26)) w.heap.size 26 (stC st x) := Blk.alloc (show Blk _ _ _ _ from heap_alloc_new w _) _
  have hBR : Blk ((w.alloc (.cells (stC st x) 26)).alloc (.cells #[.int .i64 0, .slice none 0 0, .slice none 0 0, .slice none 0 0] 26)) (w.heap.size + 1) 26 #[.int .i64 0, .slice none 0 0, .slice none 0 0, .slice none 0 0] := by
    have h := heap_alloc_new (w.alloc (.cells (stC st x) 26)) (.cells #[.int .i64 0, .slice none 0 0, .slice none 0 0, .slice none 0 0] 26)
    rwa [show (w.alloc (.cells (stC st x) 26)).heap.size = w.heap.size + 1 by simp] at h
  have HChk := Lib.hid (rcheck_any st x _ (hS.up hb2))
  have Hnone := Lib.hid (fun E (h : upF st a b = (zeroSt, E)) w' => UPost.none_ (w := w) (w' := w') h)
  have HS := Lib.hid hS
  have Hb2 := Lib.hid hb2
  have HBS := Lib.hid hBS
  have HBR := Lib.hid hBR
  have hway := isWay_ranged a b
  clear hb1 hb2 hS hBS hBR
  obtain ⟨rev, jobs, nodes, leases⟩ := st
  obtain ⟨aj, nj, cj, an, nn, cn, al, nl, cl⟩ := x
  unfold stC at *
  dsimp only at *
  go_enter Tryd.func22, Tryd.ntmps22
  go_wp2_with fail
  refine Calls.mono (outside_any a 1 b _) ?_
  rintro e w0 ⟨rfl, rfl⟩
  cases hr1 : ranged a 1 b
  · rw [hr1] at hway
    have Hend := Lib.hid (Hnone.out 1 (upF_way hway) _ Hb2.out)
    clear hr1 hway
    go_wp2
    refine bodyPost_ret (v := .tuple #[.agg #[.int .i64 0, .slice none 0 0, .slice none 0 0, .slice none 0 0], .int .i64 1]) (by simp [results, Tryd.results22, go_sem]) rfl ?_
    exact Hend.out
  rw [hr1] at hway
  have Hr1 := Lib.hid hr1
  clear hr1
  go_wp2_with fail
  refine Calls.mono (outside_any b 1 3 _) ?_
  rintro e w0 ⟨rfl, rfl⟩
  cases hr2 : ranged b 1 3
  · rw [hr2] at hway
    have Hend := Lib.hid (Hnone.out 1 (upF_way hway) _ Hb2.out)
    clear hr2 hway
    go_wp2
    refine bodyPost_ret (v := .tuple #[.agg #[.int .i64 0, .slice none 0 0, .slice none 0 0, .slice none 0 0], .int .i64 1]) (by simp [results, Tryd.results22, go_sem]) rfl ?_
    exact Hend.out
  rw [hr2] at hway
  have Hway := Lib.hid (show isWayB a b = true from hway)
  have hw3 : 1 ≤ a ∧ a ≤ b ∧ b ≤ 3 := by
    have := ranged_iff.1 Hr1.out
    have := ranged_iff.1 hr2
    omega
  obtain ⟨ha1, hab, hb3⟩ := hw3
  clear hr2 hway Hr1
  go_wp2_with fail
  refine Calls.mono HChk.out ?_
  rintro e w1 ⟨rfl, hb⟩
  have Hb1 := Lib.hid (Hb2.out.trans (hb.mono Hb2.out.size))
  have HB1 := Lib.hid (HBS.out.below hb HBS.out.lt)
  have HR1 := Lib.hid (HBR.out.below hb HBR.out.lt)
  have hbl := HB1.out.lt
  have hrl := HR1.out.lt
  clear hb HChk HBS HBR
  obtain ⟨E, hE⟩ : ∃ E, checkE ⟨rev, jobs, nodes, leases⟩ = E := ⟨_, rfl⟩
  obtain ⟨fit, hfit⟩ : ∃ f, fitsE ⟨rev, jobs, nodes, leases⟩ a = f := ⟨_, rfl⟩
  have HE := Lib.hid hE
  have Hfit := Lib.hid hfit
  rw [hE]
  clear hE hfit
  have b0 : w1.cell? ⟨w.heap.size, 0, none⟩ = some (.int .i64 rev) := HB1.out.cell 0
  have b1 : w1.cell? ⟨w.heap.size, 1, none⟩ = some (.slice aj nj cj) := HB1.out.cell 1
  have b2 : w1.cell? ⟨w.heap.size, 2, none⟩ = some (.slice an nn cn) := HB1.out.cell 2
  have b3 : w1.cell? ⟨w.heap.size, 3, none⟩ = some (.slice al nl cl) := HB1.out.cell 3
  have u0 : w1.frozen? ⟨w.heap.size + 1, 0, none⟩ = false := HR1.out.thaw 0
  have s0 : w1.cell? ⟨w.heap.size + 1, 0, none⟩ = some (.int .i64 0) := HR1.out.cell 0
  have u1 : w1.frozen? ⟨w.heap.size + 1, 1, none⟩ = false := HR1.out.thaw 1
  have s1 : w1.cell? ⟨w.heap.size + 1, 1, none⟩ = some (.slice none 0 0) := HR1.out.cell 1
  have u2 : w1.frozen? ⟨w.heap.size + 1, 2, none⟩ = false := HR1.out.thaw 2
  have s2 : w1.cell? ⟨w.heap.size + 1, 2, none⟩ = some (.slice none 0 0) := HR1.out.cell 2
  have u3 : w1.frozen? ⟨w.heap.size + 1, 3, none⟩ = false := HR1.out.thaw 3
  have s3 : w1.cell? ⟨w.heap.size + 1, 3, none⟩ = some (.slice none 0 0) := HR1.out.cell 3
  by_cases h0 : E = 0
  rotate_left
  · have e1 : (E == 0) = false := beq_eq_false_iff_ne.2 h0
    have e2 : (E != 0) = true := bne_iff_ne.2 h0
    have hR4 := (Blk.eq ((Blk.eq ((Blk.eq ((Blk.eq (HR1.out.set 0 (.int .i64 0)) (show _ = #[.int .i64 0, .slice none 0 0, .slice none 0 0, .slice none 0 0] from rfl)).set 1 (.slice none 0 0)) (show _ = #[.int .i64 0, .slice none 0 0, .slice none 0 0, .slice none 0 0] from rfl)).set 2 (.slice none 0 0)) (show _ = #[.int .i64 0, .slice none 0 0, .slice none 0 0, .slice none 0 0] from rfl)).set 3 (.slice none 0 0)) (show _ = #[.int .i64 0, .slice none 0 0, .slice none 0 0, .slice none 0 0] from rfl))
    have q0 := (show _ = (some (.int .i64 0) : Option Value) from hR4.cell 0)
    have q1 := (show _ = (some (.slice none 0 0) : Option Value) from hR4.cell 1)
    have q2 := (show _ = (some (.slice none 0 0) : Option Value) from hR4.cell 2)
    have q3 := (show _ = (some (.slice none 0 0) : Option Value) from hR4.cell 3)
    have hG4 := (bes_set (bes_set (bes_set (bes_set (grow_refl w1 (w.heap.size + 1)) 0 (.int .i64 0)) 1 (.slice none 0 0)) 2 (.slice none 0 0)) 3 (.slice none 0 0))
    have Hend := Lib.hid (Hnone.out E (by rw [upF_check Hway.out (by rw [HE.out]; exact h0), HE.out]) _ (grow_keep Hb1.out hG4 (by omega)))
    clear hR4 hG4
    go_wp2
    refine bodyPost_ret (v := .tuple #[.agg #[.int .i64 0, .slice none 0 0, .slice none 0 0, .slice none 0 0], .int .i64 E]) (by simp [results, Tryd.results22, go_sem, *]) rfl ?_
    exact Hend.out
  subst h0
  have HF := Lib.hid (rfits_any ⟨rev, jobs, nodes, leases⟩ ⟨aj, nj, cj, an, nn, cn, al, nl, cl⟩ a w1 (HS.out.up Hb1.out) (ranged_iff.2 ⟨ha1, by omega⟩))
  unfold stC at HF
  dsimp only at HF
  go_wp2_with fail
  refine Calls.mono HF.out ?_
  rintro e w3 ⟨rfl, hb⟩
  rw [Hfit.out]
  have Hb3 := Lib.hid (Hb1.out.trans (hb.mono Hb1.out.size))
  have HB3 := Lib.hid (HB1.out.below hb HB1.out.lt)
  have HR3 := Lib.hid (HR1.out.below hb HR1.out.lt)
  have hbl := HB3.out.lt
  have hrl := HR3.out.lt
  clear hb b0 b1 b2 b3 s0 s1 s2 s3 u0 u1 u2 u3 HF HB1 HR1
  have b0 : w3.cell? ⟨w.heap.size, 0, none⟩ = some (.int .i64 rev) := HB3.out.cell 0
  have b1 : w3.cell? ⟨w.heap.size, 1, none⟩ = some (.slice aj nj cj) := HB3.out.cell 1
  have b2 : w3.cell? ⟨w.heap.size, 2, none⟩ = some (.slice an nn cn) := HB3.out.cell 2
  have b3 : w3.cell? ⟨w.heap.size, 3, none⟩ = some (.slice al nl cl) := HB3.out.cell 3
  have u0 : w3.frozen? ⟨w.heap.size + 1, 0, none⟩ = false := HR3.out.thaw 0
  have s0 : w3.cell? ⟨w.heap.size + 1, 0, none⟩ = some (.int .i64 0) := HR3.out.cell 0
  have u1 : w3.frozen? ⟨w.heap.size + 1, 1, none⟩ = false := HR3.out.thaw 1
  have s1 : w3.cell? ⟨w.heap.size + 1, 1, none⟩ = some (.slice none 0 0) := HR3.out.cell 1
  have u2 : w3.frozen? ⟨w.heap.size + 1, 2, none⟩ = false := HR3.out.thaw 2
  have s2 : w3.cell? ⟨w.heap.size + 1, 2, none⟩ = some (.slice none 0 0) := HR3.out.cell 2
  have u3 : w3.frozen? ⟨w.heap.size + 1, 3, none⟩ = false := HR3.out.thaw 3
  have s3 : w3.cell? ⟨w.heap.size + 1, 3, none⟩ = some (.slice none 0 0) := HR3.out.cell 3
  cases fit
  · have hR4 := (Blk.eq ((Blk.eq ((Blk.eq ((Blk.eq (HR3.out.set 0 (.int .i64 0)) (show _ = #[.int .i64 0, .slice none 0 0, .slice none 0 0, .slice none 0 0] from rfl)).set 1 (.slice none 0 0)) (show _ = #[.int .i64 0, .slice none 0 0, .slice none 0 0, .slice none 0 0] from rfl)).set 2 (.slice none 0 0)) (show _ = #[.int .i64 0, .slice none 0 0, .slice none 0 0, .slice none 0 0] from rfl)).set 3 (.slice none 0 0)) (show _ = #[.int .i64 0, .slice none 0 0, .slice none 0 0, .slice none 0 0] from rfl))
    have q0 := (show _ = (some (.int .i64 0) : Option Value) from hR4.cell 0)
    have q1 := (show _ = (some (.slice none 0 0) : Option Value) from hR4.cell 1)
    have q2 := (show _ = (some (.slice none 0 0) : Option Value) from hR4.cell 2)
    have q3 := (show _ = (some (.slice none 0 0) : Option Value) from hR4.cell 3)
    have hG4 := (bes_set (bes_set (bes_set (bes_set (grow_refl w3 (w.heap.size + 1)) 0 (.int .i64 0)) 1 (.slice none 0 0)) 2 (.slice none 0 0)) 3 (.slice none 0 0))
    have Hend := Lib.hid (Hnone.out 4 (upF_form Hway.out HE.out Hfit.out) _ (grow_keep Hb3.out hG4 (by omega)))
    clear hR4 hG4
    go_wp2
    refine bodyPost_ret (v := .tuple #[.agg #[.int .i64 0, .slice none 0 0, .slice none 0 0, .slice none 0 0], .int .i64 4]) (by simp [results, Tryd.results22, go_sem, *]) rfl ?_
    exact Hend.out
  have hsz := ck_sizes HE.out
  have hl1 := HS.out.lj
  have hl2 := HS.out.ln
  have hl3 := HS.out.ll
  dsimp only at hsz hl1 hl2 hl3
  have HC := Lib.hid (rup_any ⟨rev, jobs, nodes, leases⟩ ⟨aj, nj, cj, an, nn, cn, al, nl, cl⟩ a b w3 (HS.out.up Hb3.out) (by dsimp only; omega) (by dsimp only; omega) (by dsimp only; omega) ha1 hab hb3)
  unfold stC at HC
  dsimp only at HC
  go_wp2_with fail
  refine Calls.mono HC.out ?_
  rintro e w2 ⟨x', rfl, e1, e2, e3, hO, hb⟩
  obtain ⟨aj', nj', cj', an', nn', cn', al', nl', cl'⟩ := x'
  dsimp only at e1 e2 e3
  obtain ⟨rev', hrev⟩ : ∃ r, (upSt ⟨rev, jobs, nodes, leases⟩ a b).rev = r := ⟨_, rfl⟩
  unfold stC
  dsimp only
  rw [hrev]
  have hOk := upSt_ok (a := a) (b := b) HS.out.oj HS.out.on_
  have hR2 := HR3.out.below hb hrl
  have hrl2 := hR2.lt
  have HO := Lib.hid hO
  have HB2 := Lib.hid (Hb3.out.trans (hb.mono Hb3.out.size))
  clear b0 b1 b2 b3 s0 s1 s2 s3 u0 u1 u2 u3
  have u0 : w2.frozen? ⟨w.heap.size + 1, 0, none⟩ = false := hR2.thaw 0
  have s0 : w2.cell? ⟨w.heap.size + 1, 0, none⟩ = some (.int .i64 0) := hR2.cell 0
  have u1 : w2.frozen? ⟨w.heap.size + 1, 1, none⟩ = false := hR2.thaw 1
  have s1 : w2.cell? ⟨w.heap.size + 1, 1, none⟩ = some (.slice none 0 0) := hR2.cell 1
  have u2 : w2.frozen? ⟨w.heap.size + 1, 2, none⟩ = false := hR2.thaw 2
  have s2 : w2.cell? ⟨w.heap.size + 1, 2, none⟩ = some (.slice none 0 0) := hR2.cell 2
  have u3 : w2.frozen? ⟨w.heap.size + 1, 3, none⟩ = false := hR2.thaw 3
  have s3 : w2.cell? ⟨w.heap.size + 1, 3, none⟩ = some (.slice none 0 0) := hR2.cell 3
  have hR4 := (Blk.eq ((Blk.eq ((Blk.eq ((Blk.eq (hR2.set 0 (.int .i64 rev')) (show _ = #[.int .i64 rev', .slice none 0 0, .slice none 0 0, .slice none 0 0] from rfl)).set 1 (.slice aj' nj' cj')) (show _ = #[.int .i64 rev', .slice aj' nj' cj', .slice none 0 0, .slice none 0 0] from rfl)).set 2 (.slice an' nn' cn')) (show _ = #[.int .i64 rev', .slice aj' nj' cj', .slice an' nn' cn', .slice none 0 0] from rfl)).set 3 (.slice al' nl' cl')) (show _ = #[.int .i64 rev', .slice aj' nj' cj', .slice an' nn' cn', .slice al' nl' cl'] from rfl))
  have q0 := (show _ = (some (.int .i64 rev') : Option Value) from hR4.cell 0)
  have q1 := (show _ = (some (.slice aj' nj' cj') : Option Value) from hR4.cell 1)
  have q2 := (show _ = (some (.slice an' nn' cn') : Option Value) from hR4.cell 2)
  have q3 := (show _ = (some (.slice al' nl' cl') : Option Value) from hR4.cell 3)
  have hG4 := (bes_set (bes_set (bes_set (bes_set (grow_refl w2 (w.heap.size + 1)) 0 (.int .i64 rev')) 1 (.slice aj' nj' cj')) 2 (.slice an' nn' cn')) 3 (.slice al' nl' cl'))
  have hgo : StOwn _ w3.heap.size (upSt ⟨rev, jobs, nodes, leases⟩ a b) ⟨aj', nj', cj', an', nn', cn', al', nl', cl'⟩ := hO.grow hG4 hrl
  have hAt := hgo.at_ (by dsimp only; omega) (by dsimp only; omega) (by dsimp only; omega) hOk.1 hOk.2.1 (by rw [hOk.2.2]; exact HS.out.ol)
  have Hend := Lib.hid (show UPost ⟨rev, jobs, nodes, leases⟩ a b w (.returned (.tuple #[.agg #[.int .i64 rev', .slice aj' nj' cj', .slice an' nn' cn', .slice al' nl' cl'], .int .i64 0])) _ from ⟨upSt ⟨rev, jobs, nodes, leases⟩ a b, ⟨aj', nj', cj', an', nn', cn', al', nl', cl'⟩, 0, by rw [← hrev]; rfl, upF_ok Hway.out HE.out Hfit.out, hAt, grow_keep HB2.out hG4 (by omega)⟩)
  clear hb hO hgo hAt hR2 hR4 hG4 hOk hrev e1 e2 e3 HC
  go_wp2
  refine bodyPost_ret (v := .tuple #[.agg #[.int .i64 rev', .slice aj' nj' cj', .slice an' nn' cn', .slice al' nl' cl'], .int .i64 0]) (by simp [results, Tryd.results22, go_sem, *]) rfl ?_
  exact Hend.out
end Go.Proofs.YtonipllegfgdiaaDoor
