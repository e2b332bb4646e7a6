/- The walk of up.Down. -/
import Derived.Test.YtbbagnfmoecdfaaDoorDownL
set_option linter.unusedVariables false
set_option linter.unusedSimpArgs false
namespace Go.Proofs.YtbbagnfmoecdfaaDoor
open Go.RowKit
set_option maxRecDepth 100000 in
set_option maxHeartbeats 4000000 in
theorem down_bad (st : StateD) (x : StA) (c E : Int) (hE : checkE st = E) (h0 : E ≠ 0) (w : World) (hS : StAt w w.heap.size st x) (hT : Tabs w) :
    Calls Tryd.prog 12 #[.agg (stC st x), .int .i64 c] w (DnPost st c w) := by
  have hb1 : Below w.heap.size w (w.alloc (.cells (stC st x) 26)) := (Below.refl _ _).alloc (Nat.le_refl _) _
  have hb2 := hb1.alloc hb1.size (.cells #[.int .i64 0, .slice none 0 0, .slice none 0 0, .slice none 0 0] 26)
  have hBS : Blk ((w.alloc (.cells (stC st x) 26)).alloc (.cells #[.int .i64 0, .slice none 0 0, .slice none 0 0, .slice none 0 0] 26)) w.heap.size 26 (stC st x) := Blk.alloc (show Blk _ _ _ _ from heap_alloc_new w _) _
  have hBR : Blk ((w.alloc (.cells (stC st x) 26)).alloc (.cells #[.int .i64 0, .slice none 0 0, .slice none 0 0, .slice none 0 0] 26)) (w.heap.size + 1) 26 #[.int .i64 0, .slice none 0 0, .slice none 0 0, .slice none 0 0] := by
    have h := heap_alloc_new (w.alloc (.cells (stC st x) 26)) (.cells #[.int .i64 0, .slice none 0 0, .slice none 0 0, .slice none 0 0] 26)
    rwa [show (w.alloc (.cells (stC st x) 26)).heap.size = w.heap.size + 1 by simp] at h
  have hChk := scheck_any st x _ (hS.up hb2) (hT.below hb2)
  have Hnone := Lib.hid (fun E (h : downF st c = (zeroSt, false, E)) w' => DnPost.none_ (w := w) (w' := w') h)
  have HS := Lib.hid hS
  have Hb2 := Lib.hid hb2
  have HBS := Lib.hid hBS
  have HBR := Lib.hid hBR
  clear hb1 hb2 hS hBS hBR hT
  have Hev := Lib.hid (show downF st c = (zeroSt, false, E) from by rw [downF_check (by rw [hE]; exact h0), hE])
  rw [hE] at hChk
  have HChk := Lib.hid hChk
  clear hChk hE
  have e1 : (E == 0) = false := beq_eq_false_iff_ne.2 h0
  have e2 : (E != 0) = true := bne_iff_ne.2 h0
  obtain ⟨rev, jobs, nodes, leases⟩ := st
  obtain ⟨aj, nj, cj, an, nn, cn, al, nl, cl⟩ := x
  unfold stC at *
  dsimp only at *
  go_enter Tryd.func12, Tryd.ntmps12
  go_wp2_with fail
  refine Calls.mono HChk.out ?_
  rintro e w1 ⟨rfl, hb⟩
  have Hb1 := Lib.hid (Hb2.out.trans (hb.mono Hb2.out.size))
  have HB1 := Lib.hid (HBS.out.below hb HBS.out.lt)
  have HR1 := Lib.hid (HBR.out.below hb HBR.out.lt)
  have hbl := HB1.out.lt
  have hrl := HR1.out.lt
  clear hb HBS HBR HChk
  have u0 : w1.frozen? ⟨w.heap.size + 1, 0, none⟩ = false := HR1.out.thaw 0
  have s0 : w1.cell? ⟨w.heap.size + 1, 0, none⟩ = some (.int .i64 0) := HR1.out.cell 0
  have u1 : w1.frozen? ⟨w.heap.size + 1, 1, none⟩ = false := HR1.out.thaw 1
  have s1 : w1.cell? ⟨w.heap.size + 1, 1, none⟩ = some (.slice none 0 0) := HR1.out.cell 1
  have u2 : w1.frozen? ⟨w.heap.size + 1, 2, none⟩ = false := HR1.out.thaw 2
  have s2 : w1.cell? ⟨w.heap.size + 1, 2, none⟩ = some (.slice none 0 0) := HR1.out.cell 2
  have u3 : w1.frozen? ⟨w.heap.size + 1, 3, none⟩ = false := HR1.out.thaw 3
  have s3 : w1.cell? ⟨w.heap.size + 1, 3, none⟩ = some (.slice none 0 0) := HR1.out.cell 3
  have hR4 := (Blk.eq ((Blk.eq ((Blk.eq ((Blk.eq (HR1.out.set 0 (.int .i64 0)) (show _ = #[.int .i64 0, .slice none 0 0, .slice none 0 0, .slice none 0 0] from rfl)).set 1 (.slice none 0 0)) (show _ = #[.int .i64 0, .slice none 0 0, .slice none 0 0, .slice none 0 0] from rfl)).set 2 (.slice none 0 0)) (show _ = #[.int .i64 0, .slice none 0 0, .slice none 0 0, .slice none 0 0] from rfl)).set 3 (.slice none 0 0)) (show _ = #[.int .i64 0, .slice none 0 0, .slice none 0 0, .slice none 0 0] from rfl))
  have q0 := (show _ = (some (.int .i64 0) : Option Value) from hR4.cell 0)
  have q1 := (show _ = (some (.slice none 0 0) : Option Value) from hR4.cell 1)
  have q2 := (show _ = (some (.slice none 0 0) : Option Value) from hR4.cell 2)
  have q3 := (show _ = (some (.slice none 0 0) : Option Value) from hR4.cell 3)
  have hG4 := (bes_set (bes_set (bes_set (bes_set (grow_refl w1 (w.heap.size + 1)) 0 (.int .i64 0)) 1 (.slice none 0 0)) 2 (.slice none 0 0)) 3 (.slice none 0 0))
  have Hend := Lib.hid (Hnone.out E Hev.out _ (grow_keep Hb1.out hG4 (by omega)))
  clear hR4 hG4
  go_wp2
  refine bodyPost_ret (v := .tuple #[.agg #[.int .i64 0, .slice none 0 0, .slice none 0 0, .slice none 0 0], .bool false, .int .i64 E]) (by simp [results, Tryd.results12, go_sem, *]) rfl ?_
  exact Hend.out
set_option maxRecDepth 100000 in
set_option maxHeartbeats 4000000 in
theorem down_low (st : StateD) (x : StA) (c : Int) (h0 : checkE st = 0) (hc : c < 1) (w : World) (hS : StAt w w.heap.size st x) (hT : Tabs w) :
    Calls Tryd.prog 12 #[.agg (stC st x), .int .i64 c] w (DnPost st c w) := by
  have hb1 : Below w.heap.size w (w.alloc (.cells (stC st x) 26)) := (Below.refl _ _).alloc (Nat.le_refl _) _
  have hb2 := hb1.alloc hb1.size (.cells #[.int .i64 0, .slice none 0 0, .slice none 0 0, .slice none 0 0] 26)
  have hBS : Blk ((w.alloc (.cells (stC st x) 26)).alloc (.cells #[.int .i64 0, .slice none 0 0, .slice none 0 0, .slice none 0 0] 26)) w.heap.size 26 (stC st x) := Blk.alloc (show Blk _ _ _ _ from heap_alloc_new w _) _
  have hBR : Blk ((w.alloc (.cells (stC st x) 26)).alloc (.cells #[.int .i64 0, .slice none 0 0, .slice none 0 0, .slice none 0 0] 26)) (w.heap.size + 1) 26 #[.int .i64 0, .slice none 0 0, .slice none 0 0, .slice none 0 0] := by
    have h := heap_alloc_new (w.alloc (.cells (stC st x) 26)) (.cells #[.int .i64 0, .slice none 0 0, .slice none 0 0, .slice none 0 0] 26)
    rwa [show (w.alloc (.cells (stC st x) 26)).heap.size = w.heap.size + 1 by simp] at h
  have hChk := scheck_any st x _ (hS.up hb2) (hT.below hb2)
  have Hnone := Lib.hid (fun E (h : downF st c = (zeroSt, false, E)) w' => DnPost.none_ (w := w) (w' := w') h)
  have HS := Lib.hid hS
  have Hb2 := Lib.hid hb2
  have HBS := Lib.hid hBS
  have HBR := Lib.hid hBR
  clear hb1 hb2 hS hBS hBR hT
  have Hev := Lib.hid (show downF st c = (zeroSt, false, 1) from downF_arg h0 (by unfold ranged; simp; omega))
  rw [h0] at hChk
  have HChk := Lib.hid hChk
  clear hChk h0
  have d1 : decide (c < 1) = true := decide_eq_true hc
  obtain ⟨rev, jobs, nodes, leases⟩ := st
  obtain ⟨aj, nj, cj, an, nn, cn, al, nl, cl⟩ := x
  unfold stC at *
  dsimp only at *
  go_enter Tryd.func12, Tryd.ntmps12
  go_wp2_with fail
  refine Calls.mono HChk.out ?_
  rintro e w1 ⟨rfl, hb⟩
  have Hb1 := Lib.hid (Hb2.out.trans (hb.mono Hb2.out.size))
  have HB1 := Lib.hid (HBS.out.below hb HBS.out.lt)
  have HR1 := Lib.hid (HBR.out.below hb HBR.out.lt)
  have hbl := HB1.out.lt
  have hrl := HR1.out.lt
  clear hb HBS HBR HChk
  have u0 : w1.frozen? ⟨w.heap.size + 1, 0, none⟩ = false := HR1.out.thaw 0
  have s0 : w1.cell? ⟨w.heap.size + 1, 0, none⟩ = some (.int .i64 0) := HR1.out.cell 0
  have u1 : w1.frozen? ⟨w.heap.size + 1, 1, none⟩ = false := HR1.out.thaw 1
  have s1 : w1.cell? ⟨w.heap.size + 1, 1, none⟩ = some (.slice none 0 0) := HR1.out.cell 1
  have u2 : w1.frozen? ⟨w.heap.size + 1, 2, none⟩ = false := HR1.out.thaw 2
  have s2 : w1.cell? ⟨w.heap.size + 1, 2, none⟩ = some (.slice none 0 0) := HR1.out.cell 2
  have u3 : w1.frozen? ⟨w.heap.size + 1, 3, none⟩ = false := HR1.out.thaw 3
  have s3 : w1.cell? ⟨w.heap.size + 1, 3, none⟩ = some (.slice none 0 0) := HR1.out.cell 3
  have hR4 := (Blk.eq ((Blk.eq ((Blk.eq ((Blk.eq (HR1.out.set 0 (.int .i64 0)) (show _ = #[.int .i64 0, .slice none 0 0, .slice none 0 0, .slice none 0 0] from rfl)).set 1 (.slice none 0 0)) (show _ = #[.int .i64 0, .slice none 0 0, .slice none 0 0, .slice none 0 0] from rfl)).set 2 (.slice none 0 0)) (show _ = #[.int .i64 0, .slice none 0 0, .slice none 0 0, .slice none 0 0] from rfl)).set 3 (.slice none 0 0)) (show _ = #[.int .i64 0, .slice none 0 0, .slice none 0 0, .slice none 0 0] from rfl))
  have q0 := (show _ = (some (.int .i64 0) : Option Value) from hR4.cell 0)
  have q1 := (show _ = (some (.slice none 0 0) : Option Value) from hR4.cell 1)
  have q2 := (show _ = (some (.slice none 0 0) : Option Value) from hR4.cell 2)
  have q3 := (show _ = (some (.slice none 0 0) : Option Value) from hR4.cell 3)
  have hG4 := (bes_set (bes_set (bes_set (bes_set (grow_refl w1 (w.heap.size + 1)) 0 (.int .i64 0)) 1 (.slice none 0 0)) 2 (.slice none 0 0)) 3 (.slice none 0 0))
  have Hend := Lib.hid (Hnone.out 1 Hev.out _ (grow_keep Hb1.out hG4 (by omega)))
  clear hR4 hG4
  go_wp2
  refine bodyPost_ret (v := .tuple #[.agg #[.int .i64 0, .slice none 0 0, .slice none 0 0, .slice none 0 0], .bool false, .int .i64 1]) (by simp [results, Tryd.results12, go_sem, *]) rfl ?_
  exact Hend.out
set_option maxRecDepth 100000 in
set_option maxHeartbeats 4000000 in
theorem down_high (st : StateD) (x : StA) (c : Int) (h0 : checkE st = 0) (hc : 3 < c) (w : World) (hS : StAt w w.heap.size st x) (hT : Tabs w) :
    Calls Tryd.prog 12 #[.agg (stC st x), .int .i64 c] w (DnPost st c w) := by
  have hb1 : Below w.heap.size w (w.alloc (.cells (stC st x) 26)) := (Below.refl _ _).alloc (Nat.le_refl _) _
  have hb2 := hb1.alloc hb1.size (.cells #[.int .i64 0, .slice none 0 0, .slice none 0 0, .slice none 0 0] 26)
  have hBS : Blk ((w.alloc (.cells (stC st x) 26)).alloc (.cells #[.int .i64 0, .slice none 0 0, .slice none 0 0, .slice none 0 0] 26)) w.heap.size 26 (stC st x) := Blk.alloc (show Blk _ _ _ _ from heap_alloc_new w _) _
  have hBR : Blk ((w.alloc (.cells (stC st x) 26)).alloc (.cells #[.int .i64 0, .slice none 0 0, .slice none 0 0, .slice none 0 0] 26)) (w.heap.size + 1) 26 #[.int .i64 0, .slice none 0 0, .slice none 0 0, .slice none 0 0] := by
    have h := heap_alloc_new (w.alloc (.cells (stC st x) 26)) (.cells #[.int .i64 0, .slice none 0 0, .slice none 0 0, .slice none 0 0] 26)
    rwa [show (w.alloc (.cells (stC st x) 26)).heap.size = w.heap.size + 1 by simp] at h
  have hChk := scheck_any st x _ (hS.up hb2) (hT.below hb2)
  have Hnone := Lib.hid (fun E (h : downF st c = (zeroSt, false, E)) w' => DnPost.none_ (w := w) (w' := w') h)
  have HS := Lib.hid hS
  have Hb2 := Lib.hid hb2
  have HBS := Lib.hid hBS
  have HBR := Lib.hid hBR
  clear hb1 hb2 hS hBS hBR hT
  have Hev := Lib.hid (show downF st c = (zeroSt, false, 1) from downF_arg h0 (by unfold ranged; simp; omega))
  rw [h0] at hChk
  have HChk := Lib.hid hChk
  clear hChk h0
  have d1 : decide (c < 1) = false := decide_eq_false (by omega)
  have d2 : decide (3 < c) = true := decide_eq_true hc
  obtain ⟨rev, jobs, nodes, leases⟩ := st
  obtain ⟨aj, nj, cj, an, nn, cn, al, nl, cl⟩ := x
  unfold stC at *
  dsimp only at *
  go_enter Tryd.func12, Tryd.ntmps12
  go_wp2_with fail
  refine Calls.mono HChk.out ?_
  rintro e w1 ⟨rfl, hb⟩
  have Hb1 := Lib.hid (Hb2.out.trans (hb.mono Hb2.out.size))
  have HB1 := Lib.hid (HBS.out.below hb HBS.out.lt)
  have HR1 := Lib.hid (HBR.out.below hb HBR.out.lt)
  have hbl := HB1.out.lt
  have hrl := HR1.out.lt
  clear hb HBS HBR HChk
  have u0 : w1.frozen? ⟨w.heap.size + 1, 0, none⟩ = false := HR1.out.thaw 0
  have s0 : w1.cell? ⟨w.heap.size + 1, 0, none⟩ = some (.int .i64 0) := HR1.out.cell 0
  have u1 : w1.frozen? ⟨w.heap.size + 1, 1, none⟩ = false := HR1.out.thaw 1
  have s1 : w1.cell? ⟨w.heap.size + 1, 1, none⟩ = some (.slice none 0 0) := HR1.out.cell 1
  have u2 : w1.frozen? ⟨w.heap.size + 1, 2, none⟩ = false := HR1.out.thaw 2
  have s2 : w1.cell? ⟨w.heap.size + 1, 2, none⟩ = some (.slice none 0 0) := HR1.out.cell 2
  have u3 : w1.frozen? ⟨w.heap.size + 1, 3, none⟩ = false := HR1.out.thaw 3
  have s3 : w1.cell? ⟨w.heap.size + 1, 3, none⟩ = some (.slice none 0 0) := HR1.out.cell 3
  have hR4 := (Blk.eq ((Blk.eq ((Blk.eq ((Blk.eq (HR1.out.set 0 (.int .i64 0)) (show _ = #[.int .i64 0, .slice none 0 0, .slice none 0 0, .slice none 0 0] from rfl)).set 1 (.slice none 0 0)) (show _ = #[.int .i64 0, .slice none 0 0, .slice none 0 0, .slice none 0 0] from rfl)).set 2 (.slice none 0 0)) (show _ = #[.int .i64 0, .slice none 0 0, .slice none 0 0, .slice none 0 0] from rfl)).set 3 (.slice none 0 0)) (show _ = #[.int .i64 0, .slice none 0 0, .slice none 0 0, .slice none 0 0] from rfl))
  have q0 := (show _ = (some (.int .i64 0) : Option Value) from hR4.cell 0)
  have q1 := (show _ = (some (.slice none 0 0) : Option Value) from hR4.cell 1)
  have q2 := (show _ = (some (.slice none 0 0) : Option Value) from hR4.cell 2)
  have q3 := (show _ = (some (.slice none 0 0) : Option Value) from hR4.cell 3)
  have hG4 := (bes_set (bes_set (bes_set (bes_set (grow_refl w1 (w.heap.size + 1)) 0 (.int .i64 0)) 1 (.slice none 0 0)) 2 (.slice none 0 0)) 3 (.slice none 0 0))
  have Hend := Lib.hid (Hnone.out 1 Hev.out _ (grow_keep Hb1.out hG4 (by omega)))
  clear hR4 hG4
  go_wp2
  refine bodyPost_ret (v := .tuple #[.agg #[.int .i64 0, .slice none 0 0, .slice none 0 0, .slice none 0 0], .bool false, .int .i64 1]) (by simp [results, Tryd.results12, go_sem, *]) rfl ?_
  exact Hend.out
set_option maxRecDepth 100000 in
set_option maxHeartbeats 4000000 in
theorem down_1 (st : StateD) (x : StA) (h0 : checkE st = 0) (w : World) (hS : StAt w w.heap.size st x) (hT : Tabs w) :
    Calls Tryd.prog 12 #[.agg (stC st x), .int .i64 1] w (DnPost st 1 w) := by
  have hb1 : Below w.heap.size w (w.alloc (.cells (stC st x) 26)) := (Below.refl _ _).alloc (Nat.le_refl _) _
  have hb2 := hb1.alloc hb1.size (.cells #[.int .i64 0, .slice none 0 0, .slice none 0 0, .slice none 0 0] 26)
  have hBS : Blk ((w.alloc (.cells (stC st x) 26)).alloc (.cells #[.int .i64 0, .slice none 0 0, .slice none 0 0, .slice none 0 0] 26)) w.heap.size 26 (stC st x) := Blk.alloc (show Blk _ _ _ _ from heap_alloc_new w _) _
  have hBR : Blk ((w.alloc (.cells (stC st x) 26)).alloc (.cells #[.int .i64 0, .slice none 0 0, .slice none 0 0, .slice none 0 0] 26)) (w.heap.size + 1) 26 #[.int .i64 0, .slice none 0 0, .slice none 0 0, .slice none 0 0] := by
    have h := heap_alloc_new (w.alloc (.cells (stC st x) 26)) (.cells #[.int .i64 0, .slice none 0 0, .slice none 0 0, .slice none 0 0] 26)
    rwa [show (w.alloc (.cells (stC st x) 26)).heap.size = w.heap.size + 1 by simp] at h
  have hChk := scheck_any st x _ (hS.up hb2) (hT.below hb2)
  have Hnone := Lib.hid (fun E (h : downF st 1 = (zeroSt, false, E)) w' => DnPost.none_ (w := w) (w' := w') h)
  have HS := Lib.hid hS
  have Hb2 := Lib.hid hb2
  have HBS := Lib.hid hBS
  have HBR := Lib.hid hBR
  clear hb1 hb2 hS hBS hBR hT
  have Hsz := Lib.hid (ck_sizes h0)
  have Hev := Lib.hid (downF_ok (c := 1) h0 (by decide))
  have Hdn := Lib.hid (show downSt st 1 = ⟨0, st.jobs.map (downJ 1), st.nodes.map (downN 1), st.leases⟩ from rfl)
  have Htr := Lib.hid (fun h => down_tries (st := st) (c := 1) h)
  rw [h0] at hChk
  have HChk := Lib.hid hChk
  clear hChk h0
  obtain ⟨rev, jobs, nodes, leases⟩ := st
  obtain ⟨aj, nj, cj, an, nn, cn, al, nl, cl⟩ := x
  unfold stC at *
  dsimp only at *
  go_enter Tryd.func12, Tryd.ntmps12
  go_wp2_with fail
  refine Calls.mono HChk.out ?_
  rintro e w1 ⟨rfl, hb⟩
  have Hb1 := Lib.hid (Hb2.out.trans (hb.mono Hb2.out.size))
  have HB1 := Lib.hid (HBS.out.below hb HBS.out.lt)
  have HR1 := Lib.hid (HBR.out.below hb HBR.out.lt)
  have hbl := HB1.out.lt
  have hrl := HR1.out.lt
  clear hb HBS HBR HChk
  clear Hnone
  have hl1 : nj ≤ 40 := by have := HS.out.lj; have := Hsz.out; dsimp only at *; omega
  have hl2 : nn ≤ 20 := by have := HS.out.ln; have := Hsz.out; dsimp only at *; omega
  have hl3 : nl ≤ 40 := by have := HS.out.ll; have := Hsz.out; dsimp only at *; omega
  have hnj : jobs.length = nj := HS.out.lj
  have hnn : nodes.length = nn := HS.out.ln
  have HOw := Lib.hid (uown_any ⟨rev, jobs, nodes, leases⟩ ⟨aj, nj, cj, an, nn, cn, al, nl, cl⟩ w1 (HS.out.up Hb1.out) (by dsimp only; omega) (by dsimp only; omega) (by dsimp only; omega))
  unfold stC at HOw
  dsimp only at HOw
  have b0 : w1.cell? ⟨w.heap.size, 0, none⟩ = some (.int .i64 rev) := HB1.out.cell 0
  have b1 : w1.cell? ⟨w.heap.size, 1, none⟩ = some (.slice aj nj cj) := HB1.out.cell 1
  have b2 : w1.cell? ⟨w.heap.size, 2, none⟩ = some (.slice an nn cn) := HB1.out.cell 2
  have b3 : w1.cell? ⟨w.heap.size, 3, none⟩ = some (.slice al nl cl) := HB1.out.cell 3
  go_wp2_with fail
  refine Calls.mono HOw.out ?_
  rintro e w2 ⟨x1, rfl, e1, e2, e3, hO, hb⟩
  obtain ⟨aj1, nj1, cj1, an1, nn1, cn1, al1, nl1, cl1⟩ := x1
  dsimp only at e1 e2 e3
  have e1' := e1.symm
  have e2' := e2.symm
  have e3' := e3.symm
  clear e1 e2 e3 b0 b1 b2 b3
  subst e1' e2' e3'
  unfold stC
  dsimp only
  have hA : Below w2.heap.size w2 (w2.alloc (.cells #[.int .i64 0, .slice aj1 nj cj1, .slice an1 nn cn1, .slice al1 nl cl1] 26)) := (Below.refl _ _).alloc (Nat.le_refl _) _
  have hbA := hb.trans (hA.mono hb.size)
  have HD0 := Lib.hid (show DnAt w (w2.alloc (.cells #[.int .i64 0, .slice aj1 nj cj1, .slice an1 nn cn1, .slice al1 nl cl1] 26)) (w1.heap.size + 2) w2.heap.size #[.int .i64 rev, .slice aj nj cj, .slice an nn cn, .slice al nl cl] #[.int .i64 0, .slice aj1 nj cj1, .slice an1 nn cn1, .slice al1 nl cl1] ⟨0, jobs, nodes, leases⟩ ⟨aj1, nj, cj1, an1, nn, cn1, al1, nl, cl1⟩ from
    ⟨Hb1.out.trans (hbA.mono Hb1.out.size), HB1.out.below hbA hbl, HR1.out.below hbA hrl, heap_alloc_new w2 _, ⟨ownU_below hO.j hA, ownU_below hO.n hA, ownU_below hO.l hA, hO.lj, hO.ln, hO.ll⟩, by omega, by have := hb.size; omega⟩)
  have hW12 := hb.size
  clear hA hbA hO hb HOw
  have y1 : (w2.alloc (.cells #[.int .i64 0, .slice aj1 nj cj1, .slice an1 nn cn1, .slice al1 nl cl1] 26)).cell? ⟨w2.heap.size, 1, none⟩ = some (.slice aj1 nj cj1) := HD0.out.new.cell 1
  go_wp2
  go_loopw [33] (fun i wr => ∃ k : Nat, k ≤ nj ∧ i = .int .i64 k ∧ DnAt w wr (w1.heap.size + 2) w2.heap.size #[.int .i64 rev, .slice aj nj cj, .slice an nn cn, .slice al nl cl] #[.int .i64 0, .slice aj1 nj cj1, .slice an1 nn cn1, .slice al1 nl cl1] ⟨0, mapK (downJ 1) jobs k, nodes, leases⟩ ⟨aj1, nj, cj1, an1, nn, cn1, al1, nl, cl1⟩) (fun i _ => nj - (intOf i).toNat)
  case atStart => exact ⟨0, Nat.zero_le _, rfl, HD0.out⟩
  case round =>
    clear HD0 y1
    obtain ⟨k, hk, rfl, hst⟩ := hrel
    have HD := Lib.hid hst
    have hbl := hst.box.lt
    have hDl := hst.new.lt
    clear hst
    by_cases hlt : k < nj
    · obtain ⟨y, hf⟩ : ∃ y, jobs[k]? = some y := ⟨_, List.getElem?_eq_getElem (by omega)⟩
      have hfk : (mapK (downJ 1) jobs k)[k]? = some y := by rw [mapK_get]; exact hf
      obtain ⟨b, off, hao, hbb, hbs, hc⟩ := own_rec jobV_len HD.out.own.j HD.out.own.lj hfk
      dsimp only at hao
      subst hao
      obtain ⟨ho, hz, hbs2, hbb2, ccs, hblk⟩ := own_setAt HD.out.own.j (k * 5 + 4) (by dsimp only; omega) (.string ⟨#[]⟩)
      obtain ⟨name, prio, need, tries, tag⟩ := y
      have hset := rowsV_set jobV_len (mapK (downJ 1) jobs k) k 4 ⟨name, prio, need, tries, tag⟩ ⟨name, prio, need, tries, ⟨#[]⟩⟩ (.string ⟨#[]⟩) hfk (by omega) rfl
      dsimp only at ho hz hblk
      rw [hset, ← Nat.add_assoc] at ho
      rw [← Nat.add_assoc] at hz
      have c4 : wr.cell? ⟨b, off + k * 5 + 4, none⟩ = some (.string tag) := hc 4 _ rfl
      have s1 : wr.cell? ⟨w2.heap.size, 1, none⟩ = some (.slice (some ⟨b, off, none⟩) nj cj1) := HD.out.new.cell 1
      have HD2 := HD.out.setJ (st' := ⟨0, (mapK (downJ 1) jobs k).set k ⟨name, prio, need, tries, ⟨#[]⟩⟩, nodes, leases⟩) hbb2 hblk ho rfl rfl (by simp)
      generalize hW3 : wr.setCell ⟨b, off + k * 5 + 4, none⟩ (.string ⟨#[]⟩) = w3 at HD2
      have hsz3 : w3.heap.size = wr.heap.size := by rw [← hW3]; simp [World.setCell]
      have hl2 : ((mapK (downJ 1) jobs k).set k ⟨name, prio, need, tries, ⟨#[]⟩⟩)[k]? = some ⟨name, prio, need, tries, ⟨#[]⟩⟩ := List.getElem?_set_self (by have := (List.getElem?_eq_some_iff.1 hfk).1; exact this)
      obtain ⟨b', off', hao', hbb', hbs', hc'⟩ := own_rec jobV_len HD2.own.j HD2.own.lj hl2
      dsimp only at hao'
      injection hao' with hao'
      injection hao' with hao1 hao2
      subst hao1 hao2
      obtain ⟨ho', hz', hbs2', hbb2', ccs', hblk'⟩ := own_setAt HD2.own.j (k * 5 + 3) (by dsimp only; omega) (.int .i64 0)
      have hset' := rowsV_set jobV_len ((mapK (downJ 1) jobs k).set k ⟨name, prio, need, tries, ⟨#[]⟩⟩) k 3 ⟨name, prio, need, tries, ⟨#[]⟩⟩ ⟨name, prio, need, 0, ⟨#[]⟩⟩ (.int .i64 0) hl2 (by omega) rfl
      rw [List.set_set, show (mapK (downJ 1) jobs k).set k ⟨name, prio, need, 0, ⟨#[]⟩⟩ = mapK (downJ 1) jobs (k + 1) from (mapK_set hf)] at hset'
      dsimp only at ho' hz' hblk'
      rw [hset', ← Nat.add_assoc] at ho'
      rw [← Nat.add_assoc] at hz'
      have c3 : w3.cell? ⟨b, off + k * 5 + 3, none⟩ = some (.int .i64 tries) := hc' 3 _ rfl
      have s3 : w3.cell? ⟨w2.heap.size, 1, none⟩ = some (.slice (some ⟨b, off, none⟩) nj cj1) := HD2.new.cell 1
      have HD3' := HD2.setJ (st' := ⟨0, mapK (downJ 1) jobs (k + 1), nodes, leases⟩) hbb2' hblk' ho' rfl rfl (by simp [mapK_len])
      have HD3 := Lib.hid HD3'
      subst hW3
      clear hf hfk hc ho hset hblk HD HD2 hl2 hc' ho' hset' hblk' HD3'
      go_wp2
      go_roundw
      case rel => exact ⟨k + 1, by omega, by go_num, HD3.out⟩
      case measure => simp [intOf]; omega
    · obtain rfl : k = nj := by omega
      have hst := HD.out
      rw [mapK_all _ (by omega)] at hst
      have HSB := Lib.hid hst
      have y2 : wr.cell? ⟨w2.heap.size, 2, none⟩ = some (.slice an1 nn cn1) := hst.new.cell 2
      clear hst HD
      go_wp2
      go_loopw [54] (fun i wr => ∃ q : Nat, q ≤ nn ∧ i = .int .i64 q ∧ DnAt w wr (w1.heap.size + 2) w2.heap.size #[.int .i64 rev, .slice aj k cj, .slice an nn cn, .slice al nl cl] #[.int .i64 0, .slice aj1 k cj1, .slice an1 nn cn1, .slice al1 nl cl1] ⟨0, jobs.map (downJ 1), mapK (downN 1) nodes q, leases⟩ ⟨aj1, k, cj1, an1, nn, cn1, al1, nl, cl1⟩) (fun i _ => nn - (intOf i).toNat)
      case atStart => exact ⟨0, Nat.zero_le _, rfl, HSB.out⟩
      case round =>
        clear HSB y2 hbl hDl
        obtain ⟨q, hq, rfl, hst⟩ := hrel
        have HD := Lib.hid hst
        have hbl := hst.box.lt
        have hDl := hst.new.lt
        clear hst
        by_cases hltq : q < nn
        · obtain ⟨y, hf⟩ : ∃ y, nodes[q]? = some y := ⟨_, List.getElem?_eq_getElem (by omega)⟩
          have hfk : (mapK (downN 1) nodes q)[q]? = some y := by rw [mapK_get]; exact hf
          obtain ⟨b, off, hao, hbb, hbs, hc⟩ := own_rec nodeV_len HD.out.own.n HD.out.own.ln hfk
          dsimp only at hao
          subst hao
          obtain ⟨ho, hz, hbs2, hbb2, ccs, hblk⟩ := own_setAt HD.out.own.n (q * 3 + 2) (by dsimp only; omega) (.string ⟨#[]⟩)
          obtain ⟨name, room, zone⟩ := y
          have hset := rowsV_set nodeV_len (mapK (downN 1) nodes q) q 2 ⟨name, room, zone⟩ ⟨name, room, ⟨#[]⟩⟩ (.string ⟨#[]⟩) hfk (by omega) rfl
          rw [show (mapK (downN 1) nodes q).set q ⟨name, room, ⟨#[]⟩⟩ = mapK (downN 1) nodes (q + 1) from (mapK_set hf)] at hset
          dsimp only at ho hz hblk
          rw [hset, ← Nat.add_assoc] at ho
          rw [← Nat.add_assoc] at hz
          have c2 : wr.cell? ⟨b, off + q * 3 + 2, none⟩ = some (.string zone) := hc 2 _ rfl
          have s2 : wr.cell? ⟨w2.heap.size, 2, none⟩ = some (.slice (some ⟨b, off, none⟩) nn cn1) := HD.out.new.cell 2
          have HD2 := HD.out.setN (st' := ⟨0, jobs.map (downJ 1), mapK (downN 1) nodes (q + 1), leases⟩) hbb2 hblk ho rfl rfl (by simp [mapK_len])
          have HD3 := Lib.hid HD2
          clear hf hfk hc ho hset hblk HD HD2
          go_wp2
          go_roundw
          case rel => exact ⟨q + 1, by omega, by go_num, HD3.out⟩
          case measure => simp [intOf]; omega
        · obtain rfl : q = nn := by omega
          have hst := HD.out
          rw [mapK_all _ (by omega)] at hst
          have HSB := Lib.hid hst
          have hOk := downSt_ok (c := 1) HS.out.oj HS.out.on_
          have hAt := hst.own.at_ (by dsimp only; omega) (by dsimp only; omega) (by dsimp only; omega) hOk.1 hOk.2 HS.out.ol
          have HAt := Lib.hid hAt
          have HC := Lib.hid (steps_any _ _ 1 3 wr hAt (by dsimp only; omega) (by dsimp only; omega) (by dsimp only; omega) (by decide) (by decide) (by decide) (fun h => by have := Htr.out h; rwa [Hdn.out] at this))
          unfold stC at HC
          dsimp only at HC
          have hDl := hst.new.lt
          clear hst HD hAt hOk Htr
          have b0 : wr.cell? ⟨w2.heap.size, 0, none⟩ = some (.int .i64 0) := HSB.out.new.cell 0
          have b1 : wr.cell? ⟨w2.heap.size, 1, none⟩ = some (.slice aj1 k cj1) := HSB.out.new.cell 1
          have b2 : wr.cell? ⟨w2.heap.size, 2, none⟩ = some (.slice an1 q cn1) := HSB.out.new.cell 2
          have b3 : wr.cell? ⟨w2.heap.size, 3, none⟩ = some (.slice al1 nl cl1) := HSB.out.new.cell 3
          go_wp2_with fail
          refine Calls.mono HC.out ?_
          rintro e w3 ⟨x2, rfl, e1, e2, e3, hO, hb⟩
          obtain ⟨UP, hUP⟩ : ∃ u, upSt ⟨0, jobs.map (downJ 1), nodes.map (downN 1), leases⟩ 1 3 = u := ⟨_, rfl⟩
          rw [hUP] at hO
          have HUP := Lib.hid hUP
          obtain ⟨aj2, nj2, cj2, an2, nn2, cn2, al2, nl2, cl2⟩ := x2
          dsimp only at e1 e2 e3
          have e1' := e1.symm
          have e2' := e2.symm
          have e3' := e3.symm
          clear e1 e2 e3 b0 b1 b2 b3 HC
          subst e1' e2' e3'
          rw [hUP]
          clear hUP
          obtain ⟨urev, ujobs, unodes, uleases⟩ := UP
          unfold stC
          dsimp only
          have hA : Below w3.heap.size w3 (w3.alloc (.cells #[.int .i64 urev, .slice aj2 k cj2, .slice an2 q cn2, .slice al2 nl cl2] 26)).drew := ((Below.refl _ _).alloc (Nat.le_refl _) _).drew
          have hbA := hb.trans (hA.mono hb.size)
          have hst := HSB.out
          have hsl := hst.below.size
          have H0 : DnEnd w (w1.heap.size + 2) wr.heap.size w2.heap.size w3.heap.size ⟨rev, jobs, nodes, leases⟩ ⟨0, jobs.map (downJ 1), nodes.map (downN 1), leases⟩ ⟨urev, ujobs, unodes, uleases⟩ ⟨aj, k, cj, an, q, cn, al, nl, cl⟩ ⟨aj1, k, cj1, an1, q, cn1, al1, nl, cl1⟩ ⟨aj2, k, cj2, an2, q, cn2, al2, nl, cl2⟩ 0 (w3.alloc (.cells #[.int .i64 urev, .slice aj2 k cj2, .slice an2 q cn2, .slice al2 nl cl2] 26)).drew :=
            ⟨hst.below.trans (hbA.mono hsl), hst.box.below hbA hst.box.lt, hst.new.below hbA hDl, heap_alloc_new w3 _, hst.res.below hbA hst.res.lt, hst.own.kept hbA, hO.kept hA, by have := hb.size; have := hst.le; omega⟩
          have hrw := HSB.out.res.lt
          clear hA hbA hO hb hst HSB
          obtain ⟨bb, hbb⟩ : ∃ b, decide (urev = rev) = b := ⟨_, rfl⟩
          have Hbb := Lib.hid hbb
          clear hbb
          go_wp2_with fail
          refine wp_region_phasesQ (n := 88) (by kernel_rfl) (fun _ : Unit => dnV w.heap.size w3.heap.size #[.int .i64 0, .slice aj1 k cj1, .slice an1 q cn1, .slice al1 nl cl1] ⟨urev, ujobs, unodes, uleases⟩ ⟨rev, jobs, nodes, leases⟩ ⟨aj2, k, cj2, an2, q, cn2, al2, nl, cl2⟩ ⟨aj, k, cj, an, q, cn, al, nl, cl⟩ bb (eqS ujobs jobs) (eqS unodes nodes)) [11, 12, 13, 18, 20] (fun p _ w' => DnEnd w (w1.heap.size + 2) wr.heap.size w2.heap.size w3.heap.size ⟨rev, jobs, nodes, leases⟩ ⟨0, jobs.map (downJ 1), nodes.map (downN 1), leases⟩ ⟨urev, ujobs, unodes, uleases⟩ ⟨aj, k, cj, an, q, cn, al, nl, cl⟩ ⟨aj1, k, cj1, an1, q, cn1, al1, nl, cl1⟩ ⟨aj2, k, cj2, an2, q, cn2, al2, nl, cl2⟩ p w') () (by decide +kernel) (by decide +kernel) rfl H0 ?_ ?_
          · refine ⟨?_, ?_, ?_, ?_, ?_, ?_, ?_, ?_, ?_, ?_, ?_, ?_, ?_, ?_, ?_, ?_, ?_, ?_, ?_, ?_, ?_, ?_, ?_, trivial⟩
            · refine .inr ⟨by decide, 0, 5, by decide +kernel, by decide +kernel, fun p γ a wx _ _ hp hk => wantWp_free rfl ?_⟩
              have h1 := hk.1 8 _ rfl (by decide +kernel)
              have c0 : wx.cell? ⟨w2.heap.size, 0, none⟩ = some (.int .i64 0) := hp.new.cell 0
              have c1 : wx.cell? ⟨w2.heap.size, 1, none⟩ = some (.slice aj1 k cj1) := hp.new.cell 1
              have c2 : wx.cell? ⟨w2.heap.size, 2, none⟩ = some (.slice an1 q cn1) := hp.new.cell 2
              have c3 : wx.cell? ⟨w2.heap.size, 3, none⟩ = some (.slice al1 nl cl1) := hp.new.cell 3
              simp [go_sem, Oper.wp, execOp, Act.eval, h1, c0, c1, c2, c3]
              first | exact ⟨_, rfl, rfl, hp⟩ | exact ⟨_, (), rfl, fun _ _ _ h => h, rfl, hp⟩ | exact ⟨_, rfl, fun _ _ _ h => h, rfl, hp⟩
            · refine .inr ⟨by decide, 0, 5, by decide +kernel, by decide +kernel, fun p γ a wx _ _ hp hk => wantWp_free rfl ?_⟩
              have h1 := hk.1 11 _ rfl (by decide +kernel)
              simp [go_sem, Oper.wp, execOp, Act.eval, h1]
              first | exact ⟨_, rfl, rfl, hp⟩ | exact ⟨_, (), rfl, fun _ _ _ h => h, rfl, hp⟩ | exact ⟨_, rfl, fun _ _ _ h => h, rfl, hp⟩
            · refine .inr ⟨by decide, 0, 5, by decide +kernel, by decide +kernel, fun p γ a wx _ _ hp hk => wantWp_free rfl ?_⟩
              obtain ⟨u1, hu1, ru1⟩ := hk.2.1 1 _ 69 rfl rfl (by decide +kernel)
              replace ru1 : u1 = _ := ru1
              subst ru1
              have c0 : wx.cell? ⟨w3.heap.size, 0, none⟩ = some (.int .i64 urev) := hp.up.cell 0
              simp [go_sem, Oper.wp, execOp, Act.eval, hu1, c0]
              first | exact ⟨_, rfl, rfl, hp⟩ | exact ⟨_, (), rfl, fun _ _ _ h => h, rfl, hp⟩ | exact ⟨_, rfl, fun _ _ _ h => h, rfl, hp⟩
            · refine .inr ⟨by decide, 0, 5, by decide +kernel, by decide +kernel, fun p γ a wx _ _ hp hk => wantWp_free rfl ?_⟩
              have h1 := hk.1 2 _ rfl (by decide +kernel)
              simp [go_sem, Oper.wp, execOp, Act.eval, h1]
              first | exact ⟨_, rfl, rfl, hp⟩ | exact ⟨_, (), rfl, fun _ _ _ h => h, rfl, hp⟩ | exact ⟨_, rfl, fun _ _ _ h => h, rfl, hp⟩
            · refine .inr ⟨by decide, 0, 5, by decide +kernel, by decide +kernel, fun p γ a wx _ _ hp hk => wantWp_free rfl ?_⟩
              obtain ⟨u1, hu1, ru1⟩ := hk.2.1 3 _ 71 rfl rfl (by decide +kernel)
              replace ru1 : u1 = _ := ru1
              subst ru1
              have c0 : wx.cell? ⟨w.heap.size, 0, none⟩ = some (.int .i64 rev) := hp.box.cell 0
              simp [go_sem, Oper.wp, execOp, Act.eval, hu1, c0]
              first | exact ⟨_, rfl, rfl, hp⟩ | exact ⟨_, (), rfl, fun _ _ _ h => h, rfl, hp⟩ | exact ⟨_, rfl, fun _ _ _ h => h, rfl, hp⟩
            · refine .inr ⟨by decide, 0, 5, by decide +kernel, by decide +kernel, fun p γ a wx _ _ hp hk => wantWp_free rfl ?_⟩
              obtain ⟨u1, hu1, ru1⟩ := hk.2.1 2 _ 70 rfl rfl (by decide +kernel)
              replace ru1 : u1 = _ := ru1
              subst ru1
              obtain ⟨u2, hu2, ru2⟩ := hk.2.1 4 _ 72 rfl rfl (by decide +kernel)
              replace ru2 : u2 = _ := ru2
              subst ru2
              simp [go_sem, Oper.wp, execOp, Act.eval, hu1, hu2]
              first | exact ⟨_, rfl, (show _ = _ by rw [← Hbb.out]; first | rfl | simp), hp⟩ | exact ⟨_, (), rfl, fun _ _ _ h => h, (show _ = _ by rw [← Hbb.out]; first | rfl | simp), hp⟩ | exact ⟨_, rfl, fun _ _ _ h => h, (show _ = _ by rw [← Hbb.out]; first | rfl | simp), hp⟩
            · refine .inr ⟨by decide, 0, 5, by decide +kernel, by decide +kernel, fun p γ a wx _ _ hp hk => wantWp_free rfl ?_⟩
              obtain ⟨u1, hu1, ru1⟩ := hk.2.1 5 _ 73 rfl rfl (by decide +kernel)
              replace ru1 : u1 = _ := ru1
              subst ru1
              simp [go_sem, Oper.wp, execOp, Act.eval, hu1]
              first | exact ⟨_, rfl, rfl, hp⟩ | exact ⟨_, (), rfl, fun _ _ _ h => h, rfl, hp⟩ | exact ⟨_, rfl, fun _ _ _ h => h, rfl, hp⟩
            · refine .inr ⟨by decide, 0, 5, by decide +kernel, by decide +kernel, fun p γ a wx _ _ hp hk => wantWp_guard (b := bb) (t := 74) rfl rfl rfl (hk.2.1 6 _ 74 rfl rfl (by decide +kernel)) (fun hz => ⟨undef, (), rfl, fun _ _ _ h => h, fun h => absurd (hz.symm.trans h) (by decide), hp⟩) (fun hz => ?_)⟩
              have h1 := hk.1 11 _ rfl (by decide +kernel)
              simp [go_sem, Oper.wp, execOp, Act.eval, h1]
              first | exact ⟨_, rfl, (fun _ => rfl), hp⟩ | exact ⟨_, (), rfl, fun _ _ _ h => h, (fun _ => rfl), hp⟩ | exact ⟨_, rfl, fun _ _ _ h => h, (fun _ => rfl), hp⟩
            · refine .inr ⟨by decide, 0, 5, by decide +kernel, by decide +kernel, fun p γ a wx _ _ hp hk => wantWp_guard (b := bb) (t := 74) rfl rfl rfl (hk.2.1 6 _ 74 rfl rfl (by decide +kernel)) (fun hz => ⟨undef, (), rfl, fun _ _ _ h => h, fun h => absurd (hz.symm.trans h) (by decide), hp⟩) (fun hz => ?_)⟩
              obtain ⟨u1, hu1, ru1⟩ := hk.2.1 7 _ 75 rfl rfl (by decide +kernel)
              replace ru1 : u1 = _ := ru1 hz
              subst ru1
              have c1 : wx.cell? ⟨w3.heap.size, 1, none⟩ = some (.slice aj2 k cj2) := hp.up.cell 1
              simp [go_sem, Oper.wp, execOp, Act.eval, hu1, c1]
              first | exact ⟨_, rfl, (fun _ => rfl), hp⟩ | exact ⟨_, (), rfl, fun _ _ _ h => h, (fun _ => rfl), hp⟩ | exact ⟨_, rfl, fun _ _ _ h => h, (fun _ => rfl), hp⟩
            · refine .inr ⟨by decide, 0, 5, by decide +kernel, by decide +kernel, fun p γ a wx _ _ hp hk => wantWp_guard (b := bb) (t := 74) rfl rfl rfl (hk.2.1 6 _ 74 rfl rfl (by decide +kernel)) (fun hz => ⟨undef, (), rfl, fun _ _ _ h => h, fun h => absurd (hz.symm.trans h) (by decide), hp⟩) (fun hz => ?_)⟩
              have h1 := hk.1 2 _ rfl (by decide +kernel)
              simp [go_sem, Oper.wp, execOp, Act.eval, h1]
              first | exact ⟨_, rfl, (fun _ => rfl), hp⟩ | exact ⟨_, (), rfl, fun _ _ _ h => h, (fun _ => rfl), hp⟩ | exact ⟨_, rfl, fun _ _ _ h => h, (fun _ => rfl), hp⟩
            · refine .inr ⟨by decide, 0, 5, by decide +kernel, by decide +kernel, fun p γ a wx _ _ hp hk => wantWp_guard (b := bb) (t := 74) rfl rfl rfl (hk.2.1 6 _ 74 rfl rfl (by decide +kernel)) (fun hz => ⟨undef, (), rfl, fun _ _ _ h => h, fun h => absurd (hz.symm.trans h) (by decide), hp⟩) (fun hz => ?_)⟩
              obtain ⟨u1, hu1, ru1⟩ := hk.2.1 9 _ 77 rfl rfl (by decide +kernel)
              replace ru1 : u1 = _ := ru1 hz
              subst ru1
              have c1 : wx.cell? ⟨w.heap.size, 1, none⟩ = some (.slice aj k cj) := hp.box.cell 1
              simp [go_sem, Oper.wp, execOp, Act.eval, hu1, c1]
              first | exact ⟨_, rfl, (fun _ => rfl), hp⟩ | exact ⟨_, (), rfl, fun _ _ _ h => h, (fun _ => rfl), hp⟩ | exact ⟨_, rfl, fun _ _ _ h => h, (fun _ => rfl), hp⟩
            · refine .inl ⟨0, rfl, fun γ a wx hp hk => wantWp_guard (b := bb) (t := 74) rfl rfl rfl (hk.2.1 6 _ 74 rfl rfl (by decide +kernel)) (fun hz => ⟨undef, (), rfl, fun _ _ _ h => h, fun h => absurd (hz.symm.trans h) (by decide), hp.kept (Below.refl _ _) (by simp)⟩) (fun hz => ?_)⟩
              obtain ⟨u1, hu1, ru1⟩ := hk.2.1 8 _ 76 rfl rfl (by decide +kernel)
              replace ru1 : u1 = _ := ru1 hz
              subst ru1
              obtain ⟨u2, hu2, ru2⟩ := hk.2.1 10 _ 78 rfl rfl (by decide +kernel)
              replace ru2 : u2 = _ := ru2 hz
              subst ru2
              simp [go_sem, Oper.wp, execOp, Act.eval, hu1, hu2]
              refine (sleq_job ujobs jobs _ _ _ _ _ _ wx (own_slAt hp.ownu.j) ((HS.out.up hp.below).j) hp.ownu.lj HS.out.lj (by dsimp only; omega) (by dsimp only; omega)).mono ?_
              rintro e w' ⟨t, rfl, ht, hb⟩
              have hk' := hp.kept (q := 1) hb (by simp)
              rw [show t = eqS ujobs jobs from eqS_of ht]
              first | exact ⟨_, rfl, (fun _ => rfl), hk'⟩ | exact ⟨_, (), rfl, fun _ _ _ h => h, (fun _ => rfl), hk'⟩ | exact ⟨_, rfl, fun _ _ _ h => h, (fun _ => rfl), hk'⟩
            · refine .inl ⟨1, rfl, fun γ a wx hp0 hk => wantWp_free rfl ?_⟩
              have hp := hp0.kept (q := 2) (Below.refl _ _) (by simp)
              obtain ⟨u1, hu1, ru1⟩ := hk.2.1 6 _ 74 rfl rfl (by decide +kernel)
              replace ru1 : u1 = _ := ru1
              subst ru1
              obtain ⟨u2, hu2, ru2⟩ := hk.2.1 11 _ 79 rfl rfl (by decide +kernel)
              replace ru2 : bb = true → u2 = _ := ru2
              cases bb with
              | false =>
                simp [go_sem, Oper.wp, execOp, Act.eval, hu1, hu2]
                first | exact ⟨_, rfl, rfl, hp⟩ | exact ⟨_, (), rfl, fun _ _ _ h => h, rfl, hp⟩ | exact ⟨_, rfl, fun _ _ _ h => h, rfl, hp⟩
              | true =>
                replace ru2 := ru2 rfl
                subst ru2
                simp [go_sem, Oper.wp, execOp, Act.eval, hu1, hu2]
                first | exact ⟨_, rfl, rfl, hp⟩ | exact ⟨_, (), rfl, fun _ _ _ h => h, rfl, hp⟩ | exact ⟨_, rfl, fun _ _ _ h => h, rfl, hp⟩
            · refine .inl ⟨2, rfl, fun γ a wx hp0 hk => wantWp_free rfl ?_⟩
              have hp := hp0.kept (q := 3) (Below.refl _ _) (by simp)
              obtain ⟨u1, hu1, ru1⟩ := hk.2.1 12 _ 80 rfl rfl (by decide +kernel)
              replace ru1 : u1 = _ := ru1
              subst ru1
              simp [go_sem, Oper.wp, execOp, Act.eval, hu1]
              first | exact ⟨_, rfl, rfl, hp⟩ | exact ⟨_, (), rfl, fun _ _ _ h => h, rfl, hp⟩ | exact ⟨_, rfl, fun _ _ _ h => h, rfl, hp⟩
            · refine .inr ⟨by decide, 0, 5, by decide +kernel, by decide +kernel, fun p γ a wx _ _ hp hk => wantWp_guard (b := (bb && eqS ujobs jobs)) (t := 81) rfl rfl rfl (hk.2.1 13 _ 81 rfl rfl (by decide +kernel)) (fun hz => ⟨undef, (), rfl, fun _ _ _ h => h, fun h => absurd (hz.symm.trans h) (by decide), hp⟩) (fun hz => ?_)⟩
              have h1 := hk.1 11 _ rfl (by decide +kernel)
              simp [go_sem, Oper.wp, execOp, Act.eval, h1]
              first | exact ⟨_, rfl, (fun _ => rfl), hp⟩ | exact ⟨_, (), rfl, fun _ _ _ h => h, (fun _ => rfl), hp⟩ | exact ⟨_, rfl, fun _ _ _ h => h, (fun _ => rfl), hp⟩
            · refine .inr ⟨by decide, 0, 5, by decide +kernel, by decide +kernel, fun p γ a wx _ _ hp hk => wantWp_guard (b := (bb && eqS ujobs jobs)) (t := 81) rfl rfl rfl (hk.2.1 13 _ 81 rfl rfl (by decide +kernel)) (fun hz => ⟨undef, (), rfl, fun _ _ _ h => h, fun h => absurd (hz.symm.trans h) (by decide), hp⟩) (fun hz => ?_)⟩
              obtain ⟨u1, hu1, ru1⟩ := hk.2.1 14 _ 82 rfl rfl (by decide +kernel)
              replace ru1 : u1 = _ := ru1 hz
              subst ru1
              have c2 : wx.cell? ⟨w3.heap.size, 2, none⟩ = some (.slice an2 q cn2) := hp.up.cell 2
              simp [go_sem, Oper.wp, execOp, Act.eval, hu1, c2]
              first | exact ⟨_, rfl, (fun _ => rfl), hp⟩ | exact ⟨_, (), rfl, fun _ _ _ h => h, (fun _ => rfl), hp⟩ | exact ⟨_, rfl, fun _ _ _ h => h, (fun _ => rfl), hp⟩
            · refine .inr ⟨by decide, 0, 5, by decide +kernel, by decide +kernel, fun p γ a wx _ _ hp hk => wantWp_guard (b := (bb && eqS ujobs jobs)) (t := 81) rfl rfl rfl (hk.2.1 13 _ 81 rfl rfl (by decide +kernel)) (fun hz => ⟨undef, (), rfl, fun _ _ _ h => h, fun h => absurd (hz.symm.trans h) (by decide), hp⟩) (fun hz => ?_)⟩
              have h1 := hk.1 2 _ rfl (by decide +kernel)
              simp [go_sem, Oper.wp, execOp, Act.eval, h1]
              first | exact ⟨_, rfl, (fun _ => rfl), hp⟩ | exact ⟨_, (), rfl, fun _ _ _ h => h, (fun _ => rfl), hp⟩ | exact ⟨_, rfl, fun _ _ _ h => h, (fun _ => rfl), hp⟩
            · refine .inr ⟨by decide, 0, 5, by decide +kernel, by decide +kernel, fun p γ a wx _ _ hp hk => wantWp_guard (b := (bb && eqS ujobs jobs)) (t := 81) rfl rfl rfl (hk.2.1 13 _ 81 rfl rfl (by decide +kernel)) (fun hz => ⟨undef, (), rfl, fun _ _ _ h => h, fun h => absurd (hz.symm.trans h) (by decide), hp⟩) (fun hz => ?_)⟩
              obtain ⟨u1, hu1, ru1⟩ := hk.2.1 16 _ 84 rfl rfl (by decide +kernel)
              replace ru1 : u1 = _ := ru1 hz
              subst ru1
              have c2 : wx.cell? ⟨w.heap.size, 2, none⟩ = some (.slice an q cn) := hp.box.cell 2
              simp [go_sem, Oper.wp, execOp, Act.eval, hu1, c2]
              first | exact ⟨_, rfl, (fun _ => rfl), hp⟩ | exact ⟨_, (), rfl, fun _ _ _ h => h, (fun _ => rfl), hp⟩ | exact ⟨_, rfl, fun _ _ _ h => h, (fun _ => rfl), hp⟩
            · refine .inl ⟨3, rfl, fun γ a wx hp hk => wantWp_guard (b := (bb && eqS ujobs jobs)) (t := 81) rfl rfl rfl (hk.2.1 13 _ 81 rfl rfl (by decide +kernel)) (fun hz => ⟨undef, (), rfl, fun _ _ _ h => h, fun h => absurd (hz.symm.trans h) (by decide), hp.kept (Below.refl _ _) (by simp)⟩) (fun hz => ?_)⟩
              obtain ⟨u1, hu1, ru1⟩ := hk.2.1 15 _ 83 rfl rfl (by decide +kernel)
              replace ru1 : u1 = _ := ru1 hz
              subst ru1
              obtain ⟨u2, hu2, ru2⟩ := hk.2.1 17 _ 85 rfl rfl (by decide +kernel)
              replace ru2 : u2 = _ := ru2 hz
              subst ru2
              simp [go_sem, Oper.wp, execOp, Act.eval, hu1, hu2]
              refine (sleq_node unodes nodes _ _ _ _ _ _ wx (own_slAt hp.ownu.n) ((HS.out.up hp.below).n) hp.ownu.ln HS.out.ln (by dsimp only; omega) (by dsimp only; omega)).mono ?_
              rintro e w' ⟨t, rfl, ht, hb⟩
              have hk' := hp.kept (q := 4) hb (by simp)
              rw [show t = eqS unodes nodes from eqS_of ht]
              first | exact ⟨_, rfl, (fun _ => rfl), hk'⟩ | exact ⟨_, (), rfl, fun _ _ _ h => h, (fun _ => rfl), hk'⟩ | exact ⟨_, rfl, fun _ _ _ h => h, (fun _ => rfl), hk'⟩
            · refine .inr ⟨by decide, 0, 5, by decide +kernel, by decide +kernel, fun p γ a wx _ _ hp hk => wantWp_free rfl ?_⟩
              obtain ⟨u1, hu1, ru1⟩ := hk.2.1 13 _ 81 rfl rfl (by decide +kernel)
              replace ru1 : u1 = .bool (bb && eqS ujobs jobs) := ru1
              subst ru1
              obtain ⟨u2, hu2, ru2⟩ := hk.2.1 18 _ 86 rfl rfl (by decide +kernel)
              replace ru2 : (bb && eqS ujobs jobs) = true → u2 = _ := ru2
              have hV : ∀ z, z = .bool ((bb && eqS ujobs jobs) && eqS unodes nodes) → dnV w.heap.size w3.heap.size #[.int .i64 0, .slice aj1 k cj1, .slice an1 q cn1, .slice al1 nl cl1] ⟨urev, ujobs, unodes, uleases⟩ ⟨rev, jobs, nodes, leases⟩ ⟨aj2, k, cj2, an2, q, cn2, al2, nl, cl2⟩ ⟨aj, k, cj, an, q, cn, al, nl, cl⟩ bb (eqS ujobs jobs) (eqS unodes nodes) 19 z := fun _ h => h
              generalize (bb && eqS ujobs jobs) = b2 at hu1 ru2 hV
              cases b2 with
              | false =>
                simp [go_sem, Oper.wp, execOp, Act.eval, hu1, hu2]
                first | exact ⟨_, rfl, hV _ rfl, hp⟩ | exact ⟨_, (), rfl, fun _ _ _ h => h, hV _ rfl, hp⟩ | exact ⟨_, rfl, fun _ _ _ h => h, hV _ rfl, hp⟩
              | true =>
                replace ru2 := ru2 rfl
                subst ru2
                simp [go_sem, Oper.wp, execOp, Act.eval, hu1, hu2]
                first | exact ⟨_, rfl, hV _ rfl, hp⟩ | exact ⟨_, (), rfl, fun _ _ _ h => h, hV _ rfl, hp⟩ | exact ⟨_, rfl, fun _ _ _ h => h, hV _ rfl, hp⟩
            · refine .inl ⟨4, rfl, fun γ a wx hp hk => wantWp_free rfl ?_⟩
              obtain ⟨u1, hu1, ru1⟩ := hk.2.1 0 _ 68 rfl rfl (by decide +kernel)
              replace ru1 : u1 = _ := ru1
              subst ru1
              have h1 := hk.1 4 _ rfl (by decide +kernel)
              have hR : Blk wx (w.heap.size + 1) 26 #[.int .i64 0, .slice none 0 0, .slice none 0 0, .slice none 0 0] := hp.res
              have z0 : wx.frozen? ⟨w.heap.size + 1, 0, none⟩ = false := hR.thaw 0
              have s0 : wx.cell? ⟨w.heap.size + 1, 0, none⟩ = some (.int .i64 0) := hR.cell 0
              have z1 : wx.frozen? ⟨w.heap.size + 1, 1, none⟩ = false := hR.thaw 1
              have s1 : wx.cell? ⟨w.heap.size + 1, 1, none⟩ = some (.slice none 0 0) := hR.cell 1
              have z2 : wx.frozen? ⟨w.heap.size + 1, 2, none⟩ = false := hR.thaw 2
              have s2 : wx.cell? ⟨w.heap.size + 1, 2, none⟩ = some (.slice none 0 0) := hR.cell 2
              have z3 : wx.frozen? ⟨w.heap.size + 1, 3, none⟩ = false := hR.thaw 3
              have s3 : wx.cell? ⟨w.heap.size + 1, 3, none⟩ = some (.slice none 0 0) := hR.cell 3
              have hrl := hR.lt
              have hfin := hp.store
              clear hp hR
              simp [go_sem, Oper.wp, execOp, Act.eval, hu1, h1, s0, s1, s2, s3, z0, z1, z2, z3]
              first | exact ⟨⟨.int .i64 0, trivial⟩, hfin⟩ | exact ⟨.int .i64 0, trivial, hfin⟩ | exact ⟨.int .i64 0, (), fun _ _ _ h => h, trivial, hfin⟩ | exact hfin
            · refine .inr ⟨by decide, 0, 5, by decide +kernel, by decide +kernel, fun p γ a wx _ _ hp hk => wantWp_free rfl ?_⟩
              obtain ⟨u1, hu1, ru1⟩ := hk.2.1 19 _ 87 rfl rfl (by decide +kernel)
              replace ru1 : u1 = _ := ru1
              subst ru1
              simp [go_sem, Oper.wp, execOp, Act.eval, hu1]
              first | exact ⟨_, rfl, rfl, hp⟩ | exact ⟨_, (), rfl, fun _ _ _ h => h, rfl, hp⟩ | exact ⟨_, rfl, fun _ _ _ h => h, rfl, hp⟩
            · refine .inr ⟨by decide, 0, 5, by decide +kernel, by decide +kernel, fun p γ a wx _ _ hp hk => wantWp_free rfl ?_⟩
              simp [go_sem, Oper.wp, execOp, Act.eval]
              first | exact ⟨_, rfl, rfl, hp⟩ | exact ⟨_, (), rfl, fun _ _ _ h => h, rfl, hp⟩ | exact ⟨_, rfl, fun _ _ _ h => h, rfl, hp⟩
          intro γ act wx hd
          have hp := hd.ph
          obtain ⟨fv, rfl, hfv⟩ := hd.frame [68, 69, 70, 71, 72, 73, 74, 75, 76, 77, 78, 79, 80, 81, 82, 83, 84, 85, 86, 87, 5, 6] rfl
          have h5 : fv 5 = .bool (bb && eqS ujobs jobs && eqS unodes nodes) := hfv 21 _ 5 rfl rfl
          have h6 : fv 6 = .int .i64 0 := hfv 22 _ 6 rfl rfl
          have hR : Blk wx (w.heap.size + 1) 26 #[.int .i64 0, .slice aj1 k cj1, .slice an1 q cn1, .slice al1 nl cl1] := hp.res
          have r0 : wx.cell? ⟨w.heap.size + 1, 0, none⟩ = some (.int .i64 0) := hR.cell 0
          have r1 : wx.cell? ⟨w.heap.size + 1, 1, none⟩ = some (.slice aj1 k cj1) := hR.cell 1
          have r2 : wx.cell? ⟨w.heap.size + 1, 2, none⟩ = some (.slice an1 q cn1) := hR.cell 2
          have r3 : wx.cell? ⟨w.heap.size + 1, 3, none⟩ = some (.slice al1 nl cl1) := hR.cell 3
          have hOk := downSt_ok (c := 1) HS.out.oj HS.out.on_
          have hAt := hp.ownd.at_ (by dsimp only; omega) (by dsimp only; omega) (by dsimp only; omega) hOk.1 hOk.2 HS.out.ol
          have hkb := keptB_eq (st := ⟨rev, jobs, nodes, leases⟩) (c := 1) (t1 := eqS ujobs jobs) (t2 := eqS unodes nodes) (by rw [Hdn.out, HUP.out]; exact eqS_iff) (by rw [Hdn.out, HUP.out]; exact eqS_iff)
          rw [Hdn.out, HUP.out] at hkb
          dsimp only at hkb
          rw [Hbb.out] at hkb
          have Hend := Lib.hid (show DnPost ⟨rev, jobs, nodes, leases⟩ 1 w (.returned (.tuple #[.agg #[.int .i64 0, .slice aj1 k cj1, .slice an1 q cn1, .slice al1 nl cl1], .bool (bb && eqS ujobs jobs && eqS unodes nodes), .int .i64 0])) wx from ⟨_, _, _, 0, rfl, by rw [Hev.out, Hdn.out, hkb], hAt, hp.below⟩)
          clear hd hp hfv hR hOk hAt hkb H0
          simp [Exit.then, h5, h6]
          go_wp2
          refine bodyPost_ret (v := .tuple #[.agg #[.int .i64 0, .slice aj1 k cj1, .slice an1 q cn1, .slice al1 nl cl1], .bool (bb && eqS ujobs jobs && eqS unodes nodes), .int .i64 0]) (by simp [results, Tryd.results12, go_sem, *]) rfl ?_
          exact Hend.out
set_option maxRecDepth 100000 in
set_option maxHeartbeats 4000000 in
theorem down_2 (st : StateD) (x : StA) (h0 : checkE st = 0) (w : World) (hS : StAt w w.heap.size st x) (hT : Tabs w) :
    Calls Tryd.prog 12 #[.agg (stC st x), .int .i64 2] w (DnPost st 2 w) := by
  have hb1 : Below w.heap.size w (w.alloc (.cells (stC st x) 26)) := (Below.refl _ _).alloc (Nat.le_refl _) _
  have hb2 := hb1.alloc hb1.size (.cells #[.int .i64 0, .slice none 0 0, .slice none 0 0, .slice none 0 0] 26)
  have hBS : Blk ((w.alloc (.cells (stC st x) 26)).alloc (.cells #[.int .i64 0, .slice none 0 0, .slice none 0 0, .slice none 0 0] 26)) w.heap.size 26 (stC st x) := Blk.alloc (show Blk _ _ _ _ from heap_alloc_new w _) _
  have hBR : Blk ((w.alloc (.cells (stC st x) 26)).alloc (.cells #[.int .i64 0, .slice none 0 0, .slice none 0 0, .slice none 0 0] 26)) (w.heap.size + 1) 26 #[.int .i64 0, .slice none 0 0, .slice none 0 0, .slice none 0 0] := by
    have h := heap_alloc_new (w.alloc (.cells (stC st x) 26)) (.cells #[.int .i64 0, .slice none 0 0, .slice none 0 0, .slice none 0 0] 26)
    rwa [show (w.alloc (.cells (stC st x) 26)).heap.size = w.heap.size + 1 by simp] at h
  have hChk := scheck_any st x _ (hS.up hb2) (hT.below hb2)
  have Hnone := Lib.hid (fun E (h : downF st 2 = (zeroSt, false, E)) w' => DnPost.none_ (w := w) (w' := w') h)
  have HS := Lib.hid hS
  have Hb2 := Lib.hid hb2
  have HBS := Lib.hid hBS
  have HBR := Lib.hid hBR
  clear hb1 hb2 hS hBS hBR hT
  have Hsz := Lib.hid (ck_sizes h0)
  have Hev := Lib.hid (downF_ok (c := 2) h0 (by decide))
  have Hdn := Lib.hid (show downSt st 2 = ⟨0, st.jobs.map (downJ 2), st.nodes.map (downN 2), st.leases⟩ from rfl)
  have Htr := Lib.hid (fun h => down_tries (st := st) (c := 2) h)
  rw [h0] at hChk
  have HChk := Lib.hid hChk
  clear hChk h0
  obtain ⟨rev, jobs, nodes, leases⟩ := st
  obtain ⟨aj, nj, cj, an, nn, cn, al, nl, cl⟩ := x
  unfold stC at *
  dsimp only at *
  go_enter Tryd.func12, Tryd.ntmps12
  go_wp2_with fail
  refine Calls.mono HChk.out ?_
  rintro e w1 ⟨rfl, hb⟩
  have Hb1 := Lib.hid (Hb2.out.trans (hb.mono Hb2.out.size))
  have HB1 := Lib.hid (HBS.out.below hb HBS.out.lt)
  have HR1 := Lib.hid (HBR.out.below hb HBR.out.lt)
  have hbl := HB1.out.lt
  have hrl := HR1.out.lt
  clear hb HBS HBR HChk
  clear Hnone
  have hl1 : nj ≤ 40 := by have := HS.out.lj; have := Hsz.out; dsimp only at *; omega
  have hl2 : nn ≤ 20 := by have := HS.out.ln; have := Hsz.out; dsimp only at *; omega
  have hl3 : nl ≤ 40 := by have := HS.out.ll; have := Hsz.out; dsimp only at *; omega
  have hnj : jobs.length = nj := HS.out.lj
  have hnn : nodes.length = nn := HS.out.ln
  have HOw := Lib.hid (uown_any ⟨rev, jobs, nodes, leases⟩ ⟨aj, nj, cj, an, nn, cn, al, nl, cl⟩ w1 (HS.out.up Hb1.out) (by dsimp only; omega) (by dsimp only; omega) (by dsimp only; omega))
  unfold stC at HOw
  dsimp only at HOw
  have b0 : w1.cell? ⟨w.heap.size, 0, none⟩ = some (.int .i64 rev) := HB1.out.cell 0
  have b1 : w1.cell? ⟨w.heap.size, 1, none⟩ = some (.slice aj nj cj) := HB1.out.cell 1
  have b2 : w1.cell? ⟨w.heap.size, 2, none⟩ = some (.slice an nn cn) := HB1.out.cell 2
  have b3 : w1.cell? ⟨w.heap.size, 3, none⟩ = some (.slice al nl cl) := HB1.out.cell 3
  go_wp2_with fail
  refine Calls.mono HOw.out ?_
  rintro e w2 ⟨x1, rfl, e1, e2, e3, hO, hb⟩
  obtain ⟨aj1, nj1, cj1, an1, nn1, cn1, al1, nl1, cl1⟩ := x1
  dsimp only at e1 e2 e3
  have e1' := e1.symm
  have e2' := e2.symm
  have e3' := e3.symm
  clear e1 e2 e3 b0 b1 b2 b3
  subst e1' e2' e3'
  unfold stC
  dsimp only
  have hA : Below w2.heap.size w2 (w2.alloc (.cells #[.int .i64 0, .slice aj1 nj cj1, .slice an1 nn cn1, .slice al1 nl cl1] 26)) := (Below.refl _ _).alloc (Nat.le_refl _) _
  have hbA := hb.trans (hA.mono hb.size)
  have HD0 := Lib.hid (show DnAt w (w2.alloc (.cells #[.int .i64 0, .slice aj1 nj cj1, .slice an1 nn cn1, .slice al1 nl cl1] 26)) (w1.heap.size + 2) w2.heap.size #[.int .i64 rev, .slice aj nj cj, .slice an nn cn, .slice al nl cl] #[.int .i64 0, .slice aj1 nj cj1, .slice an1 nn cn1, .slice al1 nl cl1] ⟨0, jobs, nodes, leases⟩ ⟨aj1, nj, cj1, an1, nn, cn1, al1, nl, cl1⟩ from
    ⟨Hb1.out.trans (hbA.mono Hb1.out.size), HB1.out.below hbA hbl, HR1.out.below hbA hrl, heap_alloc_new w2 _, ⟨ownU_below hO.j hA, ownU_below hO.n hA, ownU_below hO.l hA, hO.lj, hO.ln, hO.ll⟩, by omega, by have := hb.size; omega⟩)
  have hW12 := hb.size
  clear hA hbA hO hb HOw
  have y1 : (w2.alloc (.cells #[.int .i64 0, .slice aj1 nj cj1, .slice an1 nn cn1, .slice al1 nl cl1] 26)).cell? ⟨w2.heap.size, 1, none⟩ = some (.slice aj1 nj cj1) := HD0.out.new.cell 1
  go_wp2
  go_loopw [33] (fun i wr => ∃ k : Nat, k ≤ nj ∧ i = .int .i64 k ∧ DnAt w wr (w1.heap.size + 2) w2.heap.size #[.int .i64 rev, .slice aj nj cj, .slice an nn cn, .slice al nl cl] #[.int .i64 0, .slice aj1 nj cj1, .slice an1 nn cn1, .slice al1 nl cl1] ⟨0, mapK (downJ 2) jobs k, nodes, leases⟩ ⟨aj1, nj, cj1, an1, nn, cn1, al1, nl, cl1⟩) (fun i _ => nj - (intOf i).toNat)
  case atStart => exact ⟨0, Nat.zero_le _, rfl, HD0.out⟩
  case round =>
    clear HD0 y1
    obtain ⟨k, hk, rfl, hst⟩ := hrel
    have HD := Lib.hid hst
    have hbl := hst.box.lt
    have hDl := hst.new.lt
    clear hst
    by_cases hlt : k < nj
    · obtain ⟨y, hf⟩ : ∃ y, jobs[k]? = some y := ⟨_, List.getElem?_eq_getElem (by omega)⟩
      have hfk : (mapK (downJ 2) jobs k)[k]? = some y := by rw [mapK_get]; exact hf
      obtain ⟨b, off, hao, hbb, hbs, hc⟩ := own_rec jobV_len HD.out.own.j HD.out.own.lj hfk
      dsimp only at hao
      subst hao
      obtain ⟨ho, hz, hbs2, hbb2, ccs, hblk⟩ := own_setAt HD.out.own.j (k * 5 + 4) (by dsimp only; omega) (.string ⟨#[]⟩)
      obtain ⟨name, prio, need, tries, tag⟩ := y
      have hset := rowsV_set jobV_len (mapK (downJ 2) jobs k) k 4 ⟨name, prio, need, tries, tag⟩ ⟨name, prio, need, tries, ⟨#[]⟩⟩ (.string ⟨#[]⟩) hfk (by omega) rfl
      dsimp only at ho hz hblk
      rw [hset, ← Nat.add_assoc] at ho
      rw [← Nat.add_assoc] at hz
      have c4 : wr.cell? ⟨b, off + k * 5 + 4, none⟩ = some (.string tag) := hc 4 _ rfl
      have s1 : wr.cell? ⟨w2.heap.size, 1, none⟩ = some (.slice (some ⟨b, off, none⟩) nj cj1) := HD.out.new.cell 1
      have HD2 := HD.out.setJ (st' := ⟨0, (mapK (downJ 2) jobs k).set k ⟨name, prio, need, tries, ⟨#[]⟩⟩, nodes, leases⟩) hbb2 hblk ho rfl rfl (by simp)
      rw [show (mapK (downJ 2) jobs k).set k ⟨name, prio, need, tries, ⟨#[]⟩⟩ = mapK (downJ 2) jobs (k + 1) from (mapK_set hf)] at HD2
      have HD3 := Lib.hid HD2
      clear hf hfk hc ho hset hblk HD HD2
      go_wp2
      go_roundw
      case rel => exact ⟨k + 1, by omega, by go_num, HD3.out⟩
      case measure => simp [intOf]; omega
    · obtain rfl : k = nj := by omega
      have hst := HD.out
      rw [mapK_all _ (by omega)] at hst
      have HSB := Lib.hid hst
      have y2 : wr.cell? ⟨w2.heap.size, 2, none⟩ = some (.slice an1 nn cn1) := hst.new.cell 2
      clear hst HD
      go_wp2
      go_loopw [54] (fun i wr => ∃ q : Nat, q ≤ nn ∧ i = .int .i64 q ∧ DnAt w wr (w1.heap.size + 2) w2.heap.size #[.int .i64 rev, .slice aj k cj, .slice an nn cn, .slice al nl cl] #[.int .i64 0, .slice aj1 k cj1, .slice an1 nn cn1, .slice al1 nl cl1] ⟨0, jobs.map (downJ 2), mapK (downN 2) nodes q, leases⟩ ⟨aj1, k, cj1, an1, nn, cn1, al1, nl, cl1⟩) (fun i _ => nn - (intOf i).toNat)
      case atStart => exact ⟨0, Nat.zero_le _, rfl, HSB.out⟩
      case round =>
        clear HSB y2 hbl hDl
        obtain ⟨q, hq, rfl, hst⟩ := hrel
        have HD := Lib.hid hst
        have hbl := hst.box.lt
        have hDl := hst.new.lt
        clear hst
        by_cases hltq : q < nn
        · obtain ⟨y, hf⟩ : ∃ y, nodes[q]? = some y := ⟨_, List.getElem?_eq_getElem (by omega)⟩
          have hfk : (mapK (downN 2) nodes q)[q]? = some y := by rw [mapK_get]; exact hf
          have HD3 := Lib.hid HD.out
          rw [← mapK_same hf (downN_2 y)] at HD3
          clear hf hfk HD
          go_wp2
          go_roundw
          case rel => exact ⟨q + 1, by omega, by go_num, HD3.out⟩
          case measure => simp [intOf]; omega
        · obtain rfl : q = nn := by omega
          have hst := HD.out
          rw [mapK_all _ (by omega)] at hst
          have HSB := Lib.hid hst
          have hOk := downSt_ok (c := 2) HS.out.oj HS.out.on_
          have hAt := hst.own.at_ (by dsimp only; omega) (by dsimp only; omega) (by dsimp only; omega) hOk.1 hOk.2 HS.out.ol
          have HAt := Lib.hid hAt
          have HC := Lib.hid (steps_any _ _ 2 3 wr hAt (by dsimp only; omega) (by dsimp only; omega) (by dsimp only; omega) (by decide) (by decide) (by decide) (fun h => by have := Htr.out h; rwa [Hdn.out] at this))
          unfold stC at HC
          dsimp only at HC
          have hDl := hst.new.lt
          clear hst HD hAt hOk Htr
          have b0 : wr.cell? ⟨w2.heap.size, 0, none⟩ = some (.int .i64 0) := HSB.out.new.cell 0
          have b1 : wr.cell? ⟨w2.heap.size, 1, none⟩ = some (.slice aj1 k cj1) := HSB.out.new.cell 1
          have b2 : wr.cell? ⟨w2.heap.size, 2, none⟩ = some (.slice an1 q cn1) := HSB.out.new.cell 2
          have b3 : wr.cell? ⟨w2.heap.size, 3, none⟩ = some (.slice al1 nl cl1) := HSB.out.new.cell 3
          go_wp2_with fail
          refine Calls.mono HC.out ?_
          rintro e w3 ⟨x2, rfl, e1, e2, e3, hO, hb⟩
          obtain ⟨UP, hUP⟩ : ∃ u, upSt ⟨0, jobs.map (downJ 2), nodes.map (downN 2), leases⟩ 2 3 = u := ⟨_, rfl⟩
          rw [hUP] at hO
          have HUP := Lib.hid hUP
          obtain ⟨aj2, nj2, cj2, an2, nn2, cn2, al2, nl2, cl2⟩ := x2
          dsimp only at e1 e2 e3
          have e1' := e1.symm
          have e2' := e2.symm
          have e3' := e3.symm
          clear e1 e2 e3 b0 b1 b2 b3 HC
          subst e1' e2' e3'
          rw [hUP]
          clear hUP
          obtain ⟨urev, ujobs, unodes, uleases⟩ := UP
          unfold stC
          dsimp only
          have hA : Below w3.heap.size w3 (w3.alloc (.cells #[.int .i64 urev, .slice aj2 k cj2, .slice an2 q cn2, .slice al2 nl cl2] 26)).drew := ((Below.refl _ _).alloc (Nat.le_refl _) _).drew
          have hbA := hb.trans (hA.mono hb.size)
          have hst := HSB.out
          have hsl := hst.below.size
          have H0 : DnEnd w (w1.heap.size + 2) wr.heap.size w2.heap.size w3.heap.size ⟨rev, jobs, nodes, leases⟩ ⟨0, jobs.map (downJ 2), nodes.map (downN 2), leases⟩ ⟨urev, ujobs, unodes, uleases⟩ ⟨aj, k, cj, an, q, cn, al, nl, cl⟩ ⟨aj1, k, cj1, an1, q, cn1, al1, nl, cl1⟩ ⟨aj2, k, cj2, an2, q, cn2, al2, nl, cl2⟩ 0 (w3.alloc (.cells #[.int .i64 urev, .slice aj2 k cj2, .slice an2 q cn2, .slice al2 nl cl2] 26)).drew :=
            ⟨hst.below.trans (hbA.mono hsl), hst.box.below hbA hst.box.lt, hst.new.below hbA hDl, heap_alloc_new w3 _, hst.res.below hbA hst.res.lt, hst.own.kept hbA, hO.kept hA, by have := hb.size; have := hst.le; omega⟩
          have hrw := HSB.out.res.lt
          clear hA hbA hO hb hst HSB
          obtain ⟨bb, hbb⟩ : ∃ b, decide (urev = rev) = b := ⟨_, rfl⟩
          have Hbb := Lib.hid hbb
          clear hbb
          go_wp2_with fail
          refine wp_region_phasesQ (n := 88) (by kernel_rfl) (fun _ : Unit => dnV w.heap.size w3.heap.size #[.int .i64 0, .slice aj1 k cj1, .slice an1 q cn1, .slice al1 nl cl1] ⟨urev, ujobs, unodes, uleases⟩ ⟨rev, jobs, nodes, leases⟩ ⟨aj2, k, cj2, an2, q, cn2, al2, nl, cl2⟩ ⟨aj, k, cj, an, q, cn, al, nl, cl⟩ bb (eqS ujobs jobs) (eqS unodes nodes)) [11, 12, 13, 18, 20] (fun p _ w' => DnEnd w (w1.heap.size + 2) wr.heap.size w2.heap.size w3.heap.size ⟨rev, jobs, nodes, leases⟩ ⟨0, jobs.map (downJ 2), nodes.map (downN 2), leases⟩ ⟨urev, ujobs, unodes, uleases⟩ ⟨aj, k, cj, an, q, cn, al, nl, cl⟩ ⟨aj1, k, cj1, an1, q, cn1, al1, nl, cl1⟩ ⟨aj2, k, cj2, an2, q, cn2, al2, nl, cl2⟩ p w') () (by decide +kernel) (by decide +kernel) rfl H0 ?_ ?_
          · refine ⟨?_, ?_, ?_, ?_, ?_, ?_, ?_, ?_, ?_, ?_, ?_, ?_, ?_, ?_, ?_, ?_, ?_, ?_, ?_, ?_, ?_, ?_, ?_, trivial⟩
            · refine .inr ⟨by decide, 0, 5, by decide +kernel, by decide +kernel, fun p γ a wx _ _ hp hk => wantWp_free rfl ?_⟩
              have h1 := hk.1 8 _ rfl (by decide +kernel)
              have c0 : wx.cell? ⟨w2.heap.size, 0, none⟩ = some (.int .i64 0) := hp.new.cell 0
              have c1 : wx.cell? ⟨w2.heap.size, 1, none⟩ = some (.slice aj1 k cj1) := hp.new.cell 1
              have c2 : wx.cell? ⟨w2.heap.size, 2, none⟩ = some (.slice an1 q cn1) := hp.new.cell 2
              have c3 : wx.cell? ⟨w2.heap.size, 3, none⟩ = some (.slice al1 nl cl1) := hp.new.cell 3
              simp [go_sem, Oper.wp, execOp, Act.eval, h1, c0, c1, c2, c3]
              first | exact ⟨_, rfl, rfl, hp⟩ | exact ⟨_, (), rfl, fun _ _ _ h => h, rfl, hp⟩ | exact ⟨_, rfl, fun _ _ _ h => h, rfl, hp⟩
            · refine .inr ⟨by decide, 0, 5, by decide +kernel, by decide +kernel, fun p γ a wx _ _ hp hk => wantWp_free rfl ?_⟩
              have h1 := hk.1 11 _ rfl (by decide +kernel)
              simp [go_sem, Oper.wp, execOp, Act.eval, h1]
              first | exact ⟨_, rfl, rfl, hp⟩ | exact ⟨_, (), rfl, fun _ _ _ h => h, rfl, hp⟩ | exact ⟨_, rfl, fun _ _ _ h => h, rfl, hp⟩
            · refine .inr ⟨by decide, 0, 5, by decide +kernel, by decide +kernel, fun p γ a wx _ _ hp hk => wantWp_free rfl ?_⟩
              obtain ⟨u1, hu1, ru1⟩ := hk.2.1 1 _ 69 rfl rfl (by decide +kernel)
              replace ru1 : u1 = _ := ru1
              subst ru1
              have c0 : wx.cell? ⟨w3.heap.size, 0, none⟩ = some (.int .i64 urev) := hp.up.cell 0
              simp [go_sem, Oper.wp, execOp, Act.eval, hu1, c0]
              first | exact ⟨_, rfl, rfl, hp⟩ | exact ⟨_, (), rfl, fun _ _ _ h => h, rfl, hp⟩ | exact ⟨_, rfl, fun _ _ _ h => h, rfl, hp⟩
            · refine .inr ⟨by decide, 0, 5, by decide +kernel, by decide +kernel, fun p γ a wx _ _ hp hk => wantWp_free rfl ?_⟩
              have h1 := hk.1 2 _ rfl (by decide +kernel)
              simp [go_sem, Oper.wp, execOp, Act.eval, h1]
              first | exact ⟨_, rfl, rfl, hp⟩ | exact ⟨_, (), rfl, fun _ _ _ h => h, rfl, hp⟩ | exact ⟨_, rfl, fun _ _ _ h => h, rfl, hp⟩
            · refine .inr ⟨by decide, 0, 5, by decide +kernel, by decide +kernel, fun p γ a wx _ _ hp hk => wantWp_free rfl ?_⟩
              obtain ⟨u1, hu1, ru1⟩ := hk.2.1 3 _ 71 rfl rfl (by decide +kernel)
              replace ru1 : u1 = _ := ru1
              subst ru1
              have c0 : wx.cell? ⟨w.heap.size, 0, none⟩ = some (.int .i64 rev) := hp.box.cell 0
              simp [go_sem, Oper.wp, execOp, Act.eval, hu1, c0]
              first | exact ⟨_, rfl, rfl, hp⟩ | exact ⟨_, (), rfl, fun _ _ _ h => h, rfl, hp⟩ | exact ⟨_, rfl, fun _ _ _ h => h, rfl, hp⟩
            · refine .inr ⟨by decide, 0, 5, by decide +kernel, by decide +kernel, fun p γ a wx _ _ hp hk => wantWp_free rfl ?_⟩
              obtain ⟨u1, hu1, ru1⟩ := hk.2.1 2 _ 70 rfl rfl (by decide +kernel)
              replace ru1 : u1 = _ := ru1
              subst ru1
              obtain ⟨u2, hu2, ru2⟩ := hk.2.1 4 _ 72 rfl rfl (by decide +kernel)
              replace ru2 : u2 = _ := ru2
              subst ru2
              simp [go_sem, Oper.wp, execOp, Act.eval, hu1, hu2]
              first | exact ⟨_, rfl, (show _ = _ by rw [← Hbb.out]; first | rfl | simp), hp⟩ | exact ⟨_, (), rfl, fun _ _ _ h => h, (show _ = _ by rw [← Hbb.out]; first | rfl | simp), hp⟩ | exact ⟨_, rfl, fun _ _ _ h => h, (show _ = _ by rw [← Hbb.out]; first | rfl | simp), hp⟩
            · refine .inr ⟨by decide, 0, 5, by decide +kernel, by decide +kernel, fun p γ a wx _ _ hp hk => wantWp_free rfl ?_⟩
              obtain ⟨u1, hu1, ru1⟩ := hk.2.1 5 _ 73 rfl rfl (by decide +kernel)
              replace ru1 : u1 = _ := ru1
              subst ru1
              simp [go_sem, Oper.wp, execOp, Act.eval, hu1]
              first | exact ⟨_, rfl, rfl, hp⟩ | exact ⟨_, (), rfl, fun _ _ _ h => h, rfl, hp⟩ | exact ⟨_, rfl, fun _ _ _ h => h, rfl, hp⟩
            · refine .inr ⟨by decide, 0, 5, by decide +kernel, by decide +kernel, fun p γ a wx _ _ hp hk => wantWp_guard (b := bb) (t := 74) rfl rfl rfl (hk.2.1 6 _ 74 rfl rfl (by decide +kernel)) (fun hz => ⟨undef, (), rfl, fun _ _ _ h => h, fun h => absurd (hz.symm.trans h) (by decide), hp⟩) (fun hz => ?_)⟩
              have h1 := hk.1 11 _ rfl (by decide +kernel)
              simp [go_sem, Oper.wp, execOp, Act.eval, h1]
              first | exact ⟨_, rfl, (fun _ => rfl), hp⟩ | exact ⟨_, (), rfl, fun _ _ _ h => h, (fun _ => rfl), hp⟩ | exact ⟨_, rfl, fun _ _ _ h => h, (fun _ => rfl), hp⟩
            · refine .inr ⟨by decide, 0, 5, by decide +kernel, by decide +kernel, fun p γ a wx _ _ hp hk => wantWp_guard (b := bb) (t := 74) rfl rfl rfl (hk.2.1 6 _ 74 rfl rfl (by decide +kernel)) (fun hz => ⟨undef, (), rfl, fun _ _ _ h => h, fun h => absurd (hz.symm.trans h) (by decide), hp⟩) (fun hz => ?_)⟩
              obtain ⟨u1, hu1, ru1⟩ := hk.2.1 7 _ 75 rfl rfl (by decide +kernel)
              replace ru1 : u1 = _ := ru1 hz
              subst ru1
              have c1 : wx.cell? ⟨w3.heap.size, 1, none⟩ = some (.slice aj2 k cj2) := hp.up.cell 1
              simp [go_sem, Oper.wp, execOp, Act.eval, hu1, c1]
              first | exact ⟨_, rfl, (fun _ => rfl), hp⟩ | exact ⟨_, (), rfl, fun _ _ _ h => h, (fun _ => rfl), hp⟩ | exact ⟨_, rfl, fun _ _ _ h => h, (fun _ => rfl), hp⟩
            · refine .inr ⟨by decide, 0, 5, by decide +kernel, by decide +kernel, fun p γ a wx _ _ hp hk => wantWp_guard (b := bb) (t := 74) rfl rfl rfl (hk.2.1 6 _ 74 rfl rfl (by decide +kernel)) (fun hz => ⟨undef, (), rfl, fun _ _ _ h => h, fun h => absurd (hz.symm.trans h) (by decide), hp⟩) (fun hz => ?_)⟩
              have h1 := hk.1 2 _ rfl (by decide +kernel)
              simp [go_sem, Oper.wp, execOp, Act.eval, h1]
              first | exact ⟨_, rfl, (fun _ => rfl), hp⟩ | exact ⟨_, (), rfl, fun _ _ _ h => h, (fun _ => rfl), hp⟩ | exact ⟨_, rfl, fun _ _ _ h => h, (fun _ => rfl), hp⟩
            · refine .inr ⟨by decide, 0, 5, by decide +kernel, by decide +kernel, fun p γ a wx _ _ hp hk => wantWp_guard (b := bb) (t := 74) rfl rfl rfl (hk.2.1 6 _ 74 rfl rfl (by decide +kernel)) (fun hz => ⟨undef, (), rfl, fun _ _ _ h => h, fun h => absurd (hz.symm.trans h) (by decide), hp⟩) (fun hz => ?_)⟩
              obtain ⟨u1, hu1, ru1⟩ := hk.2.1 9 _ 77 rfl rfl (by decide +kernel)
              replace ru1 : u1 = _ := ru1 hz
              subst ru1
              have c1 : wx.cell? ⟨w.heap.size, 1, none⟩ = some (.slice aj k cj) := hp.box.cell 1
              simp [go_sem, Oper.wp, execOp, Act.eval, hu1, c1]
              first | exact ⟨_, rfl, (fun _ => rfl), hp⟩ | exact ⟨_, (), rfl, fun _ _ _ h => h, (fun _ => rfl), hp⟩ | exact ⟨_, rfl, fun _ _ _ h => h, (fun _ => rfl), hp⟩
            · refine .inl ⟨0, rfl, fun γ a wx hp hk => wantWp_guard (b := bb) (t := 74) rfl rfl rfl (hk.2.1 6 _ 74 rfl rfl (by decide +kernel)) (fun hz => ⟨undef, (), rfl, fun _ _ _ h => h, fun h => absurd (hz.symm.trans h) (by decide), hp.kept (Below.refl _ _) (by simp)⟩) (fun hz => ?_)⟩
              obtain ⟨u1, hu1, ru1⟩ := hk.2.1 8 _ 76 rfl rfl (by decide +kernel)
              replace ru1 : u1 = _ := ru1 hz
              subst ru1
              obtain ⟨u2, hu2, ru2⟩ := hk.2.1 10 _ 78 rfl rfl (by decide +kernel)
              replace ru2 : u2 = _ := ru2 hz
              subst ru2
              simp [go_sem, Oper.wp, execOp, Act.eval, hu1, hu2]
              refine (sleq_job ujobs jobs _ _ _ _ _ _ wx (own_slAt hp.ownu.j) ((HS.out.up hp.below).j) hp.ownu.lj HS.out.lj (by dsimp only; omega) (by dsimp only; omega)).mono ?_
              rintro e w' ⟨t, rfl, ht, hb⟩
              have hk' := hp.kept (q := 1) hb (by simp)
              rw [show t = eqS ujobs jobs from eqS_of ht]
              first | exact ⟨_, rfl, (fun _ => rfl), hk'⟩ | exact ⟨_, (), rfl, fun _ _ _ h => h, (fun _ => rfl), hk'⟩ | exact ⟨_, rfl, fun _ _ _ h => h, (fun _ => rfl), hk'⟩
            · refine .inl ⟨1, rfl, fun γ a wx hp0 hk => wantWp_free rfl ?_⟩
              have hp := hp0.kept (q := 2) (Below.refl _ _) (by simp)
              obtain ⟨u1, hu1, ru1⟩ := hk.2.1 6 _ 74 rfl rfl (by decide +kernel)
              replace ru1 : u1 = _ := ru1
              subst ru1
              obtain ⟨u2, hu2, ru2⟩ := hk.2.1 11 _ 79 rfl rfl (by decide +kernel)
              replace ru2 : bb = true → u2 = _ := ru2
              cases bb with
              | false =>
                simp [go_sem, Oper.wp, execOp, Act.eval, hu1, hu2]
                first | exact ⟨_, rfl, rfl, hp⟩ | exact ⟨_, (), rfl, fun _ _ _ h => h, rfl, hp⟩ | exact ⟨_, rfl, fun _ _ _ h => h, rfl, hp⟩
              | true =>
                replace ru2 := ru2 rfl
                subst ru2
                simp [go_sem, Oper.wp, execOp, Act.eval, hu1, hu2]
                first | exact ⟨_, rfl, rfl, hp⟩ | exact ⟨_, (), rfl, fun _ _ _ h => h, rfl, hp⟩ | exact ⟨_, rfl, fun _ _ _ h => h, rfl, hp⟩
            · refine .inl ⟨2, rfl, fun γ a wx hp0 hk => wantWp_free rfl ?_⟩
              have hp := hp0.kept (q := 3) (Below.refl _ _) (by simp)
              obtain ⟨u1, hu1, ru1⟩ := hk.2.1 12 _ 80 rfl rfl (by decide +kernel)
              replace ru1 : u1 = _ := ru1
              subst ru1
              simp [go_sem, Oper.wp, execOp, Act.eval, hu1]
              first | exact ⟨_, rfl, rfl, hp⟩ | exact ⟨_, (), rfl, fun _ _ _ h => h, rfl, hp⟩ | exact ⟨_, rfl, fun _ _ _ h => h, rfl, hp⟩
            · refine .inr ⟨by decide, 0, 5, by decide +kernel, by decide +kernel, fun p γ a wx _ _ hp hk => wantWp_guard (b := (bb && eqS ujobs jobs)) (t := 81) rfl rfl rfl (hk.2.1 13 _ 81 rfl rfl (by decide +kernel)) (fun hz => ⟨undef, (), rfl, fun _ _ _ h => h, fun h => absurd (hz.symm.trans h) (by decide), hp⟩) (fun hz => ?_)⟩
              have h1 := hk.1 11 _ rfl (by decide +kernel)
              simp [go_sem, Oper.wp, execOp, Act.eval, h1]
              first | exact ⟨_, rfl, (fun _ => rfl), hp⟩ | exact ⟨_, (), rfl, fun _ _ _ h => h, (fun _ => rfl), hp⟩ | exact ⟨_, rfl, fun _ _ _ h => h, (fun _ => rfl), hp⟩
            · refine .inr ⟨by decide, 0, 5, by decide +kernel, by decide +kernel, fun p γ a wx _ _ hp hk => wantWp_guard (b := (bb && eqS ujobs jobs)) (t := 81) rfl rfl rfl (hk.2.1 13 _ 81 rfl rfl (by decide +kernel)) (fun hz => ⟨undef, (), rfl, fun _ _ _ h => h, fun h => absurd (hz.symm.trans h) (by decide), hp⟩) (fun hz => ?_)⟩
              obtain ⟨u1, hu1, ru1⟩ := hk.2.1 14 _ 82 rfl rfl (by decide +kernel)
              replace ru1 : u1 = _ := ru1 hz
              subst ru1
              have c2 : wx.cell? ⟨w3.heap.size, 2, none⟩ = some (.slice an2 q cn2) := hp.up.cell 2
              simp [go_sem, Oper.wp, execOp, Act.eval, hu1, c2]
              first | exact ⟨_, rfl, (fun _ => rfl), hp⟩ | exact ⟨_, (), rfl, fun _ _ _ h => h, (fun _ => rfl), hp⟩ | exact ⟨_, rfl, fun _ _ _ h => h, (fun _ => rfl), hp⟩
            · refine .inr ⟨by decide, 0, 5, by decide +kernel, by decide +kernel, fun p γ a wx _ _ hp hk => wantWp_guard (b := (bb && eqS ujobs jobs)) (t := 81) rfl rfl rfl (hk.2.1 13 _ 81 rfl rfl (by decide +kernel)) (fun hz => ⟨undef, (), rfl, fun _ _ _ h => h, fun h => absurd (hz.symm.trans h) (by decide), hp⟩) (fun hz => ?_)⟩
              have h1 := hk.1 2 _ rfl (by decide +kernel)
              simp [go_sem, Oper.wp, execOp, Act.eval, h1]
              first | exact ⟨_, rfl, (fun _ => rfl), hp⟩ | exact ⟨_, (), rfl, fun _ _ _ h => h, (fun _ => rfl), hp⟩ | exact ⟨_, rfl, fun _ _ _ h => h, (fun _ => rfl), hp⟩
            · refine .inr ⟨by decide, 0, 5, by decide +kernel, by decide +kernel, fun p γ a wx _ _ hp hk => wantWp_guard (b := (bb && eqS ujobs jobs)) (t := 81) rfl rfl rfl (hk.2.1 13 _ 81 rfl rfl (by decide +kernel)) (fun hz => ⟨undef, (), rfl, fun _ _ _ h => h, fun h => absurd (hz.symm.trans h) (by decide), hp⟩) (fun hz => ?_)⟩
              obtain ⟨u1, hu1, ru1⟩ := hk.2.1 16 _ 84 rfl rfl (by decide +kernel)
              replace ru1 : u1 = _ := ru1 hz
              subst ru1
              have c2 : wx.cell? ⟨w.heap.size, 2, none⟩ = some (.slice an q cn) := hp.box.cell 2
              simp [go_sem, Oper.wp, execOp, Act.eval, hu1, c2]
              first | exact ⟨_, rfl, (fun _ => rfl), hp⟩ | exact ⟨_, (), rfl, fun _ _ _ h => h, (fun _ => rfl), hp⟩ | exact ⟨_, rfl, fun _ _ _ h => h, (fun _ => rfl), hp⟩
            · refine .inl ⟨3, rfl, fun γ a wx hp hk => wantWp_guard (b := (bb && eqS ujobs jobs)) (t := 81) rfl rfl rfl (hk.2.1 13 _ 81 rfl rfl (by decide +kernel)) (fun hz => ⟨undef, (), rfl, fun _ _ _ h => h, fun h => absurd (hz.symm.trans h) (by decide), hp.kept (Below.refl _ _) (by simp)⟩) (fun hz => ?_)⟩
              obtain ⟨u1, hu1, ru1⟩ := hk.2.1 15 _ 83 rfl rfl (by decide +kernel)
              replace ru1 : u1 = _ := ru1 hz
              subst ru1
              obtain ⟨u2, hu2, ru2⟩ := hk.2.1 17 _ 85 rfl rfl (by decide +kernel)
              replace ru2 : u2 = _ := ru2 hz
              subst ru2
              simp [go_sem, Oper.wp, execOp, Act.eval, hu1, hu2]
              refine (sleq_node unodes nodes _ _ _ _ _ _ wx (own_slAt hp.ownu.n) ((HS.out.up hp.below).n) hp.ownu.ln HS.out.ln (by dsimp only; omega) (by dsimp only; omega)).mono ?_
              rintro e w' ⟨t, rfl, ht, hb⟩
              have hk' := hp.kept (q := 4) hb (by simp)
              rw [show t = eqS unodes nodes from eqS_of ht]
              first | exact ⟨_, rfl, (fun _ => rfl), hk'⟩ | exact ⟨_, (), rfl, fun _ _ _ h => h, (fun _ => rfl), hk'⟩ | exact ⟨_, rfl, fun _ _ _ h => h, (fun _ => rfl), hk'⟩
            · refine .inr ⟨by decide, 0, 5, by decide +kernel, by decide +kernel, fun p γ a wx _ _ hp hk => wantWp_free rfl ?_⟩
              obtain ⟨u1, hu1, ru1⟩ := hk.2.1 13 _ 81 rfl rfl (by decide +kernel)
              replace ru1 : u1 = .bool (bb && eqS ujobs jobs) := ru1
              subst ru1
              obtain ⟨u2, hu2, ru2⟩ := hk.2.1 18 _ 86 rfl rfl (by decide +kernel)
              replace ru2 : (bb && eqS ujobs jobs) = true → u2 = _ := ru2
              have hV : ∀ z, z = .bool ((bb && eqS ujobs jobs) && eqS unodes nodes) → dnV w.heap.size w3.heap.size #[.int .i64 0, .slice aj1 k cj1, .slice an1 q cn1, .slice al1 nl cl1] ⟨urev, ujobs, unodes, uleases⟩ ⟨rev, jobs, nodes, leases⟩ ⟨aj2, k, cj2, an2, q, cn2, al2, nl, cl2⟩ ⟨aj, k, cj, an, q, cn, al, nl, cl⟩ bb (eqS ujobs jobs) (eqS unodes nodes) 19 z := fun _ h => h
              generalize (bb && eqS ujobs jobs) = b2 at hu1 ru2 hV
              cases b2 with
              | false =>
                simp [go_sem, Oper.wp, execOp, Act.eval, hu1, hu2]
                first | exact ⟨_, rfl, hV _ rfl, hp⟩ | exact ⟨_, (), rfl, fun _ _ _ h => h, hV _ rfl, hp⟩ | exact ⟨_, rfl, fun _ _ _ h => h, hV _ rfl, hp⟩
              | true =>
                replace ru2 := ru2 rfl
                subst ru2
                simp [go_sem, Oper.wp, execOp, Act.eval, hu1, hu2]
                first | exact ⟨_, rfl, hV _ rfl, hp⟩ | exact ⟨_, (), rfl, fun _ _ _ h => h, hV _ rfl, hp⟩ | exact ⟨_, rfl, fun _ _ _ h => h, hV _ rfl, hp⟩
            · refine .inl ⟨4, rfl, fun γ a wx hp hk => wantWp_free rfl ?_⟩
              obtain ⟨u1, hu1, ru1⟩ := hk.2.1 0 _ 68 rfl rfl (by decide +kernel)
              replace ru1 : u1 = _ := ru1
              subst ru1
              have h1 := hk.1 4 _ rfl (by decide +kernel)
              have hR : Blk wx (w.heap.size + 1) 26 #[.int .i64 0, .slice none 0 0, .slice none 0 0, .slice none 0 0] := hp.res
              have z0 : wx.frozen? ⟨w.heap.size + 1, 0, none⟩ = false := hR.thaw 0
              have s0 : wx.cell? ⟨w.heap.size + 1, 0, none⟩ = some (.int .i64 0) := hR.cell 0
              have z1 : wx.frozen? ⟨w.heap.size + 1, 1, none⟩ = false := hR.thaw 1
              have s1 : wx.cell? ⟨w.heap.size + 1, 1, none⟩ = some (.slice none 0 0) := hR.cell 1
              have z2 : wx.frozen? ⟨w.heap.size + 1, 2, none⟩ = false := hR.thaw 2
              have s2 : wx.cell? ⟨w.heap.size + 1, 2, none⟩ = some (.slice none 0 0) := hR.cell 2
              have z3 : wx.frozen? ⟨w.heap.size + 1, 3, none⟩ = false := hR.thaw 3
              have s3 : wx.cell? ⟨w.heap.size + 1, 3, none⟩ = some (.slice none 0 0) := hR.cell 3
              have hrl := hR.lt
              have hfin := hp.store
              clear hp hR
              simp [go_sem, Oper.wp, execOp, Act.eval, hu1, h1, s0, s1, s2, s3, z0, z1, z2, z3]
              first | exact ⟨⟨.int .i64 0, trivial⟩, hfin⟩ | exact ⟨.int .i64 0, trivial, hfin⟩ | exact ⟨.int .i64 0, (), fun _ _ _ h => h, trivial, hfin⟩ | exact hfin
            · refine .inr ⟨by decide, 0, 5, by decide +kernel, by decide +kernel, fun p γ a wx _ _ hp hk => wantWp_free rfl ?_⟩
              obtain ⟨u1, hu1, ru1⟩ := hk.2.1 19 _ 87 rfl rfl (by decide +kernel)
              replace ru1 : u1 = _ := ru1
              subst ru1
              simp [go_sem, Oper.wp, execOp, Act.eval, hu1]
              first | exact ⟨_, rfl, rfl, hp⟩ | exact ⟨_, (), rfl, fun _ _ _ h => h, rfl, hp⟩ | exact ⟨_, rfl, fun _ _ _ h => h, rfl, hp⟩
            · refine .inr ⟨by decide, 0, 5, by decide +kernel, by decide +kernel, fun p γ a wx _ _ hp hk => wantWp_free rfl ?_⟩
              simp [go_sem, Oper.wp, execOp, Act.eval]
              first | exact ⟨_, rfl, rfl, hp⟩ | exact ⟨_, (), rfl, fun _ _ _ h => h, rfl, hp⟩ | exact ⟨_, rfl, fun _ _ _ h => h, rfl, hp⟩
          intro γ act wx hd
          have hp := hd.ph
          obtain ⟨fv, rfl, hfv⟩ := hd.frame [68, 69, 70, 71, 72, 73, 74, 75, 76, 77, 78, 79, 80, 81, 82, 83, 84, 85, 86, 87, 5, 6] rfl
          have h5 : fv 5 = .bool (bb && eqS ujobs jobs && eqS unodes nodes) := hfv 21 _ 5 rfl rfl
          have h6 : fv 6 = .int .i64 0 := hfv 22 _ 6 rfl rfl
          have hR : Blk wx (w.heap.size + 1) 26 #[.int .i64 0, .slice aj1 k cj1, .slice an1 q cn1, .slice al1 nl cl1] := hp.res
          have r0 : wx.cell? ⟨w.heap.size + 1, 0, none⟩ = some (.int .i64 0) := hR.cell 0
          have r1 : wx.cell? ⟨w.heap.size + 1, 1, none⟩ = some (.slice aj1 k cj1) := hR.cell 1
          have r2 : wx.cell? ⟨w.heap.size + 1, 2, none⟩ = some (.slice an1 q cn1) := hR.cell 2
          have r3 : wx.cell? ⟨w.heap.size + 1, 3, none⟩ = some (.slice al1 nl cl1) := hR.cell 3
          have hOk := downSt_ok (c := 2) HS.out.oj HS.out.on_
          have hAt := hp.ownd.at_ (by dsimp only; omega) (by dsimp only; omega) (by dsimp only; omega) hOk.1 hOk.2 HS.out.ol
          have hkb := keptB_eq (st := ⟨rev, jobs, nodes, leases⟩) (c := 2) (t1 := eqS ujobs jobs) (t2 := eqS unodes nodes) (by rw [Hdn.out, HUP.out]; exact eqS_iff) (by rw [Hdn.out, HUP.out]; exact eqS_iff)
          rw [Hdn.out, HUP.out] at hkb
          dsimp only at hkb
          rw [Hbb.out] at hkb
          have Hend := Lib.hid (show DnPost ⟨rev, jobs, nodes, leases⟩ 2 w (.returned (.tuple #[.agg #[.int .i64 0, .slice aj1 k cj1, .slice an1 q cn1, .slice al1 nl cl1], .bool (bb && eqS ujobs jobs && eqS unodes nodes), .int .i64 0])) wx from ⟨_, _, _, 0, rfl, by rw [Hev.out, Hdn.out, hkb], hAt, hp.below⟩)
          clear hd hp hfv hR hOk hAt hkb H0
          simp [Exit.then, h5, h6]
          go_wp2
          refine bodyPost_ret (v := .tuple #[.agg #[.int .i64 0, .slice aj1 k cj1, .slice an1 q cn1, .slice al1 nl cl1], .bool (bb && eqS ujobs jobs && eqS unodes nodes), .int .i64 0]) (by simp [results, Tryd.results12, go_sem, *]) rfl ?_
          exact Hend.out
set_option maxRecDepth 100000 in
set_option maxHeartbeats 4000000 in
theorem down_3 (st : StateD) (x : StA) (h0 : checkE st = 0) (w : World) (hS : StAt w w.heap.size st x) (hT : Tabs w) :
    Calls Tryd.prog 12 #[.agg (stC st x), .int .i64 3] w (DnPost st 3 w) := by
  have hb1 : Below w.heap.size w (w.alloc (.cells (stC st x) 26)) := (Below.refl _ _).alloc (Nat.le_refl _) _
  have hb2 := hb1.alloc hb1.size (.cells #[.int .i64 0, .slice none 0 0, .slice none 0 0, .slice none 0 0] 26)
  have hBS : Blk ((w.alloc (.cells (stC st x) 26)).alloc (.cells #[.int .i64 0, .slice none 0 0, .slice none 0 0, .slice none 0 0] 26)) w.heap.size 26 (stC st x) := Blk.alloc (show Blk _ _ _ _ from heap_alloc_new w _) _
  have hBR : Blk ((w.alloc (.cells (stC st x) 26)).alloc (.cells #[.int .i64 0, .slice none 0 0, .slice none 0 0, .slice none 0 0] 26)) (w.heap.size + 1) 26 #[.int .i64 0, .slice none 0 0, .slice none 0 0, .slice none 0 0] := by
    have h := heap_alloc_new (w.alloc (.cells (stC st x) 26)) (.cells #[.int .i64 0, .slice none 0 0, .slice none 0 0, .slice none 0 0] 26)
    rwa [show (w.alloc (.cells (stC st x) 26)).heap.size = w.heap.size + 1 by simp] at h
  have hChk := scheck_any st x _ (hS.up hb2) (hT.below hb2)
  have Hnone := Lib.hid (fun E (h : downF st 3 = (zeroSt, false, E)) w' => DnPost.none_ (w := w) (w' := w') h)
  have HS := Lib.hid hS
  have Hb2 := Lib.hid hb2
  have HBS := Lib.hid hBS
  have HBR := Lib.hid hBR
  clear hb1 hb2 hS hBS hBR hT
  have Hsz := Lib.hid (ck_sizes h0)
  have Hev := Lib.hid (downF_ok (c := 3) h0 (by decide))
  have Hdn := Lib.hid (show downSt st 3 = ⟨st.rev, st.jobs.map (downJ 3), st.nodes.map (downN 3), st.leases⟩ from rfl)
  have Htr := Lib.hid (fun h => down_tries (st := st) (c := 3) h)
  rw [h0] at hChk
  have HChk := Lib.hid hChk
  clear hChk h0
  obtain ⟨rev, jobs, nodes, leases⟩ := st
  obtain ⟨aj, nj, cj, an, nn, cn, al, nl, cl⟩ := x
  unfold stC at *
  dsimp only at *
  go_enter Tryd.func12, Tryd.ntmps12
  go_wp2_with fail
  refine Calls.mono HChk.out ?_
  rintro e w1 ⟨rfl, hb⟩
  have Hb1 := Lib.hid (Hb2.out.trans (hb.mono Hb2.out.size))
  have HB1 := Lib.hid (HBS.out.below hb HBS.out.lt)
  have HR1 := Lib.hid (HBR.out.below hb HBR.out.lt)
  have hbl := HB1.out.lt
  have hrl := HR1.out.lt
  clear hb HBS HBR HChk
  clear Hnone
  have hl1 : nj ≤ 40 := by have := HS.out.lj; have := Hsz.out; dsimp only at *; omega
  have hl2 : nn ≤ 20 := by have := HS.out.ln; have := Hsz.out; dsimp only at *; omega
  have hl3 : nl ≤ 40 := by have := HS.out.ll; have := Hsz.out; dsimp only at *; omega
  have hnj : jobs.length = nj := HS.out.lj
  have hnn : nodes.length = nn := HS.out.ln
  have HOw := Lib.hid (uown_any ⟨rev, jobs, nodes, leases⟩ ⟨aj, nj, cj, an, nn, cn, al, nl, cl⟩ w1 (HS.out.up Hb1.out) (by dsimp only; omega) (by dsimp only; omega) (by dsimp only; omega))
  unfold stC at HOw
  dsimp only at HOw
  have b0 : w1.cell? ⟨w.heap.size, 0, none⟩ = some (.int .i64 rev) := HB1.out.cell 0
  have b1 : w1.cell? ⟨w.heap.size, 1, none⟩ = some (.slice aj nj cj) := HB1.out.cell 1
  have b2 : w1.cell? ⟨w.heap.size, 2, none⟩ = some (.slice an nn cn) := HB1.out.cell 2
  have b3 : w1.cell? ⟨w.heap.size, 3, none⟩ = some (.slice al nl cl) := HB1.out.cell 3
  go_wp2_with fail
  refine Calls.mono HOw.out ?_
  rintro e w2 ⟨x1, rfl, e1, e2, e3, hO, hb⟩
  obtain ⟨aj1, nj1, cj1, an1, nn1, cn1, al1, nl1, cl1⟩ := x1
  dsimp only at e1 e2 e3
  have e1' := e1.symm
  have e2' := e2.symm
  have e3' := e3.symm
  clear e1 e2 e3 b0 b1 b2 b3
  subst e1' e2' e3'
  unfold stC
  dsimp only
  have hA : Below w2.heap.size w2 (w2.alloc (.cells #[.int .i64 rev, .slice aj1 nj cj1, .slice an1 nn cn1, .slice al1 nl cl1] 26)) := (Below.refl _ _).alloc (Nat.le_refl _) _
  have hbA := hb.trans (hA.mono hb.size)
  have HD0 := Lib.hid (show DnAt w (w2.alloc (.cells #[.int .i64 rev, .slice aj1 nj cj1, .slice an1 nn cn1, .slice al1 nl cl1] 26)) (w1.heap.size + 2) w2.heap.size #[.int .i64 rev, .slice aj nj cj, .slice an nn cn, .slice al nl cl] #[.int .i64 rev, .slice aj1 nj cj1, .slice an1 nn cn1, .slice al1 nl cl1] ⟨rev, jobs, nodes, leases⟩ ⟨aj1, nj, cj1, an1, nn, cn1, al1, nl, cl1⟩ from
    ⟨Hb1.out.trans (hbA.mono Hb1.out.size), HB1.out.below hbA hbl, HR1.out.below hbA hrl, heap_alloc_new w2 _, ⟨ownU_below hO.j hA, ownU_below hO.n hA, ownU_below hO.l hA, hO.lj, hO.ln, hO.ll⟩, by omega, by have := hb.size; omega⟩)
  have hW12 := hb.size
  clear hA hbA hO hb HOw
  have y1 : (w2.alloc (.cells #[.int .i64 rev, .slice aj1 nj cj1, .slice an1 nn cn1, .slice al1 nl cl1] 26)).cell? ⟨w2.heap.size, 1, none⟩ = some (.slice aj1 nj cj1) := HD0.out.new.cell 1
  go_wp2
  go_loopw [33] (fun i wr => ∃ k : Nat, k ≤ nj ∧ i = .int .i64 k ∧ DnAt w wr (w1.heap.size + 2) w2.heap.size #[.int .i64 rev, .slice aj nj cj, .slice an nn cn, .slice al nl cl] #[.int .i64 rev, .slice aj1 nj cj1, .slice an1 nn cn1, .slice al1 nl cl1] ⟨rev, mapK (downJ 3) jobs k, nodes, leases⟩ ⟨aj1, nj, cj1, an1, nn, cn1, al1, nl, cl1⟩) (fun i _ => nj - (intOf i).toNat)
  case atStart => exact ⟨0, Nat.zero_le _, rfl, HD0.out⟩
  case round =>
    clear HD0 y1
    obtain ⟨k, hk, rfl, hst⟩ := hrel
    have HD := Lib.hid hst
    have hbl := hst.box.lt
    have hDl := hst.new.lt
    clear hst
    by_cases hlt : k < nj
    · obtain ⟨y, hf⟩ : ∃ y, jobs[k]? = some y := ⟨_, List.getElem?_eq_getElem (by omega)⟩
      have hfk : (mapK (downJ 3) jobs k)[k]? = some y := by rw [mapK_get]; exact hf
      have HD3 := Lib.hid HD.out
      rw [← mapK_same hf (downJ_3 y)] at HD3
      clear hf hfk HD
      go_wp2
      go_roundw
      case rel => exact ⟨k + 1, by omega, by go_num, HD3.out⟩
      case measure => simp [intOf]; omega
    · obtain rfl : k = nj := by omega
      have hst := HD.out
      rw [mapK_all _ (by omega)] at hst
      have HSB := Lib.hid hst
      have y2 : wr.cell? ⟨w2.heap.size, 2, none⟩ = some (.slice an1 nn cn1) := hst.new.cell 2
      clear hst HD
      go_wp2
      go_loopw [54] (fun i wr => ∃ q : Nat, q ≤ nn ∧ i = .int .i64 q ∧ DnAt w wr (w1.heap.size + 2) w2.heap.size #[.int .i64 rev, .slice aj k cj, .slice an nn cn, .slice al nl cl] #[.int .i64 rev, .slice aj1 k cj1, .slice an1 nn cn1, .slice al1 nl cl1] ⟨rev, jobs.map (downJ 3), mapK (downN 3) nodes q, leases⟩ ⟨aj1, k, cj1, an1, nn, cn1, al1, nl, cl1⟩) (fun i _ => nn - (intOf i).toNat)
      case atStart => exact ⟨0, Nat.zero_le _, rfl, HSB.out⟩
      case round =>
        clear HSB y2 hbl hDl
        obtain ⟨q, hq, rfl, hst⟩ := hrel
        have HD := Lib.hid hst
        have hbl := hst.box.lt
        have hDl := hst.new.lt
        clear hst
        by_cases hltq : q < nn
        · obtain ⟨y, hf⟩ : ∃ y, nodes[q]? = some y := ⟨_, List.getElem?_eq_getElem (by omega)⟩
          have hfk : (mapK (downN 3) nodes q)[q]? = some y := by rw [mapK_get]; exact hf
          have HD3 := Lib.hid HD.out
          rw [← mapK_same hf (downN_3 y)] at HD3
          clear hf hfk HD
          go_wp2
          go_roundw
          case rel => exact ⟨q + 1, by omega, by go_num, HD3.out⟩
          case measure => simp [intOf]; omega
        · obtain rfl : q = nn := by omega
          have hst := HD.out
          rw [mapK_all _ (by omega)] at hst
          have HSB := Lib.hid hst
          have hOk := downSt_ok (c := 3) HS.out.oj HS.out.on_
          have hAt := hst.own.at_ (by dsimp only; omega) (by dsimp only; omega) (by dsimp only; omega) hOk.1 hOk.2 HS.out.ol
          have HAt := Lib.hid hAt
          have HC := Lib.hid (steps_any _ _ 3 3 wr hAt (by dsimp only; omega) (by dsimp only; omega) (by dsimp only; omega) (by decide) (by decide) (by decide) (fun h => by have := Htr.out h; rwa [Hdn.out] at this))
          unfold stC at HC
          dsimp only at HC
          have hDl := hst.new.lt
          clear hst HD hAt hOk Htr
          have b0 : wr.cell? ⟨w2.heap.size, 0, none⟩ = some (.int .i64 rev) := HSB.out.new.cell 0
          have b1 : wr.cell? ⟨w2.heap.size, 1, none⟩ = some (.slice aj1 k cj1) := HSB.out.new.cell 1
          have b2 : wr.cell? ⟨w2.heap.size, 2, none⟩ = some (.slice an1 q cn1) := HSB.out.new.cell 2
          have b3 : wr.cell? ⟨w2.heap.size, 3, none⟩ = some (.slice al1 nl cl1) := HSB.out.new.cell 3
          go_wp2_with fail
          refine Calls.mono HC.out ?_
          rintro e w3 ⟨x2, rfl, e1, e2, e3, hO, hb⟩
          obtain ⟨UP, hUP⟩ : ∃ u, upSt ⟨rev, jobs.map (downJ 3), nodes.map (downN 3), leases⟩ 3 3 = u := ⟨_, rfl⟩
          rw [hUP] at hO
          have HUP := Lib.hid hUP
          obtain ⟨aj2, nj2, cj2, an2, nn2, cn2, al2, nl2, cl2⟩ := x2
          dsimp only at e1 e2 e3
          have e1' := e1.symm
          have e2' := e2.symm
          have e3' := e3.symm
          clear e1 e2 e3 b0 b1 b2 b3 HC
          subst e1' e2' e3'
          rw [hUP]
          clear hUP
          obtain ⟨urev, ujobs, unodes, uleases⟩ := UP
          unfold stC
          dsimp only
          have hA : Below w3.heap.size w3 (w3.alloc (.cells #[.int .i64 urev, .slice aj2 k cj2, .slice an2 q cn2, .slice al2 nl cl2] 26)).drew := ((Below.refl _ _).alloc (Nat.le_refl _) _).drew
          have hbA := hb.trans (hA.mono hb.size)
          have hst := HSB.out
          have hsl := hst.below.size
          have H0 : DnEnd w (w1.heap.size + 2) wr.heap.size w2.heap.size w3.heap.size ⟨rev, jobs, nodes, leases⟩ ⟨rev, jobs.map (downJ 3), nodes.map (downN 3), leases⟩ ⟨urev, ujobs, unodes, uleases⟩ ⟨aj, k, cj, an, q, cn, al, nl, cl⟩ ⟨aj1, k, cj1, an1, q, cn1, al1, nl, cl1⟩ ⟨aj2, k, cj2, an2, q, cn2, al2, nl, cl2⟩ 0 (w3.alloc (.cells #[.int .i64 urev, .slice aj2 k cj2, .slice an2 q cn2, .slice al2 nl cl2] 26)).drew :=
            ⟨hst.below.trans (hbA.mono hsl), hst.box.below hbA hst.box.lt, hst.new.below hbA hDl, heap_alloc_new w3 _, hst.res.below hbA hst.res.lt, hst.own.kept hbA, hO.kept hA, by have := hb.size; have := hst.le; omega⟩
          have hrw := HSB.out.res.lt
          clear hA hbA hO hb hst HSB
          obtain ⟨bb, hbb⟩ : ∃ b, decide (urev = rev) = b := ⟨_, rfl⟩
          have Hbb := Lib.hid hbb
          clear hbb
          go_wp2_with fail
          refine wp_region_phasesQ (n := 88) (by kernel_rfl) (fun _ : Unit => dnV w.heap.size w3.heap.size #[.int .i64 rev, .slice aj1 k cj1, .slice an1 q cn1, .slice al1 nl cl1] ⟨urev, ujobs, unodes, uleases⟩ ⟨rev, jobs, nodes, leases⟩ ⟨aj2, k, cj2, an2, q, cn2, al2, nl, cl2⟩ ⟨aj, k, cj, an, q, cn, al, nl, cl⟩ bb (eqS ujobs jobs) (eqS unodes nodes)) [11, 12, 13, 18, 20] (fun p _ w' => DnEnd w (w1.heap.size + 2) wr.heap.size w2.heap.size w3.heap.size ⟨rev, jobs, nodes, leases⟩ ⟨rev, jobs.map (downJ 3), nodes.map (downN 3), leases⟩ ⟨urev, ujobs, unodes, uleases⟩ ⟨aj, k, cj, an, q, cn, al, nl, cl⟩ ⟨aj1, k, cj1, an1, q, cn1, al1, nl, cl1⟩ ⟨aj2, k, cj2, an2, q, cn2, al2, nl, cl2⟩ p w') () (by decide +kernel) (by decide +kernel) rfl H0 ?_ ?_
          · refine ⟨?_, ?_, ?_, ?_, ?_, ?_, ?_, ?_, ?_, ?_, ?_, ?_, ?_, ?_, ?_, ?_, ?_, ?_, ?_, ?_, ?_, ?_, ?_, trivial⟩
            · refine .inr ⟨by decide, 0, 5, by decide +kernel, by decide +kernel, fun p γ a wx _ _ hp hk => wantWp_free rfl ?_⟩
              have h1 := hk.1 8 _ rfl (by decide +kernel)
              have c0 : wx.cell? ⟨w2.heap.size, 0, none⟩ = some (.int .i64 rev) := hp.new.cell 0
              have c1 : wx.cell? ⟨w2.heap.size, 1, none⟩ = some (.slice aj1 k cj1) := hp.new.cell 1
              have c2 : wx.cell? ⟨w2.heap.size, 2, none⟩ = some (.slice an1 q cn1) := hp.new.cell 2
              have c3 : wx.cell? ⟨w2.heap.size, 3, none⟩ = some (.slice al1 nl cl1) := hp.new.cell 3
              simp [go_sem, Oper.wp, execOp, Act.eval, h1, c0, c1, c2, c3]
              first | exact ⟨_, rfl, rfl, hp⟩ | exact ⟨_, (), rfl, fun _ _ _ h => h, rfl, hp⟩ | exact ⟨_, rfl, fun _ _ _ h => h, rfl, hp⟩
            · refine .inr ⟨by decide, 0, 5, by decide +kernel, by decide +kernel, fun p γ a wx _ _ hp hk => wantWp_free rfl ?_⟩
              have h1 := hk.1 11 _ rfl (by decide +kernel)
              simp [go_sem, Oper.wp, execOp, Act.eval, h1]
              first | exact ⟨_, rfl, rfl, hp⟩ | exact ⟨_, (), rfl, fun _ _ _ h => h, rfl, hp⟩ | exact ⟨_, rfl, fun _ _ _ h => h, rfl, hp⟩
            · refine .inr ⟨by decide, 0, 5, by decide +kernel, by decide +kernel, fun p γ a wx _ _ hp hk => wantWp_free rfl ?_⟩
              obtain ⟨u1, hu1, ru1⟩ := hk.2.1 1 _ 69 rfl rfl (by decide +kernel)
              replace ru1 : u1 = _ := ru1
              subst ru1
              have c0 : wx.cell? ⟨w3.heap.size, 0, none⟩ = some (.int .i64 urev) := hp.up.cell 0
              simp [go_sem, Oper.wp, execOp, Act.eval, hu1, c0]
              first | exact ⟨_, rfl, rfl, hp⟩ | exact ⟨_, (), rfl, fun _ _ _ h => h, rfl, hp⟩ | exact ⟨_, rfl, fun _ _ _ h => h, rfl, hp⟩
            · refine .inr ⟨by decide, 0, 5, by decide +kernel, by decide +kernel, fun p γ a wx _ _ hp hk => wantWp_free rfl ?_⟩
              have h1 := hk.1 2 _ rfl (by decide +kernel)
              simp [go_sem, Oper.wp, execOp, Act.eval, h1]
              first | exact ⟨_, rfl, rfl, hp⟩ | exact ⟨_, (), rfl, fun _ _ _ h => h, rfl, hp⟩ | exact ⟨_, rfl, fun _ _ _ h => h, rfl, hp⟩
            · refine .inr ⟨by decide, 0, 5, by decide +kernel, by decide +kernel, fun p γ a wx _ _ hp hk => wantWp_free rfl ?_⟩
              obtain ⟨u1, hu1, ru1⟩ := hk.2.1 3 _ 71 rfl rfl (by decide +kernel)
              replace ru1 : u1 = _ := ru1
              subst ru1
              have c0 : wx.cell? ⟨w.heap.size, 0, none⟩ = some (.int .i64 rev) := hp.box.cell 0
              simp [go_sem, Oper.wp, execOp, Act.eval, hu1, c0]
              first | exact ⟨_, rfl, rfl, hp⟩ | exact ⟨_, (), rfl, fun _ _ _ h => h, rfl, hp⟩ | exact ⟨_, rfl, fun _ _ _ h => h, rfl, hp⟩
            · refine .inr ⟨by decide, 0, 5, by decide +kernel, by decide +kernel, fun p γ a wx _ _ hp hk => wantWp_free rfl ?_⟩
              obtain ⟨u1, hu1, ru1⟩ := hk.2.1 2 _ 70 rfl rfl (by decide +kernel)
              replace ru1 : u1 = _ := ru1
              subst ru1
              obtain ⟨u2, hu2, ru2⟩ := hk.2.1 4 _ 72 rfl rfl (by decide +kernel)
              replace ru2 : u2 = _ := ru2
              subst ru2
              simp [go_sem, Oper.wp, execOp, Act.eval, hu1, hu2]
              first | exact ⟨_, rfl, (show _ = _ by rw [← Hbb.out]; first | rfl | simp), hp⟩ | exact ⟨_, (), rfl, fun _ _ _ h => h, (show _ = _ by rw [← Hbb.out]; first | rfl | simp), hp⟩ | exact ⟨_, rfl, fun _ _ _ h => h, (show _ = _ by rw [← Hbb.out]; first | rfl | simp), hp⟩
            · refine .inr ⟨by decide, 0, 5, by decide +kernel, by decide +kernel, fun p γ a wx _ _ hp hk => wantWp_free rfl ?_⟩
              obtain ⟨u1, hu1, ru1⟩ := hk.2.1 5 _ 73 rfl rfl (by decide +kernel)
              replace ru1 : u1 = _ := ru1
              subst ru1
              simp [go_sem, Oper.wp, execOp, Act.eval, hu1]
              first | exact ⟨_, rfl, rfl, hp⟩ | exact ⟨_, (), rfl, fun _ _ _ h => h, rfl, hp⟩ | exact ⟨_, rfl, fun _ _ _ h => h, rfl, hp⟩
            · refine .inr ⟨by decide, 0, 5, by decide +kernel, by decide +kernel, fun p γ a wx _ _ hp hk => wantWp_guard (b := bb) (t := 74) rfl rfl rfl (hk.2.1 6 _ 74 rfl rfl (by decide +kernel)) (fun hz => ⟨undef, (), rfl, fun _ _ _ h => h, fun h => absurd (hz.symm.trans h) (by decide), hp⟩) (fun hz => ?_)⟩
              have h1 := hk.1 11 _ rfl (by decide +kernel)
              simp [go_sem, Oper.wp, execOp, Act.eval, h1]
              first | exact ⟨_, rfl, (fun _ => rfl), hp⟩ | exact ⟨_, (), rfl, fun _ _ _ h => h, (fun _ => rfl), hp⟩ | exact ⟨_, rfl, fun _ _ _ h => h, (fun _ => rfl), hp⟩
            · refine .inr ⟨by decide, 0, 5, by decide +kernel, by decide +kernel, fun p γ a wx _ _ hp hk => wantWp_guard (b := bb) (t := 74) rfl rfl rfl (hk.2.1 6 _ 74 rfl rfl (by decide +kernel)) (fun hz => ⟨undef, (), rfl, fun _ _ _ h => h, fun h => absurd (hz.symm.trans h) (by decide), hp⟩) (fun hz => ?_)⟩
              obtain ⟨u1, hu1, ru1⟩ := hk.2.1 7 _ 75 rfl rfl (by decide +kernel)
              replace ru1 : u1 = _ := ru1 hz
              subst ru1
              have c1 : wx.cell? ⟨w3.heap.size, 1, none⟩ = some (.slice aj2 k cj2) := hp.up.cell 1
              simp [go_sem, Oper.wp, execOp, Act.eval, hu1, c1]
              first | exact ⟨_, rfl, (fun _ => rfl), hp⟩ | exact ⟨_, (), rfl, fun _ _ _ h => h, (fun _ => rfl), hp⟩ | exact ⟨_, rfl, fun _ _ _ h => h, (fun _ => rfl), hp⟩
            · refine .inr ⟨by decide, 0, 5, by decide +kernel, by decide +kernel, fun p γ a wx _ _ hp hk => wantWp_guard (b := bb) (t := 74) rfl rfl rfl (hk.2.1 6 _ 74 rfl rfl (by decide +kernel)) (fun hz => ⟨undef, (), rfl, fun _ _ _ h => h, fun h => absurd (hz.symm.trans h) (by decide), hp⟩) (fun hz => ?_)⟩
              have h1 := hk.1 2 _ rfl (by decide +kernel)
              simp [go_sem, Oper.wp, execOp, Act.eval, h1]
              first | exact ⟨_, rfl, (fun _ => rfl), hp⟩ | exact ⟨_, (), rfl, fun _ _ _ h => h, (fun _ => rfl), hp⟩ | exact ⟨_, rfl, fun _ _ _ h => h, (fun _ => rfl), hp⟩
            · refine .inr ⟨by decide, 0, 5, by decide +kernel, by decide +kernel, fun p γ a wx _ _ hp hk => wantWp_guard (b := bb) (t := 74) rfl rfl rfl (hk.2.1 6 _ 74 rfl rfl (by decide +kernel)) (fun hz => ⟨undef, (), rfl, fun _ _ _ h => h, fun h => absurd (hz.symm.trans h) (by decide), hp⟩) (fun hz => ?_)⟩
              obtain ⟨u1, hu1, ru1⟩ := hk.2.1 9 _ 77 rfl rfl (by decide +kernel)
              replace ru1 : u1 = _ := ru1 hz
              subst ru1
              have c1 : wx.cell? ⟨w.heap.size, 1, none⟩ = some (.slice aj k cj) := hp.box.cell 1
              simp [go_sem, Oper.wp, execOp, Act.eval, hu1, c1]
              first | exact ⟨_, rfl, (fun _ => rfl), hp⟩ | exact ⟨_, (), rfl, fun _ _ _ h => h, (fun _ => rfl), hp⟩ | exact ⟨_, rfl, fun _ _ _ h => h, (fun _ => rfl), hp⟩
            · refine .inl ⟨0, rfl, fun γ a wx hp hk => wantWp_guard (b := bb) (t := 74) rfl rfl rfl (hk.2.1 6 _ 74 rfl rfl (by decide +kernel)) (fun hz => ⟨undef, (), rfl, fun _ _ _ h => h, fun h => absurd (hz.symm.trans h) (by decide), hp.kept (Below.refl _ _) (by simp)⟩) (fun hz => ?_)⟩
              obtain ⟨u1, hu1, ru1⟩ := hk.2.1 8 _ 76 rfl rfl (by decide +kernel)
              replace ru1 : u1 = _ := ru1 hz
              subst ru1
              obtain ⟨u2, hu2, ru2⟩ := hk.2.1 10 _ 78 rfl rfl (by decide +kernel)
              replace ru2 : u2 = _ := ru2 hz
              subst ru2
              simp [go_sem, Oper.wp, execOp, Act.eval, hu1, hu2]
              refine (sleq_job ujobs jobs _ _ _ _ _ _ wx (own_slAt hp.ownu.j) ((HS.out.up hp.below).j) hp.ownu.lj HS.out.lj (by dsimp only; omega) (by dsimp only; omega)).mono ?_
              rintro e w' ⟨t, rfl, ht, hb⟩
              have hk' := hp.kept (q := 1) hb (by simp)
              rw [show t = eqS ujobs jobs from eqS_of ht]
              first | exact ⟨_, rfl, (fun _ => rfl), hk'⟩ | exact ⟨_, (), rfl, fun _ _ _ h => h, (fun _ => rfl), hk'⟩ | exact ⟨_, rfl, fun _ _ _ h => h, (fun _ => rfl), hk'⟩
            · refine .inl ⟨1, rfl, fun γ a wx hp0 hk => wantWp_free rfl ?_⟩
              have hp := hp0.kept (q := 2) (Below.refl _ _) (by simp)
              obtain ⟨u1, hu1, ru1⟩ := hk.2.1 6 _ 74 rfl rfl (by decide +kernel)
              replace ru1 : u1 = _ := ru1
              subst ru1
              obtain ⟨u2, hu2, ru2⟩ := hk.2.1 11 _ 79 rfl rfl (by decide +kernel)
              replace ru2 : bb = true → u2 = _ := ru2
              cases bb with
              | false =>
                simp [go_sem, Oper.wp, execOp, Act.eval, hu1, hu2]
                first | exact ⟨_, rfl, rfl, hp⟩ | exact ⟨_, (), rfl, fun _ _ _ h => h, rfl, hp⟩ | exact ⟨_, rfl, fun _ _ _ h => h, rfl, hp⟩
              | true =>
                replace ru2 := ru2 rfl
                subst ru2
                simp [go_sem, Oper.wp, execOp, Act.eval, hu1, hu2]
                first | exact ⟨_, rfl, rfl, hp⟩ | exact ⟨_, (), rfl, fun _ _ _ h => h, rfl, hp⟩ | exact ⟨_, rfl, fun _ _ _ h => h, rfl, hp⟩
            · refine .inl ⟨2, rfl, fun γ a wx hp0 hk => wantWp_free rfl ?_⟩
              have hp := hp0.kept (q := 3) (Below.refl _ _) (by simp)
              obtain ⟨u1, hu1, ru1⟩ := hk.2.1 12 _ 80 rfl rfl (by decide +kernel)
              replace ru1 : u1 = _ := ru1
              subst ru1
              simp [go_sem, Oper.wp, execOp, Act.eval, hu1]
              first | exact ⟨_, rfl, rfl, hp⟩ | exact ⟨_, (), rfl, fun _ _ _ h => h, rfl, hp⟩ | exact ⟨_, rfl, fun _ _ _ h => h, rfl, hp⟩
            · refine .inr ⟨by decide, 0, 5, by decide +kernel, by decide +kernel, fun p γ a wx _ _ hp hk => wantWp_guard (b := (bb && eqS ujobs jobs)) (t := 81) rfl rfl rfl (hk.2.1 13 _ 81 rfl rfl (by decide +kernel)) (fun hz => ⟨undef, (), rfl, fun _ _ _ h => h, fun h => absurd (hz.symm.trans h) (by decide), hp⟩) (fun hz => ?_)⟩
              have h1 := hk.1 11 _ rfl (by decide +kernel)
              simp [go_sem, Oper.wp, execOp, Act.eval, h1]
              first | exact ⟨_, rfl, (fun _ => rfl), hp⟩ | exact ⟨_, (), rfl, fun _ _ _ h => h, (fun _ => rfl), hp⟩ | exact ⟨_, rfl, fun _ _ _ h => h, (fun _ => rfl), hp⟩
            · refine .inr ⟨by decide, 0, 5, by decide +kernel, by decide +kernel, fun p γ a wx _ _ hp hk => wantWp_guard (b := (bb && eqS ujobs jobs)) (t := 81) rfl rfl rfl (hk.2.1 13 _ 81 rfl rfl (by decide +kernel)) (fun hz => ⟨undef, (), rfl, fun _ _ _ h => h, fun h => absurd (hz.symm.trans h) (by decide), hp⟩) (fun hz => ?_)⟩
              obtain ⟨u1, hu1, ru1⟩ := hk.2.1 14 _ 82 rfl rfl (by decide +kernel)
              replace ru1 : u1 = _ := ru1 hz
              subst ru1
              have c2 : wx.cell? ⟨w3.heap.size, 2, none⟩ = some (.slice an2 q cn2) := hp.up.cell 2
              simp [go_sem, Oper.wp, execOp, Act.eval, hu1, c2]
              first | exact ⟨_, rfl, (fun _ => rfl), hp⟩ | exact ⟨_, (), rfl, fun _ _ _ h => h, (fun _ => rfl), hp⟩ | exact ⟨_, rfl, fun _ _ _ h => h, (fun _ => rfl), hp⟩
            · refine .inr ⟨by decide, 0, 5, by decide +kernel, by decide +kernel, fun p γ a wx _ _ hp hk => wantWp_guard (b := (bb && eqS ujobs jobs)) (t := 81) rfl rfl rfl (hk.2.1 13 _ 81 rfl rfl (by decide +kernel)) (fun hz => ⟨undef, (), rfl, fun _ _ _ h => h, fun h => absurd (hz.symm.trans h) (by decide), hp⟩) (fun hz => ?_)⟩
              have h1 := hk.1 2 _ rfl (by decide +kernel)
              simp [go_sem, Oper.wp, execOp, Act.eval, h1]
              first | exact ⟨_, rfl, (fun _ => rfl), hp⟩ | exact ⟨_, (), rfl, fun _ _ _ h => h, (fun _ => rfl), hp⟩ | exact ⟨_, rfl, fun _ _ _ h => h, (fun _ => rfl), hp⟩
            · refine .inr ⟨by decide, 0, 5, by decide +kernel, by decide +kernel, fun p γ a wx _ _ hp hk => wantWp_guard (b := (bb && eqS ujobs jobs)) (t := 81) rfl rfl rfl (hk.2.1 13 _ 81 rfl rfl (by decide +kernel)) (fun hz => ⟨undef, (), rfl, fun _ _ _ h => h, fun h => absurd (hz.symm.trans h) (by decide), hp⟩) (fun hz => ?_)⟩
              obtain ⟨u1, hu1, ru1⟩ := hk.2.1 16 _ 84 rfl rfl (by decide +kernel)
              replace ru1 : u1 = _ := ru1 hz
              subst ru1
              have c2 : wx.cell? ⟨w.heap.size, 2, none⟩ = some (.slice an q cn) := hp.box.cell 2
              simp [go_sem, Oper.wp, execOp, Act.eval, hu1, c2]
              first | exact ⟨_, rfl, (fun _ => rfl), hp⟩ | exact ⟨_, (), rfl, fun _ _ _ h => h, (fun _ => rfl), hp⟩ | exact ⟨_, rfl, fun _ _ _ h => h, (fun _ => rfl), hp⟩
            · refine .inl ⟨3, rfl, fun γ a wx hp hk => wantWp_guard (b := (bb && eqS ujobs jobs)) (t := 81) rfl rfl rfl (hk.2.1 13 _ 81 rfl rfl (by decide +kernel)) (fun hz => ⟨undef, (), rfl, fun _ _ _ h => h, fun h => absurd (hz.symm.trans h) (by decide), hp.kept (Below.refl _ _) (by simp)⟩) (fun hz => ?_)⟩
              obtain ⟨u1, hu1, ru1⟩ := hk.2.1 15 _ 83 rfl rfl (by decide +kernel)
              replace ru1 : u1 = _ := ru1 hz
              subst ru1
              obtain ⟨u2, hu2, ru2⟩ := hk.2.1 17 _ 85 rfl rfl (by decide +kernel)
              replace ru2 : u2 = _ := ru2 hz
              subst ru2
              simp [go_sem, Oper.wp, execOp, Act.eval, hu1, hu2]
              refine (sleq_node unodes nodes _ _ _ _ _ _ wx (own_slAt hp.ownu.n) ((HS.out.up hp.below).n) hp.ownu.ln HS.out.ln (by dsimp only; omega) (by dsimp only; omega)).mono ?_
              rintro e w' ⟨t, rfl, ht, hb⟩
              have hk' := hp.kept (q := 4) hb (by simp)
              rw [show t = eqS unodes nodes from eqS_of ht]
              first | exact ⟨_, rfl, (fun _ => rfl), hk'⟩ | exact ⟨_, (), rfl, fun _ _ _ h => h, (fun _ => rfl), hk'⟩ | exact ⟨_, rfl, fun _ _ _ h => h, (fun _ => rfl), hk'⟩
            · refine .inr ⟨by decide, 0, 5, by decide +kernel, by decide +kernel, fun p γ a wx _ _ hp hk => wantWp_free rfl ?_⟩
              obtain ⟨u1, hu1, ru1⟩ := hk.2.1 13 _ 81 rfl rfl (by decide +kernel)
              replace ru1 : u1 = .bool (bb && eqS ujobs jobs) := ru1
              subst ru1
              obtain ⟨u2, hu2, ru2⟩ := hk.2.1 18 _ 86 rfl rfl (by decide +kernel)
              replace ru2 : (bb && eqS ujobs jobs) = true → u2 = _ := ru2
              have hV : ∀ z, z = .bool ((bb && eqS ujobs jobs) && eqS unodes nodes) → dnV w.heap.size w3.heap.size #[.int .i64 rev, .slice aj1 k cj1, .slice an1 q cn1, .slice al1 nl cl1] ⟨urev, ujobs, unodes, uleases⟩ ⟨rev, jobs, nodes, leases⟩ ⟨aj2, k, cj2, an2, q, cn2, al2, nl, cl2⟩ ⟨aj, k, cj, an, q, cn, al, nl, cl⟩ bb (eqS ujobs jobs) (eqS unodes nodes) 19 z := fun _ h => h
              generalize (bb && eqS ujobs jobs) = b2 at hu1 ru2 hV
              cases b2 with
              | false =>
                simp [go_sem, Oper.wp, execOp, Act.eval, hu1, hu2]
                first | exact ⟨_, rfl, hV _ rfl, hp⟩ | exact ⟨_, (), rfl, fun _ _ _ h => h, hV _ rfl, hp⟩ | exact ⟨_, rfl, fun _ _ _ h => h, hV _ rfl, hp⟩
              | true =>
                replace ru2 := ru2 rfl
                subst ru2
                simp [go_sem, Oper.wp, execOp, Act.eval, hu1, hu2]
                first | exact ⟨_, rfl, hV _ rfl, hp⟩ | exact ⟨_, (), rfl, fun _ _ _ h => h, hV _ rfl, hp⟩ | exact ⟨_, rfl, fun _ _ _ h => h, hV _ rfl, hp⟩
            · refine .inl ⟨4, rfl, fun γ a wx hp hk => wantWp_free rfl ?_⟩
              obtain ⟨u1, hu1, ru1⟩ := hk.2.1 0 _ 68 rfl rfl (by decide +kernel)
              replace ru1 : u1 = _ := ru1
              subst ru1
              have h1 := hk.1 4 _ rfl (by decide +kernel)
              have hR : Blk wx (w.heap.size + 1) 26 #[.int .i64 0, .slice none 0 0, .slice none 0 0, .slice none 0 0] := hp.res
              have z0 : wx.frozen? ⟨w.heap.size + 1, 0, none⟩ = false := hR.thaw 0
              have s0 : wx.cell? ⟨w.heap.size + 1, 0, none⟩ = some (.int .i64 0) := hR.cell 0
              have z1 : wx.frozen? ⟨w.heap.size + 1, 1, none⟩ = false := hR.thaw 1
              have s1 : wx.cell? ⟨w.heap.size + 1, 1, none⟩ = some (.slice none 0 0) := hR.cell 1
              have z2 : wx.frozen? ⟨w.heap.size + 1, 2, none⟩ = false := hR.thaw 2
              have s2 : wx.cell? ⟨w.heap.size + 1, 2, none⟩ = some (.slice none 0 0) := hR.cell 2
              have z3 : wx.frozen? ⟨w.heap.size + 1, 3, none⟩ = false := hR.thaw 3
              have s3 : wx.cell? ⟨w.heap.size + 1, 3, none⟩ = some (.slice none 0 0) := hR.cell 3
              have hrl := hR.lt
              have hfin := hp.store
              clear hp hR
              simp [go_sem, Oper.wp, execOp, Act.eval, hu1, h1, s0, s1, s2, s3, z0, z1, z2, z3]
              first | exact ⟨⟨.int .i64 0, trivial⟩, hfin⟩ | exact ⟨.int .i64 0, trivial, hfin⟩ | exact ⟨.int .i64 0, (), fun _ _ _ h => h, trivial, hfin⟩ | exact hfin
            · refine .inr ⟨by decide, 0, 5, by decide +kernel, by decide +kernel, fun p γ a wx _ _ hp hk => wantWp_free rfl ?_⟩
              obtain ⟨u1, hu1, ru1⟩ := hk.2.1 19 _ 87 rfl rfl (by decide +kernel)
              replace ru1 : u1 = _ := ru1
              subst ru1
              simp [go_sem, Oper.wp, execOp, Act.eval, hu1]
              first | exact ⟨_, rfl, rfl, hp⟩ | exact ⟨_, (), rfl, fun _ _ _ h => h, rfl, hp⟩ | exact ⟨_, rfl, fun _ _ _ h => h, rfl, hp⟩
            · refine .inr ⟨by decide, 0, 5, by decide +kernel, by decide +kernel, fun p γ a wx _ _ hp hk => wantWp_free rfl ?_⟩
              simp [go_sem, Oper.wp, execOp, Act.eval]
              first | exact ⟨_, rfl, rfl, hp⟩ | exact ⟨_, (), rfl, fun _ _ _ h => h, rfl, hp⟩ | exact ⟨_, rfl, fun _ _ _ h => h, rfl, hp⟩
          intro γ act wx hd
          have hp := hd.ph
          obtain ⟨fv, rfl, hfv⟩ := hd.frame [68, 69, 70, 71, 72, 73, 74, 75, 76, 77, 78, 79, 80, 81, 82, 83, 84, 85, 86, 87, 5, 6] rfl
          have h5 : fv 5 = .bool (bb && eqS ujobs jobs && eqS unodes nodes) := hfv 21 _ 5 rfl rfl
          have h6 : fv 6 = .int .i64 0 := hfv 22 _ 6 rfl rfl
          have hR : Blk wx (w.heap.size + 1) 26 #[.int .i64 rev, .slice aj1 k cj1, .slice an1 q cn1, .slice al1 nl cl1] := hp.res
          have r0 : wx.cell? ⟨w.heap.size + 1, 0, none⟩ = some (.int .i64 rev) := hR.cell 0
          have r1 : wx.cell? ⟨w.heap.size + 1, 1, none⟩ = some (.slice aj1 k cj1) := hR.cell 1
          have r2 : wx.cell? ⟨w.heap.size + 1, 2, none⟩ = some (.slice an1 q cn1) := hR.cell 2
          have r3 : wx.cell? ⟨w.heap.size + 1, 3, none⟩ = some (.slice al1 nl cl1) := hR.cell 3
          have hOk := downSt_ok (c := 3) HS.out.oj HS.out.on_
          have hAt := hp.ownd.at_ (by dsimp only; omega) (by dsimp only; omega) (by dsimp only; omega) hOk.1 hOk.2 HS.out.ol
          have hkb := keptB_eq (st := ⟨rev, jobs, nodes, leases⟩) (c := 3) (t1 := eqS ujobs jobs) (t2 := eqS unodes nodes) (by rw [Hdn.out, HUP.out]; exact eqS_iff) (by rw [Hdn.out, HUP.out]; exact eqS_iff)
          rw [Hdn.out, HUP.out] at hkb
          dsimp only at hkb
          rw [Hbb.out] at hkb
          have Hend := Lib.hid (show DnPost ⟨rev, jobs, nodes, leases⟩ 3 w (.returned (.tuple #[.agg #[.int .i64 rev, .slice aj1 k cj1, .slice an1 q cn1, .slice al1 nl cl1], .bool (bb && eqS ujobs jobs && eqS unodes nodes), .int .i64 0])) wx from ⟨_, _, _, 0, rfl, by rw [Hev.out, Hdn.out, hkb], hAt, hp.below⟩)
          clear hd hp hfv hR hOk hAt hkb H0
          simp [Exit.then, h5, h6]
          go_wp2
          refine bodyPost_ret (v := .tuple #[.agg #[.int .i64 rev, .slice aj1 k cj1, .slice an1 q cn1, .slice al1 nl cl1], .bool (bb && eqS ujobs jobs && eqS unodes nodes), .int .i64 0]) (by simp [results, Tryd.results12, go_sem, *]) rfl ?_
          exact Hend.out
end Go.Proofs.YtbbagnfmoecdfaaDoor
