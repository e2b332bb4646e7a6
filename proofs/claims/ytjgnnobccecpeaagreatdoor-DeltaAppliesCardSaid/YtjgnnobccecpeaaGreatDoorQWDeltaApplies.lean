/- Of the proof of a statement: WDeltaApplies. -/
import Derived.Test.YtjgnnobccecpeaaGreatDoorQArgDe
import Derived.Test.YtjgnnobccecpeaaGreatDoorQRApply
set_option linter.unusedVariables false
set_option linter.unusedSimpArgs false
/- The walk of the law DeltaApplies. -/
namespace Go.Proofs.YtjgnnobccecpeaaGreatDoor
open Go.RowKit
set_option maxRecDepth 100000 in
set_option maxHeartbeats 2000000 in
theorem walkDeltaApplies (w : World) (sa : StateD) (xa : StA) (sb : DeltaD) (xb : DelA) (ha : StAt w w.heap.size sa xa ∧ StFull sa) (hb : DelAt w w.heap.size sb xb ∧ DeFull sb) (hT : Tabs w) :
    Calls Tryz.prog 4 #[.agg (stC sa xa), .agg (dC sb xb)] w fun e w'' => e = .returned (.bool true) ∧ Below w.heap.size w w'' := by
  have hA := ha.1
  have hB := hb.1
  have hb1 : Below w.heap.size w (w.alloc (.cells (stC sa xa) 26)) := (Below.refl _ _).alloc (Nat.le_refl _) _
  have hb2 := hb1.alloc hb1.size (.cells (dC sb xb) 49)
  have hBA : Blk ((w.alloc (.cells (stC sa xa) 26)).alloc (.cells (dC sb xb) 49)) w.heap.size 26 (stC sa xa) := Blk.alloc (show Blk _ _ _ _ from heap_alloc_new w _) _
  have hBB : Blk ((w.alloc (.cells (stC sa xa) 26)).alloc (.cells (dC sb xb) 49)) (w.heap.size + 1) 49 (dC sb xb) := by
    have h := heap_alloc_new (w.alloc (.cells (stC sa xa) 26)) (.cells (dC sb xb) 49)
    rwa [show (w.alloc (.cells (stC sa xa) 26)).heap.size = w.heap.size + 1 by simp] at h
  have hfi := hb.2.from_
  have H1 := Lib.hid (apply_any sa xa sb xb _ (hA.up hb2) (hB.up hb2) (hT.below hb2) hfi.1 hfi.2)
  have H2 := Lib.hid (fun W (hb : Below w.heap.size w W) => rapply_any sa xa sb xb W (hA.up hb) (hB.up hb))
  have H3 := Lib.hid (fun W (hb : Below w.heap.size w W) => dcheck_zero W (hT.below hb))
  have Hb2 := Lib.hid hb2
  have HBA := Lib.hid hBA
  have HBB := Lib.hid hBB
  clear hT ha hb hA hB hb1 hb2 hBA hBB
  obtain ⟨ra, ja, na, la⟩ := sa
  obtain ⟨aj0, nj0, cj0, an0, nn0, cn0, al0, nl0, cl0⟩ := xa
  obtain ⟨from_, to_, djobs, dnodes, dleases, ggj, ggn, ggl⟩ := sb
  obtain ⟨bj, mj, ej, bn, mn, en, bl, ml, el, gj, qj, fj, gn, qn, fn, gl, ql, fl⟩ := xb
  simp only [stC, dC] at *
  go_enter Tryz.func4, Tryz.ntmps4
  go_wp2_with fail
  refine Calls.mono H1.out ?_
  rintro e w1 ⟨st, x, E, rfl, hd, hA, hb1⟩
  obtain ⟨rev, jobs, nodes, leases⟩ := st
  obtain ⟨aj, nj, cj, an, nn, cn, al, nl, cl⟩ := x
  have HA := Lib.hid hA
  have HD := Lib.hid hd
  have HB1 := Lib.hid (Hb2.out.trans (hb1.mono Hb2.out.size))
  have SA := Lib.hid (HBA.out.below hb1 HBA.out.lt)
  have SB := Lib.hid (HBB.out.below hb1 HBB.out.lt)
  have hla := SA.out.lt
  have hlb := SB.out.lt
  simp only [stC]
  have hbx : Below w1.heap.size w1 (w1.alloc (.cells #[.int .i64 rev, .slice aj nj cj, .slice an nn cn, .slice al nl cl] 26)) := (Below.refl _ _).alloc (Nat.le_refl _) _
  have hX1 : Blk (w1.alloc (.cells #[.int .i64 rev, .slice aj nj cj, .slice an nn cn, .slice al nl cl] 26)) w1.heap.size 26 #[.int .i64 rev, .slice aj nj cj, .slice an nn cn, .slice al nl cl] := heap_alloc_new w1 _
  have HX1 := Lib.hid hX1
  have HAx := Lib.hid (hA.up hbx)
  have HBx := Lib.hid (HB1.out.trans (hbx.mono HB1.out.size))
  have HC2 := Lib.hid (H2.out _ HBx.out)
  have SAx := SA.out.below hbx SA.out.lt
  have SBx := SB.out.below hbx SB.out.lt
  have m0 : (w1.alloc (.cells #[.int .i64 rev, .slice aj nj cj, .slice an nn cn, .slice al nl cl] 26)).cell? ⟨w.heap.size, 0, none⟩ = some (.int .i64 ra) := SAx.cell 0
  have m1 : (w1.alloc (.cells #[.int .i64 rev, .slice aj nj cj, .slice an nn cn, .slice al nl cl] 26)).cell? ⟨w.heap.size, 1, none⟩ = some (.slice aj0 nj0 cj0) := SAx.cell 1
  have m2 : (w1.alloc (.cells #[.int .i64 rev, .slice aj nj cj, .slice an nn cn, .slice al nl cl] 26)).cell? ⟨w.heap.size, 2, none⟩ = some (.slice an0 nn0 cn0) := SAx.cell 2
  have m3 : (w1.alloc (.cells #[.int .i64 rev, .slice aj nj cj, .slice an nn cn, .slice al nl cl] 26)).cell? ⟨w.heap.size, 3, none⟩ = some (.slice al0 nl0 cl0) := SAx.cell 3
  have n0 : (w1.alloc (.cells #[.int .i64 rev, .slice aj nj cj, .slice an nn cn, .slice al nl cl] 26)).cell? ⟨w.heap.size + 1, 0, none⟩ = some (.int .i64 from_) := SBx.cell 0
  have n1 : (w1.alloc (.cells #[.int .i64 rev, .slice aj nj cj, .slice an nn cn, .slice al nl cl] 26)).cell? ⟨w.heap.size + 1, 1, none⟩ = some (.int .i64 to_) := SBx.cell 1
  have n2 : (w1.alloc (.cells #[.int .i64 rev, .slice aj nj cj, .slice an nn cn, .slice al nl cl] 26)).cell? ⟨w.heap.size + 1, 2, none⟩ = some (.slice bj mj ej) := SBx.cell 2
  have n3 : (w1.alloc (.cells #[.int .i64 rev, .slice aj nj cj, .slice an nn cn, .slice al nl cl] 26)).cell? ⟨w.heap.size + 1, 3, none⟩ = some (.slice bn mn en) := SBx.cell 3
  have n4 : (w1.alloc (.cells #[.int .i64 rev, .slice aj nj cj, .slice an nn cn, .slice al nl cl] 26)).cell? ⟨w.heap.size + 1, 4, none⟩ = some (.slice bl ml el) := SBx.cell 4
  have n5 : (w1.alloc (.cells #[.int .i64 rev, .slice aj nj cj, .slice an nn cn, .slice al nl cl] 26)).cell? ⟨w.heap.size + 1, 5, none⟩ = some (.slice gj qj fj) := SBx.cell 5
  have n6 : (w1.alloc (.cells #[.int .i64 rev, .slice aj nj cj, .slice an nn cn, .slice al nl cl] 26)).cell? ⟨w.heap.size + 1, 6, none⟩ = some (.slice gn qn fn) := SBx.cell 6
  have n7 : (w1.alloc (.cells #[.int .i64 rev, .slice aj nj cj, .slice an nn cn, .slice al nl cl] 26)).cell? ⟨w.heap.size + 1, 7, none⟩ = some (.slice gl ql fl) := SBx.cell 7
  clear hd hA hb1 hbx hX1 SAx SBx HBA HBB H1 SA SB HB1
  go_wp2_with fail
  refine Calls.mono HC2.out ?_
  rintro e w2 ⟨st, x, E', rfl, hd, hA, hb2⟩
  rw [HD.out] at hd
  obtain ⟨rfl, rfl⟩ := Prod.mk.inj hd
  obtain ⟨aj', nj', cj', an', nn', cn', al', nl', cl'⟩ := x
  simp only [stC]
  have hX2 := HX1.out.below hb2 HX1.out.lt
  have hAx := HAx.out.up hb2
  have hB2 := HBx.out.trans (hb2.mono HBx.out.size)
  have hby : Below w2.heap.size w2 (w2.alloc (.cells #[.int .i64 rev, .slice aj' nj' cj', .slice an' nn' cn', .slice al' nl' cl'] 26)) := (Below.refl _ _).alloc (Nat.le_refl _) _
  have hX3 := hX2.below hby hX2.lt
  have hY3 : Blk (w2.alloc (.cells #[.int .i64 rev, .slice aj' nj' cj', .slice an' nn' cn', .slice al' nl' cl'] 26)) w2.heap.size 26 #[.int .i64 rev, .slice aj' nj' cj', .slice an' nn' cn', .slice al' nl' cl'] := heap_alloc_new w2 _
  have hAx3 := hAx.up hby
  have hAy3 := hA.up hby
  have hB3 := hB2.trans (hby.mono hB2.size)
  have hlt12 : w1.heap.size < w2.heap.size := hX2.lt
  have X3 := Lib.hid hX3
  have Y3 := Lib.hid hY3
  have B3 := Lib.hid hB3
  have HS := same_any _ _ _ _ _ hAx3 hAy3
  simp only [stC] at HS
  have HS := Lib.hid HS
  have x0 : (w2.alloc (.cells #[.int .i64 rev, .slice aj' nj' cj', .slice an' nn' cn', .slice al' nl' cl'] 26)).cell? ⟨w1.heap.size, 0, none⟩ = some (.int .i64 rev) := X3.out.cell 0
  have x1 : (w2.alloc (.cells #[.int .i64 rev, .slice aj' nj' cj', .slice an' nn' cn', .slice al' nl' cl'] 26)).cell? ⟨w1.heap.size, 1, none⟩ = some (.slice aj nj cj) := X3.out.cell 1
  have x2 : (w2.alloc (.cells #[.int .i64 rev, .slice aj' nj' cj', .slice an' nn' cn', .slice al' nl' cl'] 26)).cell? ⟨w1.heap.size, 2, none⟩ = some (.slice an nn cn) := X3.out.cell 2
  have x3 : (w2.alloc (.cells #[.int .i64 rev, .slice aj' nj' cj', .slice an' nn' cn', .slice al' nl' cl'] 26)).cell? ⟨w1.heap.size, 3, none⟩ = some (.slice al nl cl) := X3.out.cell 3
  have y0 : (w2.alloc (.cells #[.int .i64 rev, .slice aj' nj' cj', .slice an' nn' cn', .slice al' nl' cl'] 26)).cell? ⟨w2.heap.size, 0, none⟩ = some (.int .i64 rev) := Y3.out.cell 0
  have y1 : (w2.alloc (.cells #[.int .i64 rev, .slice aj' nj' cj', .slice an' nn' cn', .slice al' nl' cl'] 26)).cell? ⟨w2.heap.size, 1, none⟩ = some (.slice aj' nj' cj') := Y3.out.cell 1
  have y2 : (w2.alloc (.cells #[.int .i64 rev, .slice aj' nj' cj', .slice an' nn' cn', .slice al' nl' cl'] 26)).cell? ⟨w2.heap.size, 2, none⟩ = some (.slice an' nn' cn') := Y3.out.cell 2
  have y3 : (w2.alloc (.cells #[.int .i64 rev, .slice aj' nj' cj', .slice an' nn' cn', .slice al' nl' cl'] 26)).cell? ⟨w2.heap.size, 3, none⟩ = some (.slice al' nl' cl') := Y3.out.cell 3
  have hlx := X3.out.lt
  clear hX2 hAx hB2 hby hX3 hY3 hAx3 hAy3 hB3 hb2 hA hd HX1 HAx HBx HC2 H2 HD X3 Y3 m0 m1 m2 m3 n0 n1 n2 n3 n4 n5 n6 n7
  go_wp2_with fail
  refine Calls.mono HS.out ?_
  rintro e w3 ⟨t, rfl, ht, hb4⟩
  obtain rfl : t = true := ht.2 rfl
  clear ht
  have B4 := Lib.hid (B3.out.trans (hb4.mono B3.out.size))
  have hee : (E == E) = true := beq_self_eq_true _
  clear hb4 HS x0 y0 x1 y1 x2 y2 x3 y3
  go_wp2_with fail
  refine Calls.mono (H3.out _ B4.out) ?_
  rintro e w4 ⟨rfl, hb5⟩
  have B5 := Lib.hid (B4.out.trans (hb5.mono B4.out.size))
  clear hb5
  go_wp2
  go_ret
  exact ⟨rfl, B5.out⟩
end Go.Proofs.YtjgnnobccecpeaaGreatDoor
