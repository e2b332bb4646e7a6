/- The walk of the law DeltaDiffs. -/
import Derived.Test.YtonipllegfgdiaaDoorDiff
import Derived.Test.YtonipllegfgdiaaDoorDEqR
import Derived.Test.YtonipllegfgdiaaDoorWDeltaChecks
import Derived.Test.YtonipllegfgdiaaDoorArgSt
set_option linter.unusedVariables false
set_option linter.unusedSimpArgs false
namespace Go.Proofs.YtonipllegfgdiaaDoor
open Go.RowKit
theorem DelAt.upD {w w' : World} {d : DeltaD} {x : DelA} (h : DelAt w w.heap.size d x) (hb : Below w.heap.size w w') : DelAt w' w'.heap.size d x := (h.below hb).more hb.size
set_option maxRecDepth 100000 in
set_option maxHeartbeats 2000000 in
theorem walkDeltaDiffs (w : World) (sa : StateD) (xa : StA) (sb : StateD) (xb : StA) (ha : StAt w w.heap.size sa xa ∧ StFull sa) (hb : StAt w w.heap.size sb xb ∧ StFull sb) (hT : Tabs w) :
    Calls Tryd.prog 7 #[.agg (stC sa xa), .agg (stC sb xb)] w fun e w'' => e = .returned (.bool true) ∧ Below w.heap.size w w'' := by
  have hA := ha.1
  have hB := hb.1
  have hb1 : Below w.heap.size w (w.alloc (.cells (stC sa xa) 26)) := (Below.refl _ _).alloc (Nat.le_refl _) _
  have hb2 := hb1.alloc hb1.size (.cells (stC sb xb) 26)
  have hBA : Blk ((w.alloc (.cells (stC sa xa) 26)).alloc (.cells (stC sb xb) 26)) w.heap.size 26 (stC sa xa) := Blk.alloc (show Blk _ _ _ _ from heap_alloc_new w _) _
  have hBB : Blk ((w.alloc (.cells (stC sa xa) 26)).alloc (.cells (stC sb xb) 26)) (w.heap.size + 1) 26 (stC sb xb) := by
    have h := heap_alloc_new (w.alloc (.cells (stC sa xa) 26)) (.cells (stC sb xb) 26)
    rwa [show (w.alloc (.cells (stC sa xa) 26)).heap.size = w.heap.size + 1 by simp] at h
  have H1 := Lib.hid (ddiff_any sa sb xa xb _ (hA.upE hb2) (hB.upE hb2) (hT.below hb2))
  have H2 := Lib.hid (fun W (hb : Below w.heap.size w W) => rdiff_any sa sb xa xb W (hA.upE hb) (hB.upE hb))
  have H3 := Lib.hid (fun W (hb : Below w.heap.size w W) => dcheck_zero W (hT.below hb))
  have Hb2 := Lib.hid hb2
  have HBA := Lib.hid hBA
  have HBB := Lib.hid hBB
  clear hT ha hb hA hB hb1 hb2 hBA hBB
  obtain ⟨ra, ja, na, la⟩ := sa
  obtain ⟨aj0, nj0, cj0, an0, nn0, cn0, al0, nl0, cl0⟩ := xa
  obtain ⟨rb, jb, nb, lb⟩ := sb
  obtain ⟨bj0, mj0, dj0, bn0, mn0, dn0, bl0, ml0, dl0⟩ := xb
  unfold stC at *
  dsimp only at *
  go_enter Tryd.func7, Tryd.ntmps7
  go_wp2_with fail
  refine Calls.mono H1.out ?_
  rintro e w1 ⟨st, x, E, rfl, hd, hA, hb1⟩
  obtain ⟨from_, to_, jobs, nodes, leases, gj, gn, gl⟩ := st
  obtain ⟨aj, nj, cj, an, nn, cn, al, nl, cl, agj, ngj, cgj, agn, ngn, cgn, agl, ngl, cgl⟩ := x
  have HA := Lib.hid hA
  have HD := Lib.hid hd
  have HB1 := Lib.hid (Hb2.out.trans (hb1.mono Hb2.out.size))
  have SA := Lib.hid (HBA.out.below hb1 HBA.out.lt)
  have SB := Lib.hid (HBB.out.below hb1 HBB.out.lt)
  have hla := SA.out.lt
  have hlb := SB.out.lt
  unfold dC
  dsimp only
  have hbx : Below w1.heap.size w1 (w1.alloc (.cells #[.int .i64 from_, .int .i64 to_, .slice aj nj cj, .slice an nn cn, .slice al nl cl, .slice agj ngj cgj, .slice agn ngn cgn, .slice agl ngl cgl] 40)) := (Below.refl _ _).alloc (Nat.le_refl _) _
  have hX1 : Blk (w1.alloc (.cells #[.int .i64 from_, .int .i64 to_, .slice aj nj cj, .slice an nn cn, .slice al nl cl, .slice agj ngj cgj, .slice agn ngn cgn, .slice agl ngl cgl] 40)) w1.heap.size 40 #[.int .i64 from_, .int .i64 to_, .slice aj nj cj, .slice an nn cn, .slice al nl cl, .slice agj ngj cgj, .slice agn ngn cgn, .slice agl ngl cgl] := heap_alloc_new w1 _
  have HX1 := Lib.hid hX1
  have HAx := Lib.hid (hA.upD hbx)
  have HBx := Lib.hid (HB1.out.trans (hbx.mono HB1.out.size))
  have HC2 := Lib.hid (H2.out _ HBx.out)
  have SAx := SA.out.below hbx SA.out.lt
  have SBx := SB.out.below hbx SB.out.lt
  have m0 : (w1.alloc (.cells #[.int .i64 from_, .int .i64 to_, .slice aj nj cj, .slice an nn cn, .slice al nl cl, .slice agj ngj cgj, .slice agn ngn cgn, .slice agl ngl cgl] 40)).cell? ⟨w.heap.size, 0, none⟩ = some (.int .i64 ra) := SAx.cell 0
  have m1 : (w1.alloc (.cells #[.int .i64 from_, .int .i64 to_, .slice aj nj cj, .slice an nn cn, .slice al nl cl, .slice agj ngj cgj, .slice agn ngn cgn, .slice agl ngl cgl] 40)).cell? ⟨w.heap.size, 1, none⟩ = some (.slice aj0 nj0 cj0) := SAx.cell 1
  have m2 : (w1.alloc (.cells #[.int .i64 from_, .int .i64 to_, .slice aj nj cj, .slice an nn cn, .slice al nl cl, .slice agj ngj cgj, .slice agn ngn cgn, .slice agl ngl cgl] 40)).cell? ⟨w.heap.size, 2, none⟩ = some (.slice an0 nn0 cn0) := SAx.cell 2
  have m3 : (w1.alloc (.cells #[.int .i64 from_, .int .i64 to_, .slice aj nj cj, .slice an nn cn, .slice al nl cl, .slice agj ngj cgj, .slice agn ngn cgn, .slice agl ngl cgl] 40)).cell? ⟨w.heap.size, 3, none⟩ = some (.slice al0 nl0 cl0) := SAx.cell 3
  have n0 : (w1.alloc (.cells #[.int .i64 from_, .int .i64 to_, .slice aj nj cj, .slice an nn cn, .slice al nl cl, .slice agj ngj cgj, .slice agn ngn cgn, .slice agl ngl cgl] 40)).cell? ⟨w.heap.size + 1, 0, none⟩ = some (.int .i64 rb) := SBx.cell 0
  have n1 : (w1.alloc (.cells #[.int .i64 from_, .int .i64 to_, .slice aj nj cj, .slice an nn cn, .slice al nl cl, .slice agj ngj cgj, .slice agn ngn cgn, .slice agl ngl cgl] 40)).cell? ⟨w.heap.size + 1, 1, none⟩ = some (.slice bj0 mj0 dj0) := SBx.cell 1
  have n2 : (w1.alloc (.cells #[.int .i64 from_, .int .i64 to_, .slice aj nj cj, .slice an nn cn, .slice al nl cl, .slice agj ngj cgj, .slice agn ngn cgn, .slice agl ngl cgl] 40)).cell? ⟨w.heap.size + 1, 2, none⟩ = some (.slice bn0 mn0 dn0) := SBx.cell 2
  have n3 : (w1.alloc (.cells #[.int .i64 from_, .int .i64 to_, .slice aj nj cj, .slice an nn cn, .slice al nl cl, .slice agj ngj cgj, .slice agn ngn cgn, .slice agl ngl cgl] 40)).cell? ⟨w.heap.size + 1, 3, none⟩ = some (.slice bl0 ml0 dl0) := SBx.cell 3
  clear hd hA hb1 hbx hX1 SAx SBx HBA HBB H1 SA SB HB1
  go_wp2_with fail
  refine Calls.mono HC2.out ?_
  rintro e w2 ⟨st, x, E', rfl, hd, hA, hb2⟩
  rw [HD.out] at hd
  obtain ⟨rfl, rfl⟩ := Prod.mk.inj hd
  obtain ⟨aj', nj', cj', an', nn', cn', al', nl', cl', agj', ngj', cgj', agn', ngn', cgn', agl', ngl', cgl'⟩ := x
  unfold dC
  dsimp only
  have hX2 := HX1.out.below hb2 HX1.out.lt
  have hAx := HAx.out.upD hb2
  have hB2 := HBx.out.trans (hb2.mono HBx.out.size)
  have hby : Below w2.heap.size w2 (w2.alloc (.cells #[.int .i64 from_, .int .i64 to_, .slice aj' nj' cj', .slice an' nn' cn', .slice al' nl' cl', .slice agj' ngj' cgj', .slice agn' ngn' cgn', .slice agl' ngl' cgl'] 40)) := (Below.refl _ _).alloc (Nat.le_refl _) _
  have hX3 := hX2.below hby hX2.lt
  have hY3 : Blk (w2.alloc (.cells #[.int .i64 from_, .int .i64 to_, .slice aj' nj' cj', .slice an' nn' cn', .slice al' nl' cl', .slice agj' ngj' cgj', .slice agn' ngn' cgn', .slice agl' ngl' cgl'] 40)) w2.heap.size 40 #[.int .i64 from_, .int .i64 to_, .slice aj' nj' cj', .slice an' nn' cn', .slice al' nl' cl', .slice agj' ngj' cgj', .slice agn' ngn' cgn', .slice agl' ngl' cgl'] := heap_alloc_new w2 _
  have hAx3 := hAx.upD hby
  have hAy3 := hA.upD hby
  have hB3 := hB2.trans (hby.mono hB2.size)
  have hlt12 : w1.heap.size < w2.heap.size := hX2.lt
  have X3 := Lib.hid hX3
  have Y3 := Lib.hid hY3
  have B3 := Lib.hid hB3
  have HS := deq_same _ _ _ _ hAx3 hAy3
  unfold dC at HS
  dsimp only at HS
  have HS := Lib.hid HS
  have x0 : (w2.alloc (.cells #[.int .i64 from_, .int .i64 to_, .slice aj' nj' cj', .slice an' nn' cn', .slice al' nl' cl', .slice agj' ngj' cgj', .slice agn' ngn' cgn', .slice agl' ngl' cgl'] 40)).cell? ⟨w1.heap.size, 0, none⟩ = some (.int .i64 from_) := X3.out.cell 0
  have x1 : (w2.alloc (.cells #[.int .i64 from_, .int .i64 to_, .slice aj' nj' cj', .slice an' nn' cn', .slice al' nl' cl', .slice agj' ngj' cgj', .slice agn' ngn' cgn', .slice agl' ngl' cgl'] 40)).cell? ⟨w1.heap.size, 1, none⟩ = some (.int .i64 to_) := X3.out.cell 1
  have x2 : (w2.alloc (.cells #[.int .i64 from_, .int .i64 to_, .slice aj' nj' cj', .slice an' nn' cn', .slice al' nl' cl', .slice agj' ngj' cgj', .slice agn' ngn' cgn', .slice agl' ngl' cgl'] 40)).cell? ⟨w1.heap.size, 2, none⟩ = some (.slice aj nj cj) := X3.out.cell 2
  have x3 : (w2.alloc (.cells #[.int .i64 from_, .int .i64 to_, .slice aj' nj' cj', .slice an' nn' cn', .slice al' nl' cl', .slice agj' ngj' cgj', .slice agn' ngn' cgn', .slice agl' ngl' cgl'] 40)).cell? ⟨w1.heap.size, 3, none⟩ = some (.slice an nn cn) := X3.out.cell 3
  have x4 : (w2.alloc (.cells #[.int .i64 from_, .int .i64 to_, .slice aj' nj' cj', .slice an' nn' cn', .slice al' nl' cl', .slice agj' ngj' cgj', .slice agn' ngn' cgn', .slice agl' ngl' cgl'] 40)).cell? ⟨w1.heap.size, 4, none⟩ = some (.slice al nl cl) := X3.out.cell 4
  have x5 : (w2.alloc (.cells #[.int .i64 from_, .int .i64 to_, .slice aj' nj' cj', .slice an' nn' cn', .slice al' nl' cl', .slice agj' ngj' cgj', .slice agn' ngn' cgn', .slice agl' ngl' cgl'] 40)).cell? ⟨w1.heap.size, 5, none⟩ = some (.slice agj ngj cgj) := X3.out.cell 5
  have x6 : (w2.alloc (.cells #[.int .i64 from_, .int .i64 to_, .slice aj' nj' cj', .slice an' nn' cn', .slice al' nl' cl', .slice agj' ngj' cgj', .slice agn' ngn' cgn', .slice agl' ngl' cgl'] 40)).cell? ⟨w1.heap.size, 6, none⟩ = some (.slice agn ngn cgn) := X3.out.cell 6
  have x7 : (w2.alloc (.cells #[.int .i64 from_, .int .i64 to_, .slice aj' nj' cj', .slice an' nn' cn', .slice al' nl' cl', .slice agj' ngj' cgj', .slice agn' ngn' cgn', .slice agl' ngl' cgl'] 40)).cell? ⟨w1.heap.size, 7, none⟩ = some (.slice agl ngl cgl) := X3.out.cell 7
  have y0 : (w2.alloc (.cells #[.int .i64 from_, .int .i64 to_, .slice aj' nj' cj', .slice an' nn' cn', .slice al' nl' cl', .slice agj' ngj' cgj', .slice agn' ngn' cgn', .slice agl' ngl' cgl'] 40)).cell? ⟨w2.heap.size, 0, none⟩ = some (.int .i64 from_) := Y3.out.cell 0
  have y1 : (w2.alloc (.cells #[.int .i64 from_, .int .i64 to_, .slice aj' nj' cj', .slice an' nn' cn', .slice al' nl' cl', .slice agj' ngj' cgj', .slice agn' ngn' cgn', .slice agl' ngl' cgl'] 40)).cell? ⟨w2.heap.size, 1, none⟩ = some (.int .i64 to_) := Y3.out.cell 1
  have y2 : (w2.alloc (.cells #[.int .i64 from_, .int .i64 to_, .slice aj' nj' cj', .slice an' nn' cn', .slice al' nl' cl', .slice agj' ngj' cgj', .slice agn' ngn' cgn', .slice agl' ngl' cgl'] 40)).cell? ⟨w2.heap.size, 2, none⟩ = some (.slice aj' nj' cj') := Y3.out.cell 2
  have y3 : (w2.alloc (.cells #[.int .i64 from_, .int .i64 to_, .slice aj' nj' cj', .slice an' nn' cn', .slice al' nl' cl', .slice agj' ngj' cgj', .slice agn' ngn' cgn', .slice agl' ngl' cgl'] 40)).cell? ⟨w2.heap.size, 3, none⟩ = some (.slice an' nn' cn') := Y3.out.cell 3
  have y4 : (w2.alloc (.cells #[.int .i64 from_, .int .i64 to_, .slice aj' nj' cj', .slice an' nn' cn', .slice al' nl' cl', .slice agj' ngj' cgj', .slice agn' ngn' cgn', .slice agl' ngl' cgl'] 40)).cell? ⟨w2.heap.size, 4, none⟩ = some (.slice al' nl' cl') := Y3.out.cell 4
  have y5 : (w2.alloc (.cells #[.int .i64 from_, .int .i64 to_, .slice aj' nj' cj', .slice an' nn' cn', .slice al' nl' cl', .slice agj' ngj' cgj', .slice agn' ngn' cgn', .slice agl' ngl' cgl'] 40)).cell? ⟨w2.heap.size, 5, none⟩ = some (.slice agj' ngj' cgj') := Y3.out.cell 5
  have y6 : (w2.alloc (.cells #[.int .i64 from_, .int .i64 to_, .slice aj' nj' cj', .slice an' nn' cn', .slice al' nl' cl', .slice agj' ngj' cgj', .slice agn' ngn' cgn', .slice agl' ngl' cgl'] 40)).cell? ⟨w2.heap.size, 6, none⟩ = some (.slice agn' ngn' cgn') := Y3.out.cell 6
  have y7 : (w2.alloc (.cells #[.int .i64 from_, .int .i64 to_, .slice aj' nj' cj', .slice an' nn' cn', .slice al' nl' cl', .slice agj' ngj' cgj', .slice agn' ngn' cgn', .slice agl' ngl' cgl'] 40)).cell? ⟨w2.heap.size, 7, none⟩ = some (.slice agl' ngl' cgl') := Y3.out.cell 7
  have hlx := X3.out.lt
  clear hX2 hAx hB2 hby hX3 hY3 hAx3 hAy3 hB3 hb2 hA hd HX1 HAx HBx HC2 H2 HD X3 Y3 m0 n0 m1 n1 m2 n2 m3 n3
  go_wp2_with fail
  refine Calls.mono HS.out ?_
  rintro e w3 ⟨rfl, hb4⟩
  have B4 := Lib.hid (B3.out.trans (hb4.mono B3.out.size))
  have hee : (E == E) = true := beq_self_eq_true _
  clear hb4 HS x0 y0 x1 y1 x2 y2 x3 y3 x4 y4 x5 y5 x6 y6 x7 y7
  go_wp2_with fail
  refine Calls.mono (H3.out _ B4.out) ?_
  rintro e w4 ⟨rfl, hb5⟩
  have B5 := Lib.hid (B4.out.trans (hb5.mono B4.out.size))
  clear hb5
  go_wp2
  go_ret
  exact ⟨rfl, B5.out⟩
end Go.Proofs.YtonipllegfgdiaaDoor
