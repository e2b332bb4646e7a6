/- The walk of the law DeltaDecodes. -/
import Derived.Test.YtonipllegfgdiaaDoorRDDec
import Derived.Test.YtonipllegfgdiaaDoorDEqR
import Derived.Test.YtonipllegfgdiaaDoorWDeltaChecks
namespace Go.Proofs.YtonipllegfgdiaaDoor
open Go.RowKit
theorem DelAt.upD {w w' : World} {d : DeltaD} {x : DelA} (h : DelAt w w.heap.size d x) (hb : Below w.heap.size w w') : DelAt w' w'.heap.size d x := (h.below hb).more hb.size
set_option maxRecDepth 100000 in
set_option maxHeartbeats 2000000 in
theorem walkDeltaDecodes (b : ByteArray) (hb : b.size ≤ 9223372036854775807) (w : World) (hT : Tabs w) :
    Calls Tryd.prog 10 #[.string b] w fun e w'' => e = .returned (.bool true) ∧ Below w.heap.size w w'' := by
  have H1 := Lib.hid (ddecode_any b w hb hT)
  have H2 := Lib.hid (fun W => rddecode_any b W hb)
  have H3 := Lib.hid (fun W (hb : Below w.heap.size w W) => dcheck_zero W (hT.below hb))
  clear hT hb
  go_enter Tryd.func10, Tryd.ntmps10
  go_wp2_with fail
  refine Calls.mono H1.out ?_
  rintro e w1 ⟨st, x, E, rfl, hd, hA, hb1⟩
  obtain ⟨from_, to_, jobs, nodes, leases, gj, gn, gl⟩ := st
  obtain ⟨aj, nj, cj, an, nn, cn, al, nl, cl, agj, ngj, cgj, agn, ngn, cgn, agl, ngl, cgl⟩ := x
  have HA := Lib.hid hA
  have HD := Lib.hid hd
  have HB1 := Lib.hid hb1
  clear hd hA hb1
  unfold dC
  dsimp only
  go_wp2_with fail
  refine Calls.mono (H2.out _) ?_
  rintro e w2 ⟨st, x, E', rfl, hd, hA, hb2⟩
  rw [HD.out] at hd
  obtain ⟨rfl, rfl⟩ := Prod.mk.inj hd
  obtain ⟨aj', nj', cj', an', nn', cn', al', nl', cl', agj', ngj', cgj', agn', ngn', cgn', agl', ngl', cgl'⟩ := x
  unfold dC
  dsimp only
  have hbx : Below w1.heap.size w1 (w1.alloc (.cells #[.int .i64 from_, .int .i64 to_, .slice aj nj cj, .slice an nn cn, .slice al nl cl, .slice agj ngj cgj, .slice agn ngn cgn, .slice agl ngl cgl] 40)) := (Below.refl _ _).alloc (Nat.le_refl _) _
  have hX1 : Blk (w1.alloc (.cells #[.int .i64 from_, .int .i64 to_, .slice aj nj cj, .slice an nn cn, .slice al nl cl, .slice agj ngj cgj, .slice agn ngn cgn, .slice agl ngl cgl] 40)) w1.heap.size 40 #[.int .i64 from_, .int .i64 to_, .slice aj nj cj, .slice an nn cn, .slice al nl cl, .slice agj ngj cgj, .slice agn ngn cgn, .slice agl ngl cgl] := heap_alloc_new w1 _
  have hX2 := hX1.below hb2 hX1.lt
  have hAx := (HA.out.upD hbx).upD hb2
  have hB2 := (HB1.out.trans (hbx.mono HB1.out.size)).trans (hb2.mono (Nat.le_trans HB1.out.size hbx.size))
  have hby : Below w2.heap.size w2 (w2.alloc (.cells #[.int .i64 from_, .int .i64 to_, .slice aj' nj' cj', .slice an' nn' cn', .slice al' nl' cl', .slice agj' ngj' cgj', .slice agn' ngn' cgn', .slice agl' ngl' cgl'] 40)) := (Below.refl _ _).alloc (Nat.le_refl _) _
  have hX3 := hX2.below hby hX2.lt
  have hY3 : Blk (w2.alloc (.cells #[.int .i64 from_, .int .i64 to_, .slice aj' nj' cj', .slice an' nn' cn', .slice al' nl' cl', .slice agj' ngj' cgj', .slice agn' ngn' cgn', .slice agl' ngl' cgl'] 40)) w2.heap.size 40 #[.int .i64 from_, .int .i64 to_, .slice aj' nj' cj', .slice an' nn' cn', .slice al' nl' cl', .slice agj' ngj' cgj', .slice agn' ngn' cgn', .slice agl' ngl' cgl'] := heap_alloc_new w2 _
  have hAx3 := hAx.upD hby
  have hAy3 := hA.upD hby
  have hB3 := hB2.trans (hby.mono hB2.size)
  have hlt12 : w1.heap.size < w2.heap.size := hX2.lt
  have X3 := Lib.hid hX3
  have Y3 := Lib.hid hY3
  have B3 := Lib.hid hB3
  have HS := deq_same _ _ _ _ hAx3 hAy3
  unfold dC at HS
  dsimp only at HS
  have HS := Lib.hid HS
  have x0 : (w2.alloc (.cells #[.int .i64 from_, .int .i64 to_, .slice aj' nj' cj', .slice an' nn' cn', .slice al' nl' cl', .slice agj' ngj' cgj', .slice agn' ngn' cgn', .slice agl' ngl' cgl'] 40)).cell? ⟨w1.heap.size, 0, none⟩ = some (.int .i64 from_) := X3.out.cell 0
  have x1 : (w2.alloc (.cells #[.int .i64 from_, .int .i64 to_, .slice aj' nj' cj', .slice an' nn' cn', .slice al' nl' cl', .slice agj' ngj' cgj', .slice agn' ngn' cgn', .slice agl' ngl' cgl'] 40)).cell? ⟨w1.heap.size, 1, none⟩ = some (.int .i64 to_) := X3.out.cell 1
  have x2 : (w2.alloc (.cells #[.int .i64 from_, .int .i64 to_, .slice aj' nj' cj', .slice an' nn' cn', .slice al' nl' cl', .slice agj' ngj' cgj', .slice agn' ngn' cgn', .slice agl' ngl' cgl'] 40)).cell? ⟨w1.heap.size, 2, none⟩ = some (.slice aj nj cj) := X3.out.cell 2
  have x3 : (w2.alloc (.cells #[.int .i64 from_, .int .i64 to_, .slice aj' nj' cj', .slice an' nn' cn', .slice al' nl' cl', .slice agj' ngj' cgj', .slice agn' ngn' cgn', .slice agl' ngl' cgl'] 40)).cell? ⟨w1.heap.size, 3, none⟩ = some (.slice an nn cn) := X3.out.cell 3
  have x4 : (w2.alloc (.cells #[.int .i64 from_, .int .i64 to_, .slice aj' nj' cj', .slice an' nn' cn', .slice al' nl' cl', .slice agj' ngj' cgj', .slice agn' ngn' cgn', .slice agl' ngl' cgl'] 40)).cell? ⟨w1.heap.size, 4, none⟩ = some (.slice al nl cl) := X3.out.cell 4
  have x5 : (w2.alloc (.cells #[.int .i64 from_, .int .i64 to_, .slice aj' nj' cj', .slice an' nn' cn', .slice al' nl' cl', .slice agj' ngj' cgj', .slice agn' ngn' cgn', .slice agl' ngl' cgl'] 40)).cell? ⟨w1.heap.size, 5, none⟩ = some (.slice agj ngj cgj) := X3.out.cell 5
  have x6 : (w2.alloc (.cells #[.int .i64 from_, .int .i64 to_, .slice aj' nj' cj', .slice an' nn' cn', .slice al' nl' cl', .slice agj' ngj' cgj', .slice agn' ngn' cgn', .slice agl' ngl' cgl'] 40)).cell? ⟨w1.heap.size, 6, none⟩ = some (.slice agn ngn cgn) := X3.out.cell 6
  have x7 : (w2.alloc (.cells #[.int .i64 from_, .int .i64 to_, .slice aj' nj' cj', .slice an' nn' cn', .slice al' nl' cl', .slice agj' ngj' cgj', .slice agn' ngn' cgn', .slice agl' ngl' cgl'] 40)).cell? ⟨w1.heap.size, 7, none⟩ = some (.slice agl ngl cgl) := X3.out.cell 7
  have y0 : (w2.alloc (.cells #[.int .i64 from_, .int .i64 to_, .slice aj' nj' cj', .slice an' nn' cn', .slice al' nl' cl', .slice agj' ngj' cgj', .slice agn' ngn' cgn', .slice agl' ngl' cgl'] 40)).cell? ⟨w2.heap.size, 0, none⟩ = some (.int .i64 from_) := Y3.out.cell 0
  have y1 : (w2.alloc (.cells #[.int .i64 from_, .int .i64 to_, .slice aj' nj' cj', .slice an' nn' cn', .slice al' nl' cl', .slice agj' ngj' cgj', .slice agn' ngn' cgn', .slice agl' ngl' cgl'] 40)).cell? ⟨w2.heap.size, 1, none⟩ = some (.int .i64 to_) := Y3.out.cell 1
  have y2 : (w2.alloc (.cells #[.int .i64 from_, .int .i64 to_, .slice aj' nj' cj', .slice an' nn' cn', .slice al' nl' cl', .slice agj' ngj' cgj', .slice agn' ngn' cgn', .slice agl' ngl' cgl'] 40)).cell? ⟨w2.heap.size, 2, none⟩ = some (.slice aj' nj' cj') := Y3.out.cell 2
  have y3 : (w2.alloc (.cells #[.int .i64 from_, .int .i64 to_, .slice aj' nj' cj', .slice an' nn' cn', .slice al' nl' cl', .slice agj' ngj' cgj', .slice agn' ngn' cgn', .slice agl' ngl' cgl'] 40)).cell? ⟨w2.heap.size, 3, none⟩ = some (.slice an' nn' cn') := Y3.out.cell 3
  have y4 : (w2.alloc (.cells #[.int .i64 from_, .int .i64 to_, .slice aj' nj' cj', .slice an' nn' cn', .slice al' nl' cl', .slice agj' ngj' cgj', .slice agn' ngn' cgn', .slice agl' ngl' cgl'] 40)).cell? ⟨w2.heap.size, 4, none⟩ = some (.slice al' nl' cl') := Y3.out.cell 4
  have y5 : (w2.alloc (.cells #[.int .i64 from_, .int .i64 to_, .slice aj' nj' cj', .slice an' nn' cn', .slice al' nl' cl', .slice agj' ngj' cgj', .slice agn' ngn' cgn', .slice agl' ngl' cgl'] 40)).cell? ⟨w2.heap.size, 5, none⟩ = some (.slice agj' ngj' cgj') := Y3.out.cell 5
  have y6 : (w2.alloc (.cells #[.int .i64 from_, .int .i64 to_, .slice aj' nj' cj', .slice an' nn' cn', .slice al' nl' cl', .slice agj' ngj' cgj', .slice agn' ngn' cgn', .slice agl' ngl' cgl'] 40)).cell? ⟨w2.heap.size, 6, none⟩ = some (.slice agn' ngn' cgn') := Y3.out.cell 6
  have y7 : (w2.alloc (.cells #[.int .i64 from_, .int .i64 to_, .slice aj' nj' cj', .slice an' nn' cn', .slice al' nl' cl', .slice agj' ngj' cgj', .slice agn' ngn' cgn', .slice agl' ngl' cgl'] 40)).cell? ⟨w2.heap.size, 7, none⟩ = some (.slice agl' ngl' cgl') := Y3.out.cell 7
  have hlx := X3.out.lt
  clear hbx hX1 hX2 hAx hB2 hby hX3 hY3 hAx3 hAy3 hB3 hb2 hA hd HA HB1 HD H1 H2 X3 Y3
  go_wp2_with fail
  refine Calls.mono HS.out ?_
  rintro e w3 ⟨rfl, hb4⟩
  have B4 := Lib.hid (B3.out.trans (hb4.mono B3.out.size))
  have hee : (E == E) = true := beq_self_eq_true _
  clear hb4 HS x0 x1 x2 x3 x4 x5 x6 x7 y0 y1 y2 y3 y4 y5 y6 y7
  go_wp2_with fail
  refine Calls.mono (H3.out _ B4.out) ?_
  rintro e w4 ⟨rfl, hb5⟩
  have B5 := Lib.hid (B4.out.trans (hb5.mono B4.out.size))
  clear hb5
  go_wp2
  go_ret
  exact ⟨rfl, B5.out⟩
end Go.Proofs.YtonipllegfgdiaaDoor
