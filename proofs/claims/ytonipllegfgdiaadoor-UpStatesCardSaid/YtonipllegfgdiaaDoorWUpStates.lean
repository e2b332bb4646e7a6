/- The walk of the law UpStates. -/
import Derived.Test.YtonipllegfgdiaaDoorUpStR
import Derived.Test.YtonipllegfgdiaaDoorSameR
import Derived.Test.YtonipllegfgdiaaDoorArgSt
set_option linter.unusedVariables false
set_option linter.unusedSimpArgs false
namespace Go.Proofs.YtonipllegfgdiaaDoor
open Go.RowKit
set_option maxRecDepth 100000 in
set_option maxHeartbeats 1000000 in
theorem walkUpStates (w : World) (st : StateD) (x : StA) (a b : Int) (h : StAt w w.heap.size st x ∧ StFull st) (ha1 : -9223372036854775808 ≤ a) (ha2 : a ≤ 9223372036854775807) (hb1 : -9223372036854775808 ≤ b) (hb2 : b ≤ 9223372036854775807) (hT : Tabs w) :
    Calls Tryd.prog 6 #[.agg (stC st x), .int .i64 a, .int .i64 b] w fun e w'' => e = .returned (.bool true) ∧ Below w.heap.size w w'' := by
  have hS := h.1
  have hbS : Below w.heap.size w (w.alloc (.cells (stC st x) 26)) := (Below.refl _ _).alloc (Nat.le_refl _) _
  have hBS : Blk (w.alloc (.cells (stC st x) 26)) w.heap.size 26 (stC st x) := heap_alloc_new w _
  have H1 := Lib.hid (upstate_any st x a b _ (hS.up hbS) (hT.below hbS))
  have H2 := Lib.hid (fun W (hb : Below w.heap.size w W) => rupstate_any st x a b W (hS.up hb))
  have H3 := Lib.hid (fun W (hb : Below w.heap.size w W) => upstate_any st x 2 1 W (hS.up hb) (hT.below hb))
  have hx0 : upF st 2 1 = (zeroSt, 1) := upF_way (by decide)
  have Hx0 := Lib.hid hx0
  have HbS := Lib.hid hbS
  have HBS := Lib.hid hBS
  clear h hS hT hx0 hbS hBS
  obtain ⟨rev0, jobs0, nodes0, leases0⟩ := st
  obtain ⟨aj0, nj0, cj0, an0, nn0, cn0, al0, nl0, cl0⟩ := x
  unfold stC at *
  dsimp only at *
  go_enter Tryd.func6, Tryd.ntmps6
  go_wp2_with fail
  refine Calls.mono H1.out ?_
  rintro e w1 ⟨st, x, E, rfl, hd, hA, hb1⟩
  obtain ⟨rev, jobs, nodes, leases⟩ := st
  obtain ⟨aj, nj, cj, an, nn, cn, al, nl, cl⟩ := x
  have HA := Lib.hid hA
  have HD := Lib.hid hd
  have HB1 := Lib.hid (HbS.out.trans (hb1.mono HbS.out.size))
  have S1 := Lib.hid (HBS.out.below hb1 HBS.out.lt)
  have s0 : w1.cell? ⟨w.heap.size, 0, none⟩ = some (.int .i64 rev0) := S1.out.cell 0
  have s1 : w1.cell? ⟨w.heap.size, 1, none⟩ = some (.slice aj0 nj0 cj0) := S1.out.cell 1
  have s2 : w1.cell? ⟨w.heap.size, 2, none⟩ = some (.slice an0 nn0 cn0) := S1.out.cell 2
  have s3 : w1.cell? ⟨w.heap.size, 3, none⟩ = some (.slice al0 nl0 cl0) := S1.out.cell 3
  have hsl := S1.out.lt
  clear hd hA hb1 HBS HbS H1
  unfold stC
  dsimp only
  have hbx : Below w1.heap.size w1 (w1.alloc (.cells #[.int .i64 rev, .slice aj nj cj, .slice an nn cn, .slice al nl cl] 26)) := (Below.refl _ _).alloc (Nat.le_refl _) _
  have hBx := Lib.hid (HB1.out.trans (hbx.mono HB1.out.size))
  have X1 := Lib.hid (show Blk (w1.alloc (.cells #[.int .i64 rev, .slice aj nj cj, .slice an nn cn, .slice al nl cl] 26)) w1.heap.size 26 #[.int .i64 rev, .slice aj nj cj, .slice an nn cn, .slice al nl cl] from heap_alloc_new w1 _)
  have Ax := Lib.hid (HA.out.up hbx)
  have Sx := Lib.hid (S1.out.below hbx S1.out.lt)
  have hc2 := Lib.hid (H2.out _ hBx.out)
  clear hbx
  go_wp2_with fail
  refine Calls.mono (hc2.out) ?_
  rintro e w2 ⟨st, x, E', rfl, hd, hA, hb2⟩
  rw [HD.out] at hd
  obtain ⟨rfl, rfl⟩ := Prod.mk.inj hd
  obtain ⟨aj', nj', cj', an', nn', cn', al', nl', cl'⟩ := x
  unfold stC
  dsimp only
  have hX2 := X1.out.below hb2 X1.out.lt
  have hS2 := Sx.out.below hb2 Sx.out.lt
  have hAx := Ax.out.up hb2
  have hB2 := hBx.out.trans (hb2.mono hBx.out.size)
  have hby : Below w2.heap.size w2 (w2.alloc (.cells #[.int .i64 rev, .slice aj' nj' cj', .slice an' nn' cn', .slice al' nl' cl'] 26)) := (Below.refl _ _).alloc (Nat.le_refl _) _
  have hX3 := hX2.below hby hX2.lt
  have hS3 := hS2.below hby hS2.lt
  have hY3 : Blk (w2.alloc (.cells #[.int .i64 rev, .slice aj' nj' cj', .slice an' nn' cn', .slice al' nl' cl'] 26)) w2.heap.size 26 #[.int .i64 rev, .slice aj' nj' cj', .slice an' nn' cn', .slice al' nl' cl'] := heap_alloc_new w2 _
  have hB3 := hB2.trans (hby.mono hB2.size)
  have X3 := Lib.hid hX3
  have Y3 := Lib.hid hY3
  have Ax3 := Lib.hid (hAx.up hby)
  have Ay3 := Lib.hid (hA.up hby)
  have B3 := Lib.hid hB3
  have H3' := Lib.hid (H3.out _ hB3)
  have hlt12 : w1.heap.size < w2.heap.size := hX2.lt
  have hsl2 : w.heap.size < w2.heap.size := hS2.lt
  have s0 : w2.cell? ⟨w.heap.size, 0, none⟩ = some (.int .i64 rev0) := hS2.cell 0
  have s1 : w2.cell? ⟨w.heap.size, 1, none⟩ = some (.slice aj0 nj0 cj0) := hS2.cell 1
  have s2 : w2.cell? ⟨w.heap.size, 2, none⟩ = some (.slice an0 nn0 cn0) := hS2.cell 2
  have s3 : w2.cell? ⟨w.heap.size, 3, none⟩ = some (.slice al0 nl0 cl0) := hS2.cell 3
  clear hby hX3 hY3 hB3 hX2 hS2 hS3 hAx hB2 hb2 hA hd HA HB1 HD H2 H3 X1 Ax Sx hBx S1 hc2
  go_wp2_with fail
  refine Calls.mono H3'.out ?_
  rintro e w3 ⟨st0, x0, E0, rfl, hd0, -, hb4⟩
  rw [Hx0.out] at hd0
  obtain ⟨rfl, rfl⟩ := Prod.mk.inj hd0
  obtain ⟨aj0, nj0, cj0, an0, nn0, cn0, al0, nl0, cl0⟩ := x0
  unfold stC zeroSt
  dsimp only
  have HX := X3.out.below hb4 X3.out.lt
  have HY := Y3.out.below hb4 Y3.out.lt
  have hlx := HX.lt
  have hly := HY.lt
  have x0 : w3.cell? ⟨w1.heap.size, 0, none⟩ = some (.int .i64 rev) := HX.cell 0
  have x1 : w3.cell? ⟨w1.heap.size, 1, none⟩ = some (.slice aj nj cj) := HX.cell 1
  have x2 : w3.cell? ⟨w1.heap.size, 2, none⟩ = some (.slice an nn cn) := HX.cell 2
  have x3 : w3.cell? ⟨w1.heap.size, 3, none⟩ = some (.slice al nl cl) := HX.cell 3
  have y0 : w3.cell? ⟨w2.heap.size, 0, none⟩ = some (.int .i64 rev) := HY.cell 0
  have y1 : w3.cell? ⟨w2.heap.size, 1, none⟩ = some (.slice aj' nj' cj') := HY.cell 1
  have y2 : w3.cell? ⟨w2.heap.size, 2, none⟩ = some (.slice an' nn' cn') := HY.cell 2
  have y3 : w3.cell? ⟨w2.heap.size, 3, none⟩ = some (.slice al' nl' cl') := HY.cell 3
  have hbz : Below w3.heap.size w3 (w3.alloc (.cells #[.int .i64 0, .slice aj0 nj0 cj0, .slice an0 nn0 cn0, .slice al0 nl0 cl0] 26)) := (Below.refl _ _).alloc (Nat.le_refl _) _
  have HS := Lib.hid (same_any _ _ _ _ _ ((Ax3.out.up hb4).up hbz) ((Ay3.out.up hb4).up hbz))
  have B4 := Lib.hid ((B3.out.trans (hb4.mono B3.out.size)).trans (hbz.mono (Nat.le_trans B3.out.size hb4.size)))
  clear HX HY hb4 hd0 hbz
  unfold stC at HS
  dsimp only at HS
  go_wp2_with fail
  refine Calls.mono HS.out ?_
  rintro e w4 ⟨t, rfl, ht, hb5⟩
  obtain rfl : t = true := ht.2 rfl
  have B5 := Lib.hid (B4.out.trans (hb5.mono B4.out.size))
  have hee : (E == E) = true := beq_self_eq_true _
  clear hb5 ht
  go_wp2
  go_ret
  exact ⟨rfl, B5.out⟩
end Go.Proofs.YtonipllegfgdiaaDoor
