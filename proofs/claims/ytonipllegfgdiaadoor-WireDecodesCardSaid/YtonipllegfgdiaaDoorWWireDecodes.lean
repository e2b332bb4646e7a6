/- The walk of the law WireDecodes. -/
import Derived.Test.YtonipllegfgdiaaDoorRDec
import Derived.Test.YtonipllegfgdiaaDoorSameR
namespace Go.Proofs.YtonipllegfgdiaaDoor
open Go.RowKit
set_option maxRecDepth 100000 in
set_option maxHeartbeats 1000000 in
theorem walkWireDecodes (b : ByteArray) (v : Int) (hb : b.size ≤ 9223372036854775807) (hv1 : -9223372036854775808 ≤ v) (hv2 : v ≤ 9223372036854775807) (w : World) (hT : Tabs w) :
    Calls Tryd.prog 9 #[.string b, .int .i64 v] w fun e w'' => e = .returned (.bool true) ∧ Below w.heap.size w w'' := by
  have H1 := Lib.hid (wdecode_any b v w hb hT)
  have H2 := Lib.hid (fun W => rdecode_any b v W hb)
  have H3 := Lib.hid (fun W (hb : Below w.heap.size w W) => wdecode_any ⟨#[]⟩ 0 W (by decide) (hT.below hb))
  have hx0 := decF_arg (b := ⟨#[]⟩) (v := 0) (.inl (by decide))
  have Hx0 := Lib.hid hx0
  clear hT hb hx0
  go_enter Tryd.func9, Tryd.ntmps9
  go_wp2_with fail
  refine Calls.mono H1.out ?_
  rintro e w1 ⟨st, x, E, rfl, hd, hA, hb1⟩
  obtain ⟨rev, jobs, nodes, leases⟩ := st
  obtain ⟨aj, nj, cj, an, nn, cn, al, nl, cl⟩ := x
  have HA := Lib.hid hA
  have HD := Lib.hid hd
  have HB1 := Lib.hid hb1
  clear hd hA hb1
  unfold stC
  dsimp only
  go_wp2_with fail
  refine Calls.mono (H2.out _) ?_
  rintro e w2 ⟨st, x, E', rfl, hd, hA, hb2⟩
  rw [HD.out] at hd
  obtain ⟨rfl, rfl⟩ := Prod.mk.inj hd
  obtain ⟨aj', nj', cj', an', nn', cn', al', nl', cl'⟩ := x
  unfold stC
  dsimp only
  have hbx : Below w1.heap.size w1 (w1.alloc (.cells #[.int .i64 rev, .slice aj nj cj, .slice an nn cn, .slice al nl cl] 26)) := (Below.refl _ _).alloc (Nat.le_refl _) _
  have hX1 : Blk (w1.alloc (.cells #[.int .i64 rev, .slice aj nj cj, .slice an nn cn, .slice al nl cl] 26)) w1.heap.size 26 #[.int .i64 rev, .slice aj nj cj, .slice an nn cn, .slice al nl cl] := heap_alloc_new w1 _
  have hX2 := hX1.below hb2 hX1.lt
  have hAx := (HA.out.up hbx).up hb2
  have hB2 := (HB1.out.trans (hbx.mono HB1.out.size)).trans (hb2.mono (Nat.le_trans HB1.out.size hbx.size))
  have hby : Below w2.heap.size w2 (w2.alloc (.cells #[.int .i64 rev, .slice aj' nj' cj', .slice an' nn' cn', .slice al' nl' cl'] 26)) := (Below.refl _ _).alloc (Nat.le_refl _) _
  have hX3 := hX2.below hby hX2.lt
  have hY3 : Blk (w2.alloc (.cells #[.int .i64 rev, .slice aj' nj' cj', .slice an' nn' cn', .slice al' nl' cl'] 26)) w2.heap.size 26 #[.int .i64 rev, .slice aj' nj' cj', .slice an' nn' cn', .slice al' nl' cl'] := heap_alloc_new w2 _
  have hAx3 := hAx.up hby
  have hAy3 := hA.up hby
  have hB3 := hB2.trans (hby.mono hB2.size)
  have hlt12 : w1.heap.size < w2.heap.size := hX2.lt
  have h3 := H3.out _ hB3
  have X3 := Lib.hid hX3
  have Y3 := Lib.hid hY3
  have Ax3 := Lib.hid hAx3
  have Ay3 := Lib.hid hAy3
  have B3 := Lib.hid hB3
  have H3' := Lib.hid h3
  clear hbx hX1 hX2 hAx hB2 hby hX3 hY3 hAx3 hAy3 hB3 h3 hb2 hA hd HA HB1 HD H1 H2 H3
  go_wp2_with fail
  refine Calls.mono H3'.out ?_
  rintro e w3 ⟨st0, x0, E0, rfl, hd0, -, hb4⟩
  rw [Hx0.out] at hd0
  obtain ⟨rfl, rfl⟩ := Prod.mk.inj hd0
  obtain ⟨aj0, nj0, cj0, an0, nn0, cn0, al0, nl0, cl0⟩ := x0
  unfold stC zeroSt
  dsimp only
  have HX := X3.out.below hb4 X3.out.lt
  have HY := Y3.out.below hb4 Y3.out.lt
  have hlx := HX.lt
  have hly := HY.lt
  have x0 : w3.cell? ⟨w1.heap.size, 0, none⟩ = some (.int .i64 rev) := HX.cell 0
  have x1 : w3.cell? ⟨w1.heap.size, 1, none⟩ = some (.slice aj nj cj) := HX.cell 1
  have x2 : w3.cell? ⟨w1.heap.size, 2, none⟩ = some (.slice an nn cn) := HX.cell 2
  have x3 : w3.cell? ⟨w1.heap.size, 3, none⟩ = some (.slice al nl cl) := HX.cell 3
  have y0 : w3.cell? ⟨w2.heap.size, 0, none⟩ = some (.int .i64 rev) := HY.cell 0
  have y1 : w3.cell? ⟨w2.heap.size, 1, none⟩ = some (.slice aj' nj' cj') := HY.cell 1
  have y2 : w3.cell? ⟨w2.heap.size, 2, none⟩ = some (.slice an' nn' cn') := HY.cell 2
  have y3 : w3.cell? ⟨w2.heap.size, 3, none⟩ = some (.slice al' nl' cl') := HY.cell 3
  have hbz : Below w3.heap.size w3 (w3.alloc (.cells #[.int .i64 0, .slice aj0 nj0 cj0, .slice an0 nn0 cn0, .slice al0 nl0 cl0] 26)) := (Below.refl _ _).alloc (Nat.le_refl _) _
  have HS := Lib.hid (same_any _ _ _ _ _ ((Ax3.out.up hb4).up hbz) ((Ay3.out.up hb4).up hbz))
  have B4 := Lib.hid ((B3.out.trans (hb4.mono B3.out.size)).trans (hbz.mono (Nat.le_trans B3.out.size hb4.size)))
  clear HX HY hb4 hd0 hbz
  unfold stC at HS
  dsimp only at HS
  go_wp2_with fail
  refine Calls.mono HS.out ?_
  rintro e w4 ⟨t, rfl, ht, hb5⟩
  obtain rfl : t = true := ht.2 rfl
  have B5 := Lib.hid (B4.out.trans (hb5.mono B4.out.size))
  have hee : (E == E) = true := beq_self_eq_true _
  clear hb5 ht
  go_wp2
  go_ret
  exact ⟨rfl, B5.out⟩
end Go.Proofs.YtonipllegfgdiaaDoor
