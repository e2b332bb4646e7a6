/- The walk of the law UpDowns. -/
import Derived.Test.YtbbagnfmoecdfaaDoorDown
import Derived.Test.YtbbagnfmoecdfaaDoorRDown
import Derived.Test.YtbbagnfmoecdfaaDoorSameR
import Derived.Test.YtbbagnfmoecdfaaDoorArgSt
set_option linter.unusedVariables false
set_option linter.unusedSimpArgs false
namespace Go.Proofs.YtbbagnfmoecdfaaDoor
open Go.RowKit
theorem down_any (st : StateD) (x : StA) (c : Int) (w : World) (hS : StAt w w.heap.size st x) (hT : Tabs w) :
    Calls Tryd.prog 12 #[.agg (stC st x), .int .i64 c] w (DnPost st c w) := by
  by_cases h0 : checkE st = 0
  · by_cases h1 : c < 1
    · exact down_low st x c h0 h1 w hS hT
    · by_cases h3 : 3 < c
      · exact down_high st x c h0 h3 w hS hT
      · rcases (show c = 1 ∨ c = 2 ∨ c = 3 by omega) with rfl | rfl | rfl
        · exact down_1 st x h0 w hS hT
        · exact down_2 st x h0 w hS hT
        · exact down_3 st x h0 w hS hT
  · exact down_bad st x c _ rfl h0 w hS hT
theorem rdown_any (st : StateD) (x : StA) (c : Int) (w : World) (hS : StAt w w.heap.size st x) :
    Calls Tryd.prog 13 #[.agg (stC st x), .int .i64 c] w (DnPost st c w) := by
  by_cases h0 : checkE st = 0
  · cases hr : ranged c 1 3 with
    | false => exact rdown_arg st x c h0 hr w hS
    | true =>
      have := ranged_iff.1 hr
      rcases (show c = 1 ∨ c = 2 ∨ c = 3 by omega) with rfl | rfl | rfl
      · exact rdown_1 st x h0 w hS
      · exact rdown_2 st x h0 w hS
      · exact rdown_3 st x h0 w hS
  · exact rdown_bad st x c _ rfl h0 w hS
/-- Bytes at a way that is none. -/
theorem upbytes_noway (b : ByteArray) (w : World) : Calls Tryd.prog 14 #[.string b, .int .i64 2, .int .i64 1] w fun e w' => e = .returned (.tuple #[.string ⟨#[]⟩, .int .i64 1]) ∧ w = w' := by
  go_enter Tryd.func14, Tryd.ntmps14
  go_wp2_with fail
  refine Calls.mono (isway_any 2 1 _) ?_
  rintro e w0 ⟨rfl, rfl⟩
  rw [show isWayB 2 1 = false from by decide]
  go_wp2
  exact bodyPost_ret (v := .tuple #[.string ⟨#[]⟩, .int .i64 1]) (by simp [results, Tryd.results14, go_sem]) rfl ⟨rfl, rfl⟩
set_option maxRecDepth 100000 in
set_option maxHeartbeats 1000000 in
theorem walkUpDowns (w : World) (st : StateD) (x : StA) (c : Int) (h : StAt w w.heap.size st x ∧ StFull st) (hc1 : -9223372036854775808 ≤ c) (hc2 : c ≤ 9223372036854775807) (hT : Tabs w) :
    Calls Tryd.prog 5 #[.agg (stC st x), .int .i64 c] w fun e w'' => e = .returned (.bool true) ∧ Below w.heap.size w w'' := by
  have hS := h.1
  have hbS : Below w.heap.size w (w.alloc (.cells (stC st x) 26)) := (Below.refl _ _).alloc (Nat.le_refl _) _
  have hBS : Blk (w.alloc (.cells (stC st x) 26)) w.heap.size 26 (stC st x) := heap_alloc_new w _
  have H1 := Lib.hid (down_any st x c _ (hS.up hbS) (hT.below hbS))
  have H2 := Lib.hid (fun W (hb : Below w.heap.size w W) => rdown_any st x c W (hS.up hb))
  have HbS := Lib.hid hbS
  have HBS := Lib.hid hBS
  clear h hS hT hbS hBS
  obtain ⟨rev0, jobs0, nodes0, leases0⟩ := st
  obtain ⟨aj0, nj0, cj0, an0, nn0, cn0, al0, nl0, cl0⟩ := x
  unfold stC at *
  dsimp only at *
  go_enter Tryd.func5, Tryd.ntmps5
  go_wp2_with fail
  refine Calls.mono H1.out ?_
  rintro e w1 ⟨st, x, T, E, rfl, hd, hA, hb1⟩
  obtain ⟨rev, jobs, nodes, leases⟩ := st
  obtain ⟨aj, nj, cj, an, nn, cn, al, nl, cl⟩ := x
  have HA := Lib.hid hA
  have HD := Lib.hid hd
  have HB1 := Lib.hid (HbS.out.trans (hb1.mono HbS.out.size))
  have S1 := Lib.hid (HBS.out.below hb1 HBS.out.lt)
  have s0 : w1.cell? ⟨w.heap.size, 0, none⟩ = some (.int .i64 rev0) := S1.out.cell 0
  have s1 : w1.cell? ⟨w.heap.size, 1, none⟩ = some (.slice aj0 nj0 cj0) := S1.out.cell 1
  have s2 : w1.cell? ⟨w.heap.size, 2, none⟩ = some (.slice an0 nn0 cn0) := S1.out.cell 2
  have s3 : w1.cell? ⟨w.heap.size, 3, none⟩ = some (.slice al0 nl0 cl0) := S1.out.cell 3
  have hsl := S1.out.lt
  clear hd hA hb1 HBS HbS H1
  unfold stC
  dsimp only
  have hbx : Below w1.heap.size w1 (w1.alloc (.cells #[.int .i64 rev, .slice aj nj cj, .slice an nn cn, .slice al nl cl] 26)) := (Below.refl _ _).alloc (Nat.le_refl _) _
  have hBx := Lib.hid (HB1.out.trans (hbx.mono HB1.out.size))
  have X1 := Lib.hid (show Blk (w1.alloc (.cells #[.int .i64 rev, .slice aj nj cj, .slice an nn cn, .slice al nl cl] 26)) w1.heap.size 26 #[.int .i64 rev, .slice aj nj cj, .slice an nn cn, .slice al nl cl] from heap_alloc_new w1 _)
  have Ax := Lib.hid (HA.out.up hbx)
  have Sx := Lib.hid (S1.out.below hbx S1.out.lt)
  have hc2 := Lib.hid (H2.out _ hBx.out)
  clear hbx
  go_wp2_with fail
  refine Calls.mono (hc2.out) ?_
  rintro e w2 ⟨st, x, T', E', rfl, hd, hA, hb2⟩
  rw [HD.out] at hd
  obtain ⟨rfl, hd2⟩ := Prod.mk.inj hd
  obtain ⟨rfl, rfl⟩ := Prod.mk.inj hd2
  obtain ⟨aj', nj', cj', an', nn', cn', al', nl', cl'⟩ := x
  unfold stC
  dsimp only
  have hX2 := X1.out.below hb2 X1.out.lt
  have hS2 := Sx.out.below hb2 Sx.out.lt
  have hAx := Ax.out.up hb2
  have hB2 := hBx.out.trans (hb2.mono hBx.out.size)
  have hby : Below w2.heap.size w2 (w2.alloc (.cells #[.int .i64 rev, .slice aj' nj' cj', .slice an' nn' cn', .slice al' nl' cl'] 26)) := (Below.refl _ _).alloc (Nat.le_refl _) _
  have hX3 := hX2.below hby hX2.lt
  have hS3 := hS2.below hby hS2.lt
  have hY3 : Blk (w2.alloc (.cells #[.int .i64 rev, .slice aj' nj' cj', .slice an' nn' cn', .slice al' nl' cl'] 26)) w2.heap.size 26 #[.int .i64 rev, .slice aj' nj' cj', .slice an' nn' cn', .slice al' nl' cl'] := heap_alloc_new w2 _
  have hB3 := hB2.trans (hby.mono hB2.size)
  have X3 := Lib.hid hX3
  have Y3 := Lib.hid hY3
  have Ax3 := Lib.hid (hAx.up hby)
  have Ay3 := Lib.hid (hA.up hby)
  have B3 := Lib.hid hB3
  have hlt12 : w1.heap.size < w2.heap.size := hX2.lt
  have hsl2 : w.heap.size < w2.heap.size := hS2.lt
  have s0 : w2.cell? ⟨w.heap.size, 0, none⟩ = some (.int .i64 rev0) := hS2.cell 0
  have s1 : w2.cell? ⟨w.heap.size, 1, none⟩ = some (.slice aj0 nj0 cj0) := hS2.cell 1
  have s2 : w2.cell? ⟨w.heap.size, 2, none⟩ = some (.slice an0 nn0 cn0) := hS2.cell 2
  have s3 : w2.cell? ⟨w.heap.size, 3, none⟩ = some (.slice al0 nl0 cl0) := hS2.cell 3
  clear hby hX3 hY3 hB3 hX2 hS2 hS3 hAx hB2 hb2 hA hd hd2 HA HB1 HD H2 X1 Ax Sx hBx S1 hc2
  go_wp2_with fail
  refine Calls.mono (upbytes_noway _ _) ?_
  rintro e w3 ⟨rfl, rfl⟩
  have HX := X3.out
  have HY := Y3.out
  have hlx := HX.lt
  have hly := HY.lt
  have x0 : (w2.alloc (.cells #[.int .i64 rev, .slice aj' nj' cj', .slice an' nn' cn', .slice al' nl' cl'] 26)).cell? ⟨w1.heap.size, 0, none⟩ = some (.int .i64 rev) := HX.cell 0
  have x1 : (w2.alloc (.cells #[.int .i64 rev, .slice aj' nj' cj', .slice an' nn' cn', .slice al' nl' cl'] 26)).cell? ⟨w1.heap.size, 1, none⟩ = some (.slice aj nj cj) := HX.cell 1
  have x2 : (w2.alloc (.cells #[.int .i64 rev, .slice aj' nj' cj', .slice an' nn' cn', .slice al' nl' cl'] 26)).cell? ⟨w1.heap.size, 2, none⟩ = some (.slice an nn cn) := HX.cell 2
  have x3 : (w2.alloc (.cells #[.int .i64 rev, .slice aj' nj' cj', .slice an' nn' cn', .slice al' nl' cl'] 26)).cell? ⟨w1.heap.size, 3, none⟩ = some (.slice al nl cl) := HX.cell 3
  have y0 : (w2.alloc (.cells #[.int .i64 rev, .slice aj' nj' cj', .slice an' nn' cn', .slice al' nl' cl'] 26)).cell? ⟨w2.heap.size, 0, none⟩ = some (.int .i64 rev) := HY.cell 0
  have y1 : (w2.alloc (.cells #[.int .i64 rev, .slice aj' nj' cj', .slice an' nn' cn', .slice al' nl' cl'] 26)).cell? ⟨w2.heap.size, 1, none⟩ = some (.slice aj' nj' cj') := HY.cell 1
  have y2 : (w2.alloc (.cells #[.int .i64 rev, .slice aj' nj' cj', .slice an' nn' cn', .slice al' nl' cl'] 26)).cell? ⟨w2.heap.size, 2, none⟩ = some (.slice an' nn' cn') := HY.cell 2
  have y3 : (w2.alloc (.cells #[.int .i64 rev, .slice aj' nj' cj', .slice an' nn' cn', .slice al' nl' cl'] 26)).cell? ⟨w2.heap.size, 3, none⟩ = some (.slice al' nl' cl') := HY.cell 3
  have HS := Lib.hid (same_any _ _ _ _ _ Ax3.out Ay3.out)
  have B4 := Lib.hid (B3.out)
  clear HX HY
  unfold stC at HS
  dsimp only at HS
  go_wp2_with fail
  refine Calls.mono HS.out ?_
  rintro e w4 ⟨t, rfl, ht, hb5⟩
  obtain rfl : t = true := ht.2 rfl
  have B5 := Lib.hid (B4.out.trans (hb5.mono B4.out.size))
  have hee : (E == E) = true := beq_self_eq_true _
  have htt : (T == T) = true := beq_self_eq_true _
  clear hb5 ht
  go_wp2
  go_ret
  exact ⟨rfl, B5.out⟩
end Go.Proofs.YtbbagnfmoecdfaaDoor
