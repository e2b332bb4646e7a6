/- The walk of the law JSONPrints. -/
import Derived.Test.YtoeejfhdjmkpcaaDoorJPrint
import Derived.Test.YtoeejfhdjmkpcaaDoorRPrint
import Derived.Test.YtoeejfhdjmkpcaaDoorArgSt
set_option linter.unusedVariables false
set_option linter.unusedSimpArgs false
namespace Go.Proofs.YtoeejfhdjmkpcaaDoor
open Go.RowKit
theorem zeroAt (w : World) (r : Int) : StAt w w.heap.size ⟨r, [], [], []⟩ ⟨none, 0, 0, none, 0, 0, none, 0, 0⟩ :=
  ⟨SlAt.nil, SlAt.nil, SlAt.nil, rfl, rfl, rfl, by decide, by decide, by decide, fun _ h => absurd h List.not_mem_nil, fun _ h => absurd h List.not_mem_nil, fun _ h => absurd h List.not_mem_nil⟩
set_option maxRecDepth 100000 in
theorem jprint_bad (w : World) (hT : Tabs w) (hP : Lib.TabBelow Tryd.prog w.heap.size w "internal/strconv.uint64pow10" .u64 Lib.pow10Tab) :
    Calls Tryd.prog 4 #[.agg #[.int .i64 (-1), .slice none 0 0, .slice none 0 0, .slice none 0 0]] w fun e w' => e = .returned (.tuple #[.string ⟨#[]⟩, .int .i64 1]) ∧ Below w.heap.size w w' :=
  (jprint_any ⟨-1, [], [], []⟩ ⟨none, 0, 0, none, 0, 0, none, 0, 0⟩ w (zeroAt w _) hT hP).mono fun e w' h => ⟨h.1.trans (by rfl), h.2⟩
set_option maxRecDepth 100000 in
set_option maxHeartbeats 1000000 in
theorem walkJSONPrints (w : World) (st : StateD) (x : StA) (h : StAt w w.heap.size st x ∧ StFull st) (hT : Tabs w) (hP : Lib.TabIs Tryd.prog w "internal/strconv.uint64pow10" .u64 Lib.pow10Tab) :
    Calls Tryd.prog 3 #[.agg (stC st x)] w fun e w'' => e = .returned (.bool true) ∧ Below w.heap.size w w'' := by
  have hS := h.1
  have hbS : Below w.heap.size w (w.alloc (.cells (stC st x) 26)) := (Below.refl _ _).alloc (Nat.le_refl _) _
  have hBS : Blk (w.alloc (.cells (stC st x) 26)) w.heap.size 26 (stC st x) := heap_alloc_new w _
  have hPB := Lib.tabBelow_of_tabIs hP
  have hPW := fun (W : World) (hb : Below w.heap.size w W) => (show Lib.TabBelow Tryd.prog W.heap.size W "internal/strconv.uint64pow10" .u64 Lib.pow10Tab from fun w' h' => hPB w' (hb.trans (h'.mono hb.size)))
  have h1 := jprint_any st x _ (hS.upE hbS) (hT.below hbS) (hPW _ hbS)
  have h2 := fun W (hb : Below w.heap.size w W) => rprint_any st x W (hS.upE hb)
  have H3 := Lib.hid (fun W (hb : Below w.heap.size w W) => jprint_bad W (hT.below hb) (hPW W hb))
  have HbS := Lib.hid hbS
  have HBS := Lib.hid hBS
  unfold PrPost at h1 h2
  obtain ⟨T, hT2⟩ : ∃ T, (printF st).1 = T := ⟨_, rfl⟩
  obtain ⟨E, hE2⟩ : ∃ E, (printF st).2 = E := ⟨_, rfl⟩
  rw [hT2, hE2] at h1
  simp only [hT2, hE2] at h2
  have H1 := Lib.hid h1
  have H2 := Lib.hid h2
  clear h hS hT hP hPB hPW hbS hBS h1 h2 hT2 hE2
  obtain ⟨rev0, jobs0, nodes0, leases0⟩ := st
  obtain ⟨aj0, nj0, cj0, an0, nn0, cn0, al0, nl0, cl0⟩ := x
  unfold stC at *
  dsimp only at *
  go_enter Tryd.func3, Tryd.ntmps3
  go_wp2_with fail
  refine Calls.mono H1.out ?_
  rintro e w1 ⟨rfl, hb1⟩
  have HB1 := Lib.hid (HbS.out.trans (hb1.mono HbS.out.size))
  have S1 := Lib.hid (HBS.out.below hb1 HBS.out.lt)
  have s0 : w1.cell? ⟨w.heap.size, 0, none⟩ = some (.int .i64 rev0) := S1.out.cell 0
  have s1 : w1.cell? ⟨w.heap.size, 1, none⟩ = some (.slice aj0 nj0 cj0) := S1.out.cell 1
  have s2 : w1.cell? ⟨w.heap.size, 2, none⟩ = some (.slice an0 nn0 cn0) := S1.out.cell 2
  have s3 : w1.cell? ⟨w.heap.size, 3, none⟩ = some (.slice al0 nl0 cl0) := S1.out.cell 3
  clear hb1 HBS HbS H1
  go_wp2_with fail
  refine Calls.mono (H2.out _ HB1.out) ?_
  rintro e w2 ⟨rfl, hb2⟩
  have HB2 := Lib.hid (HB1.out.trans (hb2.mono HB1.out.size))
  clear hb2 s0 s1 s2 s3 S1 HB1
  go_wp2_with fail
  refine Calls.mono (bad_any _) ?_
  rintro e w3 ⟨rfl, hb3⟩
  have HB3 := Lib.hid (HB2.out.trans (hb3.mono HB2.out.size))
  clear hb3 HB2
  go_wp2_with fail
  refine Calls.mono (H3.out _ HB3.out) ?_
  rintro e w4 ⟨rfl, hb4⟩
  have B4 := Lib.hid (HB3.out.trans (hb4.mono HB3.out.size))
  have hee : (E == E) = true := beq_self_eq_true _
  have htt : (T.toList == T.toList) = true := beq_self_eq_true _
  clear hb4
  go_wp2
  go_ret
  exact ⟨rfl, B4.out⟩
end Go.Proofs.YtoeejfhdjmkpcaaDoor
