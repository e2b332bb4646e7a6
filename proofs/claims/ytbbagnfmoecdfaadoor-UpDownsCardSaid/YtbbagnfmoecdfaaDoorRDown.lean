/- The walk of the reference's Down. -/
import Derived.Test.YtbbagnfmoecdfaaDoorRUpA
import Derived.Test.YtbbagnfmoecdfaaDoorDownL
import Derived.Test.YtbbagnfmoecdfaaDoorStChkS
set_option linter.unusedVariables false
set_option linter.unusedSimpArgs false
namespace Go.Proofs.YtbbagnfmoecdfaaDoor
open Go.RowKit
/-- The last region of the reference's Down. -/
def rdnV (cd : Array Value) (u s : StateD) (xs γ : StA) (c : Int) (t : Bool) : Nat → Value → Prop
  | 0, v => v = .agg cd
  | 1, v => v = .agg cd
  | 2, v => v = .int .i64 c
  | 3, v => v = .agg (stC u γ)
  | 4, v => v = .agg (stC s xs)
  | 5, v => v = .bool t
  | 7, v => v = .bool t
  | 8, v => v = .int .i64 0
  | _, _ => True
theorem rdnV_3 {cd : Array Value} {u s : StateD} {xs γ γ' : StA} {c : Int} {t : Bool} : ∀ j v, j ≠ 3 → rdnV cd u s xs γ c t j v → rdnV cd u s xs γ' c t j v := fun j v hj h =>
  match j, hj, h with
  | 0, _, h => h | 1, _, h => h | 2, _, h => h | 3, hj, _ => absurd rfl hj | 4, _, h => h | 5, _, h => h | 6, _, h => h | 7, _, h => h | 8, _, h => h | _ + 9, _, _ => trivial
structure RdEnd (w0 : World) (bd D : Nat) (s d u : StateD) (xs xd γ : StA) (p : Nat) (w : World) : Prop where
  below : Below w0.heap.size w0 w
  box : Blk w w0.heap.size 26 (stC s xs)
  new : Blk w D 26 (stC d xd)
  res : Blk w (w0.heap.size + 1) 26 (if p < 3 then #[.int .i64 0, .slice none 0 0, .slice none 0 0, .slice none 0 0] else stC d xd)
  ownd : StOwn w bd d xd
  ownu : 1 ≤ p → ∃ bu, w0.heap.size + 2 ≤ bu ∧ StOwn w bu u γ ∧ γ.nj = xd.nj ∧ γ.nn = xd.nn ∧ γ.nl = xd.nl
  le : w0.heap.size + 2 ≤ bd ∧ w0.heap.size + 2 ≤ D
theorem RdEnd.kept {w0 w w' : World} {bd D p : Nat} {s d u : StateD} {xs xd γ : StA} (h : RdEnd w0 bd D s d u xs xd γ p w) (hb : Below w.heap.size w w') : RdEnd w0 bd D s d u xs xd γ p w' :=
  ⟨h.below.trans (hb.mono h.below.size), h.box.below hb h.box.lt, h.new.below hb h.new.lt, h.res.below hb h.res.lt, h.ownd.kept hb, fun hp => by obtain ⟨bu, h1, h2, h3⟩ := h.ownu hp; exact ⟨bu, h1, h2.kept hb, h3⟩, h.le⟩
theorem RdEnd.up {w0 w : World} {bd D bu : Nat} {s d u : StateD} {xs xd γ γ' : StA} (h : RdEnd w0 bd D s d u xs xd γ 0 w) (hu : StOwn w bu u γ') (hb : w0.heap.size + 2 ≤ bu) (h1 : γ'.nj = xd.nj) (h2 : γ'.nn = xd.nn) (h3 : γ'.nl = xd.nl) : RdEnd w0 bd D s d u xs xd γ' 1 w :=
  ⟨h.below, h.box, h.new, h.res, h.ownd, fun _ => ⟨bu, hb, hu, h1, h2, h3⟩, h.le⟩
theorem RdEnd.next {w0 w : World} {bd D : Nat} {s d u : StateD} {xs xd γ : StA} (h : RdEnd w0 bd D s d u xs xd γ 1 w) : RdEnd w0 bd D s d u xs xd γ 2 w :=
  ⟨h.below, h.box, h.new, h.res, h.ownd, fun _ => h.ownu (Nat.le_refl _), h.le⟩
theorem RdEnd.store {w0 w : World} {bd D : Nat} {s d u : StateD} {xs xd γ : StA} (h : RdEnd w0 bd D s d u xs xd γ 2 w) : RdEnd w0 bd D s d u xs xd γ 3 ((((w.setCell ⟨w0.heap.size + 1, 0, none⟩ (.int .i64 d.rev)).setCell ⟨w0.heap.size + 1, 1, none⟩ (.slice xd.aj xd.nj xd.cj)).setCell ⟨w0.heap.size + 1, 2, none⟩ (.slice xd.an xd.nn xd.cn)).setCell ⟨w0.heap.size + 1, 3, none⟩ (.slice xd.al xd.nl xd.cl)) := by
  have hG := bes_set (bes_set (bes_set (bes_set (grow_refl w (w0.heap.size + 1)) 0 (.int .i64 d.rev)) 1 (.slice xd.aj xd.nj xd.cj)) 2 (.slice xd.an xd.nn xd.cn)) 3 (.slice xd.al xd.nl xd.cl)
  have hl := h.le
  have hR : Blk w (w0.heap.size + 1) 26 #[.int .i64 0, .slice none 0 0, .slice none 0 0, .slice none 0 0] := h.res
  exact ⟨grow_keep h.below hG (by omega), grow_blk hG h.box (by omega), grow_blk hG h.new (by omega), Blk.eq ((((hR.set 0 (.int .i64 d.rev)).set 1 (.slice xd.aj xd.nj xd.cj)).set 2 (.slice xd.an xd.nn xd.cn)).set 3 (.slice xd.al xd.nl xd.cl)) rfl, h.ownd.grow hG (by omega), fun _ => by obtain ⟨bu, h1, h2, h3⟩ := h.ownu (by omega); exact ⟨bu, h1, h2.grow hG (by omega), h3⟩, h.le⟩
set_option maxRecDepth 100000 in
set_option maxHeartbeats 4000000 in
theorem rdown_bad (st : StateD) (x : StA) (c E : Int) (hE : checkE st = E) (h0 : E ≠ 0) (w : World) (hS : StAt w w.heap.size st x) :
    Calls Tryd.prog 13 #[.agg (stC st x), .int .i64 c] w (DnPost st c w) := by
  have hb1 : Below w.heap.size w (w.alloc (.cells (stC st x) 26)) := (Below.refl _ _).alloc (Nat.le_refl _) _
  have hb2 := hb1.alloc hb1.size (.cells #[.int .i64 0, .slice none 0 0, .slice none 0 0, .slice none 0 0] 26)
  have hBS : Blk ((w.alloc (.cells (stC st x) 26)).alloc (.cells #[.int .i64 0, .slice none 0 0, .slice none 0 0, .slice none 0 0] 26)) w.heap.size 26 (stC st x) := Blk.alloc (show Blk _ _ _ _ from heap_alloc_new w _) _
  have hBR : Blk ((w.alloc (.cells (stC st x) 26)).alloc (.cells #[.int .i64 0, .slice none 0 0, .slice none 0 0, .slice none 0 0] 26)) (w.heap.size + 1) 26 #[.int .i64 0, .slice none 0 0, .slice none 0 0, .slice none 0 0] := by
    have h := heap_alloc_new (w.alloc (.cells (stC st x) 26)) (.cells #[.int .i64 0, .slice none 0 0, .slice none 0 0, .slice none 0 0] 26)
    rwa [show (w.alloc (.cells (stC st x) 26)).heap.size = w.heap.size + 1 by simp] at h
  have hChk := rcheck_any st x _ (hS.up hb2)
  unfold RCPost at hChk
  have Hnone := Lib.hid (fun E (h : downF st c = (zeroSt, false, E)) w' => DnPost.none_ (w := w) (w' := w') h)
  have HS := Lib.hid hS
  have Hb2 := Lib.hid hb2
  have HBS := Lib.hid hBS
  have HBR := Lib.hid hBR
  clear hb1 hb2 hS hBS hBR
  have Hev := Lib.hid (show downF st c = (zeroSt, false, E) from by rw [downF_check (by rw [hE]; exact h0), hE])
  rw [hE] at hChk
  have HChk := Lib.hid hChk
  clear hChk hE
  have e1 : (E == 0) = false := beq_eq_false_iff_ne.2 h0
  have e2 : (E != 0) = true := bne_iff_ne.2 h0
  obtain ⟨rev, jobs, nodes, leases⟩ := st
  obtain ⟨aj, nj, cj, an, nn, cn, al, nl, cl⟩ := x
  unfold stC at *
  dsimp only at *
  go_enter Tryd.func13, Tryd.ntmps13
  go_wp2_with fail
  refine Calls.mono HChk.out ?_
  rintro e w1 ⟨rfl, hb⟩
  have Hb1 := Lib.hid (Hb2.out.trans (hb.mono Hb2.out.size))
  have HB1 := Lib.hid (HBS.out.below hb HBS.out.lt)
  have HR1 := Lib.hid (HBR.out.below hb HBR.out.lt)
  have hbl := HB1.out.lt
  have hrl := HR1.out.lt
  clear hb HBS HBR HChk
  have u0 : w1.frozen? ⟨w.heap.size + 1, 0, none⟩ = false := HR1.out.thaw 0
  have s0 : w1.cell? ⟨w.heap.size + 1, 0, none⟩ = some (.int .i64 0) := HR1.out.cell 0
  have u1 : w1.frozen? ⟨w.heap.size + 1, 1, none⟩ = false := HR1.out.thaw 1
  have s1 : w1.cell? ⟨w.heap.size + 1, 1, none⟩ = some (.slice none 0 0) := HR1.out.cell 1
  have u2 : w1.frozen? ⟨w.heap.size + 1, 2, none⟩ = false := HR1.out.thaw 2
  have s2 : w1.cell? ⟨w.heap.size + 1, 2, none⟩ = some (.slice none 0 0) := HR1.out.cell 2
  have u3 : w1.frozen? ⟨w.heap.size + 1, 3, none⟩ = false := HR1.out.thaw 3
  have s3 : w1.cell? ⟨w.heap.size + 1, 3, none⟩ = some (.slice none 0 0) := HR1.out.cell 3
  have hR4 := (Blk.eq ((Blk.eq ((Blk.eq ((Blk.eq (HR1.out.set 0 (.int .i64 0)) (show _ = #[.int .i64 0, .slice none 0 0, .slice none 0 0, .slice none 0 0] from rfl)).set 1 (.slice none 0 0)) (show _ = #[.int .i64 0, .slice none 0 0, .slice none 0 0, .slice none 0 0] from rfl)).set 2 (.slice none 0 0)) (show _ = #[.int .i64 0, .slice none 0 0, .slice none 0 0, .slice none 0 0] from rfl)).set 3 (.slice none 0 0)) (show _ = #[.int .i64 0, .slice none 0 0, .slice none 0 0, .slice none 0 0] from rfl))
  have q0 := (show _ = (some (.int .i64 0) : Option Value) from hR4.cell 0)
  have q1 := (show _ = (some (.slice none 0 0) : Option Value) from hR4.cell 1)
  have q2 := (show _ = (some (.slice none 0 0) : Option Value) from hR4.cell 2)
  have q3 := (show _ = (some (.slice none 0 0) : Option Value) from hR4.cell 3)
  have hG4 := (bes_set (bes_set (bes_set (bes_set (grow_refl w1 (w.heap.size + 1)) 0 (.int .i64 0)) 1 (.slice none 0 0)) 2 (.slice none 0 0)) 3 (.slice none 0 0))
  have Hend := Lib.hid (Hnone.out E Hev.out _ (grow_keep Hb1.out hG4 (by omega)))
  clear hR4 hG4
  go_wp2
  refine bodyPost_ret (v := .tuple #[.agg #[.int .i64 0, .slice none 0 0, .slice none 0 0, .slice none 0 0], .bool false, .int .i64 E]) (by simp [results, Tryd.results13, go_sem, *]) rfl ?_
  exact Hend.out
set_option maxRecDepth 100000 in
set_option maxHeartbeats 4000000 in
theorem rdown_arg (st : StateD) (x : StA) (c : Int) (h0 : checkE st = 0) (hc : ranged c 1 3 = false) (w : World) (hS : StAt w w.heap.size st x) :
    Calls Tryd.prog 13 #[.agg (stC st x), .int .i64 c] w (DnPost st c w) := by
  have hb1 : Below w.heap.size w (w.alloc (.cells (stC st x) 26)) := (Below.refl _ _).alloc (Nat.le_refl _) _
  have hb2 := hb1.alloc hb1.size (.cells #[.int .i64 0, .slice none 0 0, .slice none 0 0, .slice none 0 0] 26)
  have hBS : Blk ((w.alloc (.cells (stC st x) 26)).alloc (.cells #[.int .i64 0, .slice none 0 0, .slice none 0 0, .slice none 0 0] 26)) w.heap.size 26 (stC st x) := Blk.alloc (show Blk _ _ _ _ from heap_alloc_new w _) _
  have hBR : Blk ((w.alloc (.cells (stC st x) 26)).alloc (.cells #[.int .i64 0, .slice none 0 0, .slice none 0 0, .slice none 0 0] 26)) (w.heap.size + 1) 26 #[.int .i64 0, .slice none 0 0, .slice none 0 0, .slice none 0 0] := by
    have h := heap_alloc_new (w.alloc (.cells (stC st x) 26)) (.cells #[.int .i64 0, .slice none 0 0, .slice none 0 0, .slice none 0 0] 26)
    rwa [show (w.alloc (.cells (stC st x) 26)).heap.size = w.heap.size + 1 by simp] at h
  have hChk := rcheck_any st x _ (hS.up hb2)
  unfold RCPost at hChk
  have Hnone := Lib.hid (fun E (h : downF st c = (zeroSt, false, E)) w' => DnPost.none_ (w := w) (w' := w') h)
  have HS := Lib.hid hS
  have Hb2 := Lib.hid hb2
  have HBS := Lib.hid hBS
  have HBR := Lib.hid hBR
  clear hb1 hb2 hS hBS hBR
  have Hev := Lib.hid (show downF st c = (zeroSt, false, 1) from downF_arg h0 hc)
  rw [h0] at hChk
  have HChk := Lib.hid hChk
  have Hc := Lib.hid hc
  clear hChk h0 hc
  obtain ⟨rev, jobs, nodes, leases⟩ := st
  obtain ⟨aj, nj, cj, an, nn, cn, al, nl, cl⟩ := x
  unfold stC at *
  dsimp only at *
  go_enter Tryd.func13, Tryd.ntmps13
  go_wp2_with fail
  refine Calls.mono HChk.out ?_
  rintro e w1 ⟨rfl, hb⟩
  have Hb1 := Lib.hid (Hb2.out.trans (hb.mono Hb2.out.size))
  have HB1 := Lib.hid (HBS.out.below hb HBS.out.lt)
  have HR1 := Lib.hid (HBR.out.below hb HBR.out.lt)
  have hbl := HB1.out.lt
  have hrl := HR1.out.lt
  clear hb HBS HBR HChk
  have u0 : w1.frozen? ⟨w.heap.size + 1, 0, none⟩ = false := HR1.out.thaw 0
  have s0 : w1.cell? ⟨w.heap.size + 1, 0, none⟩ = some (.int .i64 0) := HR1.out.cell 0
  have u1 : w1.frozen? ⟨w.heap.size + 1, 1, none⟩ = false := HR1.out.thaw 1
  have s1 : w1.cell? ⟨w.heap.size + 1, 1, none⟩ = some (.slice none 0 0) := HR1.out.cell 1
  have u2 : w1.frozen? ⟨w.heap.size + 1, 2, none⟩ = false := HR1.out.thaw 2
  have s2 : w1.cell? ⟨w.heap.size + 1, 2, none⟩ = some (.slice none 0 0) := HR1.out.cell 2
  have u3 : w1.frozen? ⟨w.heap.size + 1, 3, none⟩ = false := HR1.out.thaw 3
  have s3 : w1.cell? ⟨w.heap.size + 1, 3, none⟩ = some (.slice none 0 0) := HR1.out.cell 3
  have hR4 := (Blk.eq ((Blk.eq ((Blk.eq ((Blk.eq (HR1.out.set 0 (.int .i64 0)) (show _ = #[.int .i64 0, .slice none 0 0, .slice none 0 0, .slice none 0 0] from rfl)).set 1 (.slice none 0 0)) (show _ = #[.int .i64 0, .slice none 0 0, .slice none 0 0, .slice none 0 0] from rfl)).set 2 (.slice none 0 0)) (show _ = #[.int .i64 0, .slice none 0 0, .slice none 0 0, .slice none 0 0] from rfl)).set 3 (.slice none 0 0)) (show _ = #[.int .i64 0, .slice none 0 0, .slice none 0 0, .slice none 0 0] from rfl))
  have q0 := (show _ = (some (.int .i64 0) : Option Value) from hR4.cell 0)
  have q1 := (show _ = (some (.slice none 0 0) : Option Value) from hR4.cell 1)
  have q2 := (show _ = (some (.slice none 0 0) : Option Value) from hR4.cell 2)
  have q3 := (show _ = (some (.slice none 0 0) : Option Value) from hR4.cell 3)
  have hG4 := (bes_set (bes_set (bes_set (bes_set (grow_refl w1 (w.heap.size + 1)) 0 (.int .i64 0)) 1 (.slice none 0 0)) 2 (.slice none 0 0)) 3 (.slice none 0 0))
  have Hend := Lib.hid (Hnone.out 1 Hev.out _ (grow_keep Hb1.out hG4 (by omega)))
  clear hR4 hG4
  go_wp2_with fail
  refine Calls.mono (outside_any c 1 3 _) ?_
  rintro e w1' ⟨rfl, rfl⟩
  rw [Hc.out]
  go_wp2
  refine bodyPost_ret (v := .tuple #[.agg #[.int .i64 0, .slice none 0 0, .slice none 0 0, .slice none 0 0], .bool false, .int .i64 1]) (by simp [results, Tryd.results13, go_sem, *]) rfl ?_
  exact Hend.out
set_option maxRecDepth 100000 in
set_option maxHeartbeats 4000000 in
theorem rdown_1 (st : StateD) (x : StA) (h0 : checkE st = 0) (w : World) (hS : StAt w w.heap.size st x) :
    Calls Tryd.prog 13 #[.agg (stC st x), .int .i64 1] w (DnPost st 1 w) := by
  have hb1 : Below w.heap.size w (w.alloc (.cells (stC st x) 26)) := (Below.refl _ _).alloc (Nat.le_refl _) _
  have hb2 := hb1.alloc hb1.size (.cells #[.int .i64 0, .slice none 0 0, .slice none 0 0, .slice none 0 0] 26)
  have hBS : Blk ((w.alloc (.cells (stC st x) 26)).alloc (.cells #[.int .i64 0, .slice none 0 0, .slice none 0 0, .slice none 0 0] 26)) w.heap.size 26 (stC st x) := Blk.alloc (show Blk _ _ _ _ from heap_alloc_new w _) _
  have hBR : Blk ((w.alloc (.cells (stC st x) 26)).alloc (.cells #[.int .i64 0, .slice none 0 0, .slice none 0 0, .slice none 0 0] 26)) (w.heap.size + 1) 26 #[.int .i64 0, .slice none 0 0, .slice none 0 0, .slice none 0 0] := by
    have h := heap_alloc_new (w.alloc (.cells (stC st x) 26)) (.cells #[.int .i64 0, .slice none 0 0, .slice none 0 0, .slice none 0 0] 26)
    rwa [show (w.alloc (.cells (stC st x) 26)).heap.size = w.heap.size + 1 by simp] at h
  have hChk := rcheck_any st x _ (hS.up hb2)
  unfold RCPost at hChk
  have Hnone := Lib.hid (fun E (h : downF st 1 = (zeroSt, false, E)) w' => DnPost.none_ (w := w) (w' := w') h)
  have HS := Lib.hid hS
  have Hb2 := Lib.hid hb2
  have HBS := Lib.hid hBS
  have HBR := Lib.hid hBR
  clear hb1 hb2 hS hBS hBR
  have Hsz := Lib.hid (ck_sizes h0)
  have Hev := Lib.hid (downF_ok (c := 1) h0 (by decide))
  have Hdn := Lib.hid (show downSt st 1 = ⟨0, st.jobs.map (downJ 1), st.nodes.map (downN 1), st.leases⟩ from rfl)
  have Hkb := Lib.hid (show keptB st 1 = eqS (upSt (downSt st 1) 1 3) st from rfl)
  rw [h0] at hChk
  have HChk := Lib.hid hChk
  clear hChk h0
  obtain ⟨rev, jobs, nodes, leases⟩ := st
  obtain ⟨aj, nj, cj, an, nn, cn, al, nl, cl⟩ := x
  unfold stC at *
  dsimp only at *
  go_enter Tryd.func13, Tryd.ntmps13
  go_wp2_with fail
  refine Calls.mono HChk.out ?_
  rintro e w1 ⟨rfl, hb⟩
  have Hb1 := Lib.hid (Hb2.out.trans (hb.mono Hb2.out.size))
  have HB1 := Lib.hid (HBS.out.below hb HBS.out.lt)
  have HR1 := Lib.hid (HBR.out.below hb HBR.out.lt)
  have hbl := HB1.out.lt
  have hrl := HR1.out.lt
  clear hb HBS HBR HChk
  clear Hnone
  have hl1 : nj ≤ 40 := by have := HS.out.lj; have := Hsz.out; dsimp only at *; omega
  have hl2 : nn ≤ 20 := by have := HS.out.ln; have := Hsz.out; dsimp only at *; omega
  have hl3 : nl ≤ 40 := by have := HS.out.ll; have := Hsz.out; dsimp only at *; omega
  have hnj : jobs.length = nj := HS.out.lj
  have hnn : nodes.length = nn := HS.out.ln
  go_wp2_with fail
  refine Calls.mono (outside_any 1 1 3 _) ?_
  rintro e w1' ⟨rfl, rfl⟩
  rw [show ranged 1 1 3 = true from by decide]
  have H0 : rupPh w ⟨rev, jobs, nodes, leases⟩ ⟨aj, nj, cj, an, nn, cn, al, nl, cl⟩ 0 (none, none) w1.drew := ⟨rfl, Hb1.out.drew, HB1.out, HR1.out, (fun D hD => by cases hD), fun h => absurd h (by omega)⟩
  go_wp2_with fail
  refine wp_region_phasesG (n := 74) (by kernel_rfl) (rupV w.heap.size rev al nl cl) [4, 7] (rupPh w ⟨rev, jobs, nodes, leases⟩ ⟨aj, nj, cj, an, nn, cn, al, nl, cl⟩) (none, none) (by decide +kernel) (by decide +kernel) rfl H0 ?_ ?_
  · refine ⟨?_, ?_, ?_, ?_, ?_, ?_, ?_, ?_, trivial⟩
    · refine ⟨rfl, .inr ⟨by decide, 0, 2, by decide +kernel, by decide +kernel, fun p γ a wx _ hph hp hk => ?_⟩⟩
      have h1 := hk.1 2 _ rfl (by decide +kernel)
      simp [go_sem, Oper.wp, execOp, Act.eval, h1]
      exact ⟨_, rfl, γ.1, γ.2, fun _ _ _ h => h, rfl, hp⟩
    · refine ⟨rfl, .inr ⟨by decide, 0, 2, by decide +kernel, by decide +kernel, fun p γ a wx _ hph hp hk => ?_⟩⟩
      obtain ⟨u1, hu1, ru1⟩ := hk.2.1 0 _ 22 rfl rfl (by decide +kernel)
      replace ru1 : u1 = _ := ru1
      subst ru1
      have hbx : RBox w wx #[.int .i64 rev, .slice aj nj cj, .slice an nn cn, .slice al nl cl] := rupBox hp
      have hc : wx.cell? ⟨w.heap.size, 0, none⟩ = some (.int .i64 rev) := hbx.cell 0
      simp [go_sem, Oper.wp, execOp, Act.eval, hu1, hc]
      exact ⟨_, rfl, γ.1, γ.2, fun _ _ _ h => h, rfl, hp⟩
    · refine ⟨rfl, .inr ⟨by decide, 0, 2, by decide +kernel, by decide +kernel, fun p γ a wx _ hph hp hk => ?_⟩⟩
      have h1 := hk.1 2 _ rfl (by decide +kernel)
      simp [go_sem, Oper.wp, execOp, Act.eval, h1]
      exact ⟨_, rfl, γ.1, γ.2, fun _ _ _ h => h, rfl, hp⟩
    · refine ⟨rfl, .inr ⟨by decide, 0, 2, by decide +kernel, by decide +kernel, fun p γ a wx _ hph hp hk => ?_⟩⟩
      obtain ⟨u1, hu1, ru1⟩ := hk.2.1 2 _ 24 rfl rfl (by decide +kernel)
      replace ru1 : u1 = _ := ru1
      subst ru1
      have hbx : RBox w wx #[.int .i64 rev, .slice aj nj cj, .slice an nn cn, .slice al nl cl] := rupBox hp
      have hc : wx.cell? ⟨w.heap.size, 3, none⟩ = some (.slice al nl cl) := hbx.cell 3
      simp [go_sem, Oper.wp, execOp, Act.eval, hu1, hc]
      exact ⟨_, rfl, γ.1, γ.2, fun _ _ _ h => h, rfl, hp⟩
    · refine ⟨rfl, .inl ⟨0, rfl, fun γ a wx hp hk => ?_⟩⟩
      obtain ⟨u1, hu1, ru1⟩ := hk.2.1 3 _ 25 rfl rfl (by decide +kernel)
      replace ru1 : u1 = _ := ru1
      subst ru1
      simp [go_sem, Oper.wp, execOp, Act.eval, hu1]
      obtain ⟨h0, hp⟩ := hp
      refine (copy_lease leases al nl cl wx (HS.out.l.below hp.below |>.more hp.below.size) HS.out.ll (by omega)).mono ?_
      rintro e w' ⟨A', c', rfl, ho, hb⟩
      rw [HS.out.ll] at ho ⊢
      dsimp only at ho ⊢
      have hk' := hp.kept hb
      exact ⟨_, rfl, some (A', c'), γ.2, rupV_4 h0 _, ⟨(A', c'), rfl, rfl⟩, (A', c'), rfl, ⟨hk'.below, hk'.box, hk'.res, hk'.new, fun _ => ownT_base ho (by have := hp.res.lt; omega)⟩⟩
    · refine ⟨rfl, .inr ⟨by decide, 0, 2, by decide +kernel, by decide +kernel, fun p γ a wx _ hph hp hk => ?_⟩⟩
      obtain ⟨u1, hu1, ru1⟩ := hk.2.1 1 _ 23 rfl rfl (by decide +kernel)
      replace ru1 : u1 = _ := ru1
      subst ru1
      obtain ⟨u2, hu2, ru2⟩ := hk.2.1 4 _ 26 rfl rfl (by decide +kernel)
      obtain ⟨y, ey, ru2⟩ := (show ∃ _, _ from ru2)
      subst ru2
      simp [go_sem, Oper.wp, execOp, Act.eval, hu1, hu2]
      exact ⟨_, rfl, γ.1, γ.2, fun _ _ _ h => h, ⟨y, ey, rfl⟩, hp⟩
    · refine ⟨rfl, .inr ⟨by decide, 0, 1, by decide +kernel, by decide +kernel, fun p γ a wx _ hph hp hk => ?_⟩⟩
      simp [go_sem, Oper.wp, execOp, Act.eval, ]
      exact ⟨_, rfl, γ.1, some wx.heap.size, rupV_6 _, ⟨_, rfl, rfl⟩, rupAlloc hph hp⟩
    · refine ⟨rfl, .inl ⟨1, rfl, fun γ a wx hp hk => ?_⟩⟩
      obtain ⟨u1, hu1, ru1⟩ := hk.2.1 6 _ 8 rfl rfl (by decide +kernel)
      obtain ⟨D, eD, ru1⟩ := (show ∃ _, _ from ru1)
      subst ru1
      obtain ⟨u2, hu2, ru2⟩ := hk.2.1 5 _ 27 rfl rfl (by decide +kernel)
      obtain ⟨y, ey, ru2⟩ := (show ∃ _, _ from ru2)
      subst ru2
      obtain ⟨y', ey', hp⟩ := hp
      rw [ey] at ey'
      injection ey' with ey'
      subst ey'
      obtain ⟨hD, hB⟩ := hp.new D eD
      have hB : Blk wx D 26 #[.int .i64 0, .slice none 0 0, .slice none 0 0, .slice none 0 0] := hB
      have z0 : wx.frozen? ⟨D, 0, none⟩ = false := hB.thaw 0
      have c0 : wx.cell? ⟨D, 0, none⟩ = some (.int .i64 0) := hB.cell 0
      have z1 : wx.frozen? ⟨D, 1, none⟩ = false := hB.thaw 1
      have c1 : wx.cell? ⟨D, 1, none⟩ = some (.slice none 0 0) := hB.cell 1
      have z2 : wx.frozen? ⟨D, 2, none⟩ = false := hB.thaw 2
      have c2 : wx.cell? ⟨D, 2, none⟩ = some (.slice none 0 0) := hB.cell 2
      have z3 : wx.frozen? ⟨D, 3, none⟩ = false := hB.thaw 3
      have c3 : wx.cell? ⟨D, 3, none⟩ = some (.slice none 0 0) := hB.cell 3
      have hbl := hB.lt
      have hrl := hp.res.lt
      have hG := bes_set (bes_set (bes_set (bes_set (grow_refl wx D) 0 (.int .i64 rev)) 1 (.slice none 0 0)) 2 (.slice none 0 0)) 3 (.slice y.1 nl y.2)
      have hnew : Blk _ D 26 #[.int .i64 rev, .slice none 0 0, .slice none 0 0, .slice y.1 nl y.2] := Blk.eq ((((hB.set 0 (.int .i64 rev)).set 1 (.slice none 0 0)).set 2 (.slice none 0 0)).set 3 (.slice y.1 nl y.2)) rfl
      have hfin := (show rupPh w ⟨rev, jobs, nodes, leases⟩ ⟨aj, nj, cj, an, nn, cn, al, nl, cl⟩ 2 γ _ from ⟨y, D, ey, eD, ⟨grow_keep hp.below hG (by omega), grow_blk hG hp.box (by omega), grow_blk hG hp.res (by omega), fun D' hD' => by
        rw [eD] at hD'; injection hD' with hD'; subst hD'; exact ⟨hD, hnew⟩, fun _ => own_setOther (own_setOther (own_setOther (own_setOther (hp.l (by omega)) hB (by decide)) (hB.set 0 _) (by decide)) ((hB.set 0 _).set 1 _) (by decide)) (((hB.set 0 _).set 1 _).set 2 _) (by decide)⟩⟩)
      clear hnew hG hp hB
      simp [go_sem, Oper.wp, execOp, Act.eval, hu1, hu2, c0, c1, c2, c3, z0, z1, z2, z3]
      exact ⟨.int .i64 0, γ.1, γ.2, fun _ _ _ h => h, trivial, hfin⟩
  intro γ act wx hd
  obtain ⟨y, D, ey, eD, hp⟩ := (show ∃ y D, _ from hd.ph)
  obtain ⟨fv, rfl, hfv⟩ := hd.frame [22, 23, 24, 25, 26, 27, 8] rfl
  obtain ⟨D', eD', h7⟩ := (show ∃ D, _ from hfv 6 _ 8 rfl rfl)
  rw [eD] at eD'
  injection eD' with eD'
  subst eD'
  obtain ⟨hD, hB⟩ := hp.new D eD
  have hB : Blk wx D 26 #[.int .i64 rev, .slice none 0 0, .slice none 0 0, .slice y.1 nl y.2] := hB
  have HL0 := (show RupL w wx D #[.int .i64 rev, .slice none 0 0, .slice none 0 0, .slice y.1 nl y.2] ⟨rev, jobs, nodes, leases⟩ ⟨aj, nj, cj, an, nn, cn, al, nl, cl⟩ y wx from ⟨hp.below, hp.box, hp.res, hB, hp.l (by omega), Nat.le_refl _, hD, hB.lt⟩)
  have hrs := hp.res.lt
  clear hd hp hB H0 hfv ey eD
  have hDl := HL0.new.lt
  have z0 : wx.frozen? ⟨D, 0, none⟩ = false := HL0.new.thaw 0
  have c0 : wx.cell? ⟨D, 0, none⟩ = some (.int .i64 rev) := HL0.new.cell 0
  have Hbox0 := Lib.hid HL0.box
  have HL1 : RupL w wx D #[.int .i64 0, .slice none 0 0, .slice none 0 0, .slice y.1 nl y.2] ⟨rev, jobs, nodes, leases⟩ ⟨aj, nj, cj, an, nn, cn, al, nl, cl⟩ y (wx.setCell ⟨D, 0, none⟩ (.int .i64 0)) := HL0.set rfl
  generalize hW1 : wx.setCell ⟨D, 0, none⟩ (.int .i64 0) = W1 at HL1
  have hws : wx.heap.size = W1.heap.size := by rw [← hW1]; simp [World.setCell]
  have HW1 := Lib.hid hW1
  clear hW1 HL0
  have Hl1 := Lib.hid HL1
  have hbW : w.heap.size + 2 ≤ wx.heap.size := by have := HL1.at_; omega
  have hDW : D < wx.heap.size := HL1.at_.2
  have H7 := h7
  have yb1 : wx.cell? ⟨w.heap.size, 1, none⟩ = some (.slice aj nj cj) := Hbox0.out.cell 1
  clear HL1
  simp [Exit.then, h7]
  go_wp2
  go_loopw [34] (fun i wr => ∃ (k : Nat) (A : Option Addr) (c : Nat), k ≤ nj ∧ i = .int .i64 k ∧ RupL w wx D #[.int .i64 0, .slice A k c, .slice none 0 0, .slice y.1 nl y.2] ⟨rev, jobs, nodes, leases⟩ ⟨aj, nj, cj, an, nn, cn, al, nl, cl⟩ y wr ∧ wr.ownsRow wx.heap.size 49 5 (.slice A k c) k (rowsV jobV ((jobs.take k).map (downJ 1)))) (fun i _ => nj - (intOf i).toNat)
  case atStart => rw [HW1.out]; exact ⟨0, none, 0, Nat.zero_le _, rfl, Hl1.out, World.ownsRow_nil _ _ _ _⟩
  case round =>
    clear Hl1 yb1
    obtain ⟨k, A, c, hk, rfl, hL, ho⟩ := hrel
    have HL := Lib.hid hL
    have Ho := Lib.hid ho
    have hDr := hL.new.lt
    have hsr := hL.size
    have hbr := hL.below.size
    have y1 : wr.cell? ⟨D, 1, none⟩ = some (.slice A k c) := hL.new.cell 1
    by_cases hlt : k < nj
    · obtain ⟨r, hf⟩ : ∃ r, jobs[k]? = some r := ⟨_, List.getElem?_eq_getElem (by have := HS.out.lj; dsimp only at this; omega)⟩
      obtain ⟨b, off, hao, hbB, hc⟩ := (HS.out.j.below hL.below).rec_ jobV_len HS.out.lj hf
      dsimp only at hao
      subst hao
      have Hf := Lib.hid hf
      obtain ⟨name, prio, need, tries, tag⟩ := r
      have c0 : wr.cell? ⟨b, off + k * 5, none⟩ = some (.string name) := hc 0 _ rfl
      have c1 : wr.cell? ⟨b, off + k * 5 + 1, none⟩ = some (.int .i64 prio) := hc 1 _ rfl
      have c2 : wr.cell? ⟨b, off + k * 5 + 2, none⟩ = some (.int .i64 need) := hc 2 _ rfl
      have c3 : wr.cell? ⟨b, off + k * 5 + 3, none⟩ = some (.int .i64 tries) := hc 3 _ rfl
      have c4 : wr.cell? ⟨b, off + k * 5 + 4, none⟩ = some (.string tag) := hc 4 _ rfl
      have hlb : b < wr.heap.size := by omega
      have hA : Below wr.heap.size wr (wr.alloc (.cells #[.string name, .int .i64 prio, .int .i64 need, .int .i64 0, .string ⟨#[]⟩] 49)) := (Below.refl _ _).alloc (Nat.le_refl _) _
      have hsA : (wr.alloc (.cells #[.string name, .int .i64 prio, .int .i64 need, .int .i64 0, .string ⟨#[]⟩] 49)).heap.size = wr.heap.size + 1 := by simp
      have HL2 := Lib.hid (hL.kept hA)
      have HO2 := Lib.hid (ownU_below ho hA)
      have Hu := Lib.hid (show downJ 1 ⟨name, prio, need, tries, tag⟩ = ⟨name, prio, need, 0, ⟨#[]⟩⟩ from rfl)
      have hbrW : wx.heap.size ≤ (wr.alloc (.cells #[.string name, .int .i64 prio, .int .i64 need, .int .i64 0, .string ⟨#[]⟩] 49)).heap.size := by omega
      clear hc hf hA hL ho
      go_wp2_with (at_builtin; refine push_rec jobV rfl _ _ 22 49 (.agg #[.string ⟨#[]⟩, .int .i64 0, .int .i64 0, .int .i64 0, .string ⟨#[]⟩]) 5 56 rfl Tryd.underlying22 infoJobT rfl (by decide) jobV_len jobV_oneT wx.heap.size _ _ _ _ rfl HO2.out _ ⟨name, prio, need, 0, ⟨#[]⟩⟩ rfl _ (by simp) rfl (by omega) (by unfold maxLen; omega) hbrW ?_; intro A2 c2 w4 ho4 hg4; have HL4 := HL2.out.grew hg4 HO2.out (by decide) hbW; have d1 : w4.cell? ⟨D, 1, none⟩ = some (.slice A k c) := HL4.new.cell 1; have z1 : w4.frozen? ⟨D, 1, none⟩ = false := HL4.new.thaw 1; have hd4 := HL4.new.lt)
      go_roundw
      case rel => exact ⟨k + 1, A2, c2, by omega, by go_num, HL4.set rfl, by rw [map_take_succ _ Hf.out, Hu.out]; exact own_setOther ho4 HL4.new (by decide)⟩
      case measure => simp [intOf]; omega
    · obtain rfl : nj = k := by omega
      have htk : jobs.take nj = jobs := List.take_of_length_le (by have := HS.out.lj; dsimp only at this; omega)
      rw [htk] at ho
      have HOJ := Lib.hid ho
      have Hl2 := Lib.hid hL
      have yb2 : wr.cell? ⟨w.heap.size, 2, none⟩ = some (.slice an nn cn) := hL.box.cell 2
      clear hL ho htk Ho HL y1
      go_wp2
      go_loopw [54] (fun i wr => ∃ (q : Nat) (AN : Option Addr) (cN : Nat), q ≤ nn ∧ i = .int .i64 q ∧ RupL w wx D #[.int .i64 0, .slice A nj c, .slice AN q cN, .slice y.1 nl y.2] ⟨rev, jobs, nodes, leases⟩ ⟨aj, nj, cj, an, nn, cn, al, nl, cl⟩ y wr ∧ wr.ownsRow wx.heap.size 49 5 (.slice A nj c) nj (rowsV jobV (jobs.map (downJ 1))) ∧ wr.ownsRow wx.heap.size 54 3 (.slice AN q cN) q (rowsV nodeV ((nodes.take q).map (downN 1)))) (fun i _ => nn - (intOf i).toNat)
      case atStart => exact ⟨0, none, 0, Nat.zero_le _, rfl, Hl2.out, HOJ.out, World.ownsRow_nil _ _ _ _⟩
      case round =>
        clear Hl2 HOJ yb2 hDr hsr hbr
        obtain ⟨q, AN, cN, hq, rfl, hL, hoJ, ho⟩ := hrel
        have HL := Lib.hid hL
        have HOJ := Lib.hid hoJ
        have hDr := hL.new.lt
        have hsr := hL.size
        have hbr := hL.below.size
        have y2 : wr.cell? ⟨D, 2, none⟩ = some (.slice AN q cN) := hL.new.cell 2
        by_cases hltq : q < nn
        · obtain ⟨r, hf⟩ : ∃ r, nodes[q]? = some r := ⟨_, List.getElem?_eq_getElem (by have := HS.out.ln; dsimp only at this; omega)⟩
          obtain ⟨b, off, hao, hbB, hc⟩ := (HS.out.n.below hL.below).rec_ nodeV_len HS.out.ln hf
          dsimp only at hao
          subst hao
          have Hf := Lib.hid hf
          obtain ⟨name, room, zone⟩ := r
          have c0 : wr.cell? ⟨b, off + q * 3, none⟩ = some (.string name) := hc 0 _ rfl
          have c1 : wr.cell? ⟨b, off + q * 3 + 1, none⟩ = some (.int .i64 room) := hc 1 _ rfl
          have c2 : wr.cell? ⟨b, off + q * 3 + 2, none⟩ = some (.string zone) := hc 2 _ rfl
          have hlb : b < wr.heap.size := by omega
          have hA : Below wr.heap.size wr (wr.alloc (.cells #[.string name, .int .i64 room, .string ⟨#[]⟩] 54)) := (Below.refl _ _).alloc (Nat.le_refl _) _
          have hsA : (wr.alloc (.cells #[.string name, .int .i64 room, .string ⟨#[]⟩] 54)).heap.size = wr.heap.size + 1 := by simp
          have HL2 := Lib.hid (hL.kept hA)
          have HO2 := Lib.hid (ownU_below ho hA)
          have HJ2 := Lib.hid (ownU_below hoJ hA)
          have Hu := Lib.hid (show downN 1 ⟨name, room, zone⟩ = ⟨name, room, ⟨#[]⟩⟩ from rfl)
          have hbrW : wx.heap.size ≤ (wr.alloc (.cells #[.string name, .int .i64 room, .string ⟨#[]⟩] 54)).heap.size := by omega
          clear hc hf hA hL ho hoJ
          go_wp2_with (at_builtin; refine push_rec nodeV rfl _ _ 23 54 (.agg #[.string ⟨#[]⟩, .int .i64 0, .string ⟨#[]⟩]) 3 40 rfl Tryd.underlying23 infoNodeT rfl (by decide) nodeV_len nodeV_oneT wx.heap.size _ _ _ _ rfl HO2.out _ ⟨name, room, ⟨#[]⟩⟩ rfl _ (by simp) rfl (by omega) (by unfold maxLen; omega) hbrW ?_; intro A2 c2 w4 ho4 hg4; have HL4 := HL2.out.grew hg4 HO2.out (by decide) hbW; have hJ4 := own_grewOther HJ2.out hg4 HO2.out (by decide); have d1 : w4.cell? ⟨D, 2, none⟩ = some (.slice AN q cN) := HL4.new.cell 2; have z1 : w4.frozen? ⟨D, 2, none⟩ = false := HL4.new.thaw 2; have hd4 := HL4.new.lt)
          go_roundw
          case rel => exact ⟨q + 1, A2, c2, by omega, by go_num, HL4.set rfl, own_setOther hJ4 HL4.new (by decide), by rw [map_take_succ _ Hf.out, Hu.out]; exact own_setOther ho4 HL4.new (by decide)⟩
          case measure => simp [intOf]; omega
        · obtain rfl : nn = q := by omega
          have htk : nodes.take nn = nodes := List.take_of_length_le (by have := HS.out.ln; dsimp only at this; omega)
          rw [htk] at ho
          have hne := hL.at_
          have hO : StOwn wr (w.heap.size + 2) ⟨0, jobs.map (downJ 1), nodes.map (downN 1), leases⟩ ⟨A, nj, c, AN, nn, cN, y.1, nl, y.2⟩ := ⟨ownT_base hoJ (by omega), ownT_base ho (by omega), hL.l, by rw [List.length_map]; exact hnj, by rw [List.length_map]; exact hnn, HS.out.ll⟩
          have H1 : RdEnd w (w.heap.size + 2) D ⟨rev, jobs, nodes, leases⟩ ⟨0, jobs.map (downJ 1), nodes.map (downN 1), leases⟩ (upSt ⟨0, jobs.map (downJ 1), nodes.map (downN 1), leases⟩ 1 3) ⟨aj, nj, cj, an, nn, cn, al, nl, cl⟩ ⟨A, nj, c, AN, nn, cN, y.1, nl, y.2⟩ nilA 0 wr.drew := ⟨hL.below.drew, hL.box, hL.new, hL.res, hO.kept (Below.refl _ _).drew, fun h => absurd h (by omega), Nat.le_refl _, hne.1⟩
          clear hL ho hoJ HL HOJ htk hO y2
          go_wp2_with fail
          refine wp_region_phasesG (n := 74) (by kernel_rfl) (fun γ => rdnV #[.int .i64 0, .slice A nj c, .slice AN nn cN, .slice y.1 nl y.2] (upSt ⟨0, jobs.map (downJ 1), nodes.map (downN 1), leases⟩ 1 3) ⟨rev, jobs, nodes, leases⟩ ⟨aj, nj, cj, an, nn, cn, al, nl, cl⟩ γ 1 (eqS (upSt ⟨0, jobs.map (downJ 1), nodes.map (downN 1), leases⟩ 1 3) ⟨rev, jobs, nodes, leases⟩)) [3, 5, 6] (fun p γ w' => RdEnd w (w.heap.size + 2) D ⟨rev, jobs, nodes, leases⟩ ⟨0, jobs.map (downJ 1), nodes.map (downN 1), leases⟩ (upSt ⟨0, jobs.map (downJ 1), nodes.map (downN 1), leases⟩ 1 3) ⟨aj, nj, cj, an, nn, cn, al, nl, cl⟩ ⟨A, nj, c, AN, nn, cN, y.1, nl, y.2⟩ γ p w') nilA (by decide +kernel) (by decide +kernel) rfl H1 ?_ ?_
          · refine ⟨?_, ?_, ?_, ?_, ?_, ?_, ?_, ?_, ?_, trivial⟩
            · refine ⟨rfl, .inr ⟨by decide, 0, 3, by decide +kernel, by decide +kernel, fun p γ a wz hpl hk0 hp hk => ?_⟩⟩
              have h1 := hk.1 8 _ rfl (by decide +kernel)
              have c0 : wz.cell? ⟨D, 0, none⟩ = some (.int .i64 0) := hp.new.cell 0
              have c1 : wz.cell? ⟨D, 1, none⟩ = some (.slice A nj c) := hp.new.cell 1
              have c2 : wz.cell? ⟨D, 2, none⟩ = some (.slice AN nn cN) := hp.new.cell 2
              have c3 : wz.cell? ⟨D, 3, none⟩ = some (.slice y.1 nl y.2) := hp.new.cell 3
              simp [go_sem, Oper.wp, execOp, Act.eval, h1, h7, c0, c1, c2, c3]
              first | exact ⟨_, rfl, γ, (fun _ _ _ h => h), rfl, hp⟩ | exact ⟨_, γ, rfl, (fun _ _ _ h => h), rfl, hp⟩
            · refine ⟨rfl, .inr ⟨by decide, 0, 3, by decide +kernel, by decide +kernel, fun p γ a wz hpl hk0 hp hk => ?_⟩⟩
              have h1 := hk.1 8 _ rfl (by decide +kernel)
              have c0 : wz.cell? ⟨D, 0, none⟩ = some (.int .i64 0) := hp.new.cell 0
              have c1 : wz.cell? ⟨D, 1, none⟩ = some (.slice A nj c) := hp.new.cell 1
              have c2 : wz.cell? ⟨D, 2, none⟩ = some (.slice AN nn cN) := hp.new.cell 2
              have c3 : wz.cell? ⟨D, 3, none⟩ = some (.slice y.1 nl y.2) := hp.new.cell 3
              simp [go_sem, Oper.wp, execOp, Act.eval, h1, h7, c0, c1, c2, c3]
              first | exact ⟨_, rfl, γ, (fun _ _ _ h => h), rfl, hp⟩ | exact ⟨_, γ, rfl, (fun _ _ _ h => h), rfl, hp⟩
            · refine ⟨rfl, .inr ⟨by decide, 0, 3, by decide +kernel, by decide +kernel, fun p γ a wz hpl hk0 hp hk => ?_⟩⟩
              have h1 := hk.1 1 _ rfl (by decide +kernel)
              simp [go_sem, Oper.wp, execOp, Act.eval, h1]
              first | exact ⟨_, rfl, γ, (fun _ _ _ h => h), rfl, hp⟩ | exact ⟨_, γ, rfl, (fun _ _ _ h => h), rfl, hp⟩
            · refine ⟨rfl, .inl ⟨0, rfl, fun γ a wz hp hk => ?_⟩⟩
              obtain ⟨u1, hu1, ru1⟩ := hk.2.1 1 _ 69 rfl rfl (by decide +kernel)
              replace ru1 : u1 = _ := ru1
              subst ru1
              obtain ⟨u2, hu2, ru2⟩ := hk.2.1 2 _ 70 rfl rfl (by decide +kernel)
              replace ru2 : u2 = _ := ru2
              subst ru2
              simp [go_sem, Oper.wp, execOp, Act.eval, hu1, hu2]
              have hOk := downSt_ok (c := 1) HS.out.oj HS.out.on_
              refine (rup_any ⟨0, jobs.map (downJ 1), nodes.map (downN 1), leases⟩ ⟨A, nj, c, AN, nn, cN, y.1, nl, y.2⟩ 1 3 wz (hp.ownd.at_ (by dsimp only; omega) (by dsimp only; omega) (by dsimp only; omega) hOk.1 hOk.2 HS.out.ol) (by dsimp only; omega) (by dsimp only; omega) (by dsimp only; omega) (by decide) (by decide) (by decide)).mono ?_
              rintro e w' ⟨x', rfl, e1, e2, e3, hO, hb⟩
              have hbz := hp.below.size
              have hk' := (hp.kept hb).up hO (by have := hp.res.lt; omega) e1 e2 e3
              first | exact ⟨_, rfl, x', rdnV_3, rfl, hk'⟩ | exact ⟨_, x', rfl, rdnV_3, rfl, hk'⟩
            · refine ⟨rfl, .inr ⟨by decide, 0, 3, by decide +kernel, by decide +kernel, fun p γ a wz hpl hk0 hp hk => ?_⟩⟩
              have h1 := hk.1 2 _ rfl (by decide +kernel)
              have c0 : wz.cell? ⟨w.heap.size, 0, none⟩ = some (.int .i64 rev) := hp.box.cell 0
              have c1 : wz.cell? ⟨w.heap.size, 1, none⟩ = some (.slice aj nj cj) := hp.box.cell 1
              have c2 : wz.cell? ⟨w.heap.size, 2, none⟩ = some (.slice an nn cn) := hp.box.cell 2
              have c3 : wz.cell? ⟨w.heap.size, 3, none⟩ = some (.slice al nl cl) := hp.box.cell 3
              simp [go_sem, Oper.wp, execOp, Act.eval, h1, c0, c1, c2, c3]
              first | exact ⟨_, rfl, γ, (fun _ _ _ h => h), rfl, hp⟩ | exact ⟨_, γ, rfl, (fun _ _ _ h => h), rfl, hp⟩
            · refine ⟨rfl, .inl ⟨1, rfl, fun γ a wz hp hk => ?_⟩⟩
              obtain ⟨u1, hu1, ru1⟩ := hk.2.1 3 _ 71 rfl rfl (by decide +kernel)
              replace ru1 : u1 = _ := ru1
              subst ru1
              obtain ⟨u2, hu2, ru2⟩ := hk.2.1 4 _ 72 rfl rfl (by decide +kernel)
              replace ru2 : u2 = _ := ru2
              subst ru2
              simp [go_sem, Oper.wp, execOp, Act.eval, hu1, hu2]
              obtain ⟨bu, hbu, hU, n1, n2, n3⟩ := hp.ownu (Nat.le_refl _)
              dsimp only at n1 n2 n3
              have hOk := downSt_ok (c := 1) HS.out.oj HS.out.on_
              have hOk2 := upSt_ok (st := ⟨0, jobs.map (downJ 1), nodes.map (downN 1), leases⟩) (a := 1) (b := 3) hOk.1 hOk.2
              refine (same_any (upSt ⟨0, jobs.map (downJ 1), nodes.map (downN 1), leases⟩ 1 3) ⟨rev, jobs, nodes, leases⟩ γ ⟨aj, nj, cj, an, nn, cn, al, nl, cl⟩ wz (hU.at_ (by omega) (by omega) (by omega) hOk2.1 hOk2.2.1 (by rw [hOk2.2.2]; exact HS.out.ol)) (HS.out.up hp.below)).mono ?_
              rintro e w' ⟨t, rfl, ht, hb⟩
              have hk' := (hp.kept hb).next
              rw [show t = eqS (upSt ⟨0, jobs.map (downJ 1), nodes.map (downN 1), leases⟩ 1 3) ⟨rev, jobs, nodes, leases⟩ from eqS_of ht]
              first | exact ⟨_, rfl, γ, (fun _ _ _ h => h), rfl, hk'⟩ | exact ⟨_, γ, rfl, (fun _ _ _ h => h), rfl, hk'⟩
            · refine ⟨rfl, .inl ⟨2, rfl, fun γ a wz hp hk => ?_⟩⟩
              obtain ⟨u1, hu1, ru1⟩ := hk.2.1 0 _ 68 rfl rfl (by decide +kernel)
              replace ru1 : u1 = _ := ru1
              subst ru1
              have h1 := hk.1 4 _ rfl (by decide +kernel)
              have hR : Blk wz (w.heap.size + 1) 26 #[.int .i64 0, .slice none 0 0, .slice none 0 0, .slice none 0 0] := hp.res
              have z0 : wz.frozen? ⟨w.heap.size + 1, 0, none⟩ = false := hR.thaw 0
              have s0 : wz.cell? ⟨w.heap.size + 1, 0, none⟩ = some (.int .i64 0) := hR.cell 0
              have z1 : wz.frozen? ⟨w.heap.size + 1, 1, none⟩ = false := hR.thaw 1
              have s1 : wz.cell? ⟨w.heap.size + 1, 1, none⟩ = some (.slice none 0 0) := hR.cell 1
              have z2 : wz.frozen? ⟨w.heap.size + 1, 2, none⟩ = false := hR.thaw 2
              have s2 : wz.cell? ⟨w.heap.size + 1, 2, none⟩ = some (.slice none 0 0) := hR.cell 2
              have z3 : wz.frozen? ⟨w.heap.size + 1, 3, none⟩ = false := hR.thaw 3
              have s3 : wz.cell? ⟨w.heap.size + 1, 3, none⟩ = some (.slice none 0 0) := hR.cell 3
              have hrl := hR.lt
              have hfin := hp.store
              clear hp hR
              simp [go_sem, Oper.wp, execOp, Act.eval, hu1, h1, s0, s1, s2, s3, z0, z1, z2, z3]
              first | exact ⟨.int .i64 0, γ, (fun _ _ _ h => h), trivial, hfin⟩ | exact ⟨γ, (fun _ _ _ h => h), ⟨.int .i64 0, trivial⟩, hfin⟩ | exact ⟨_, rfl, γ, (fun _ _ _ h => h), trivial, hfin⟩
            · refine ⟨rfl, .inr ⟨by decide, 0, 3, by decide +kernel, by decide +kernel, fun p γ a wz hpl hk0 hp hk => ?_⟩⟩
              obtain ⟨u1, hu1, ru1⟩ := hk.2.1 5 _ 73 rfl rfl (by decide +kernel)
              replace ru1 : u1 = _ := ru1
              subst ru1
              simp [go_sem, Oper.wp, execOp, Act.eval, hu1]
              first | exact ⟨_, rfl, γ, (fun _ _ _ h => h), rfl, hp⟩ | exact ⟨_, γ, rfl, (fun _ _ _ h => h), rfl, hp⟩
            · refine ⟨rfl, .inr ⟨by decide, 0, 3, by decide +kernel, by decide +kernel, fun p γ a wz hpl hk0 hp hk => ?_⟩⟩
              simp [go_sem, Oper.wp, execOp, Act.eval]
              first | exact ⟨_, rfl, γ, (fun _ _ _ h => h), rfl, hp⟩ | exact ⟨_, γ, rfl, (fun _ _ _ h => h), rfl, hp⟩
          intro γ act wz hd
          have hp := hd.ph
          obtain ⟨fv2, rfl, hfv⟩ := hd.frame [68, 69, 70, 71, 72, 73, 5, 6] rfl
          have h5 : fv2 5 = .bool (eqS (upSt ⟨0, jobs.map (downJ 1), nodes.map (downN 1), leases⟩ 1 3) ⟨rev, jobs, nodes, leases⟩) := hfv 7 _ 5 rfl rfl
          have h6 : fv2 6 = .int .i64 0 := hfv 8 _ 6 rfl rfl
          have hR : Blk wz (w.heap.size + 1) 26 #[.int .i64 0, .slice A nj c, .slice AN nn cN, .slice y.1 nl y.2] := hp.res
          have r0 : wz.cell? ⟨w.heap.size + 1, 0, none⟩ = some (.int .i64 0) := hR.cell 0
          have r1 : wz.cell? ⟨w.heap.size + 1, 1, none⟩ = some (.slice A nj c) := hR.cell 1
          have r2 : wz.cell? ⟨w.heap.size + 1, 2, none⟩ = some (.slice AN nn cN) := hR.cell 2
          have r3 : wz.cell? ⟨w.heap.size + 1, 3, none⟩ = some (.slice y.1 nl y.2) := hR.cell 3
          have hOk := downSt_ok (c := 1) HS.out.oj HS.out.on_
          have hAt := hp.ownd.at_ (by dsimp only; omega) (by dsimp only; omega) (by dsimp only; omega) hOk.1 hOk.2 HS.out.ol
          have Hend := Lib.hid (show DnPost ⟨rev, jobs, nodes, leases⟩ 1 w (.returned (.tuple #[.agg #[.int .i64 0, .slice A nj c, .slice AN nn cN, .slice y.1 nl y.2], .bool (eqS (upSt ⟨0, jobs.map (downJ 1), nodes.map (downN 1), leases⟩ 1 3) ⟨rev, jobs, nodes, leases⟩), .int .i64 0])) wz from ⟨_, _, _, 0, rfl, by rw [Hev.out, Hkb.out, Hdn.out], hAt, hp.below⟩)
          clear hd hp hfv hR hOk hAt H1
          simp [Exit.then, h5, h6]
          go_wp2
          refine bodyPost_ret (v := .tuple #[.agg #[.int .i64 0, .slice A nj c, .slice AN nn cN, .slice y.1 nl y.2], .bool (eqS (upSt ⟨0, jobs.map (downJ 1), nodes.map (downN 1), leases⟩ 1 3) ⟨rev, jobs, nodes, leases⟩), .int .i64 0]) (by simp [results, Tryd.results13, go_sem, *]) rfl ?_
          exact Hend.out
set_option maxRecDepth 100000 in
set_option maxHeartbeats 4000000 in
theorem rdown_2 (st : StateD) (x : StA) (h0 : checkE st = 0) (w : World) (hS : StAt w w.heap.size st x) :
    Calls Tryd.prog 13 #[.agg (stC st x), .int .i64 2] w (DnPost st 2 w) := by
  have hb1 : Below w.heap.size w (w.alloc (.cells (stC st x) 26)) := (Below.refl _ _).alloc (Nat.le_refl _) _
  have hb2 := hb1.alloc hb1.size (.cells #[.int .i64 0, .slice none 0 0, .slice none 0 0, .slice none 0 0] 26)
  have hBS : Blk ((w.alloc (.cells (stC st x) 26)).alloc (.cells #[.int .i64 0, .slice none 0 0, .slice none 0 0, .slice none 0 0] 26)) w.heap.size 26 (stC st x) := Blk.alloc (show Blk _ _ _ _ from heap_alloc_new w _) _
  have hBR : Blk ((w.alloc (.cells (stC st x) 26)).alloc (.cells #[.int .i64 0, .slice none 0 0, .slice none 0 0, .slice none 0 0] 26)) (w.heap.size + 1) 26 #[.int .i64 0, .slice none 0 0, .slice none 0 0, .slice none 0 0] := by
    have h := heap_alloc_new (w.alloc (.cells (stC st x) 26)) (.cells #[.int .i64 0, .slice none 0 0, .slice none 0 0, .slice none 0 0] 26)
    rwa [show (w.alloc (.cells (stC st x) 26)).heap.size = w.heap.size + 1 by simp] at h
  have hChk := rcheck_any st x _ (hS.up hb2)
  unfold RCPost at hChk
  have Hnone := Lib.hid (fun E (h : downF st 2 = (zeroSt, false, E)) w' => DnPost.none_ (w := w) (w' := w') h)
  have HS := Lib.hid hS
  have Hb2 := Lib.hid hb2
  have HBS := Lib.hid hBS
  have HBR := Lib.hid hBR
  clear hb1 hb2 hS hBS hBR
  have Hsz := Lib.hid (ck_sizes h0)
  have Hev := Lib.hid (downF_ok (c := 2) h0 (by decide))
  have Hdn := Lib.hid (show downSt st 2 = ⟨0, st.jobs.map (downJ 2), st.nodes.map (downN 2), st.leases⟩ from rfl)
  have Hkb := Lib.hid (show keptB st 2 = eqS (upSt (downSt st 2) 2 3) st from rfl)
  rw [h0] at hChk
  have HChk := Lib.hid hChk
  clear hChk h0
  obtain ⟨rev, jobs, nodes, leases⟩ := st
  obtain ⟨aj, nj, cj, an, nn, cn, al, nl, cl⟩ := x
  unfold stC at *
  dsimp only at *
  go_enter Tryd.func13, Tryd.ntmps13
  go_wp2_with fail
  refine Calls.mono HChk.out ?_
  rintro e w1 ⟨rfl, hb⟩
  have Hb1 := Lib.hid (Hb2.out.trans (hb.mono Hb2.out.size))
  have HB1 := Lib.hid (HBS.out.below hb HBS.out.lt)
  have HR1 := Lib.hid (HBR.out.below hb HBR.out.lt)
  have hbl := HB1.out.lt
  have hrl := HR1.out.lt
  clear hb HBS HBR HChk
  clear Hnone
  have hl1 : nj ≤ 40 := by have := HS.out.lj; have := Hsz.out; dsimp only at *; omega
  have hl2 : nn ≤ 20 := by have := HS.out.ln; have := Hsz.out; dsimp only at *; omega
  have hl3 : nl ≤ 40 := by have := HS.out.ll; have := Hsz.out; dsimp only at *; omega
  have hnj : jobs.length = nj := HS.out.lj
  have hnn : nodes.length = nn := HS.out.ln
  go_wp2_with fail
  refine Calls.mono (outside_any 2 1 3 _) ?_
  rintro e w1' ⟨rfl, rfl⟩
  rw [show ranged 2 1 3 = true from by decide]
  have H0 : rupPh w ⟨rev, jobs, nodes, leases⟩ ⟨aj, nj, cj, an, nn, cn, al, nl, cl⟩ 0 (none, none) w1.drew := ⟨rfl, Hb1.out.drew, HB1.out, HR1.out, (fun D hD => by cases hD), fun h => absurd h (by omega)⟩
  go_wp2_with fail
  refine wp_region_phasesG (n := 74) (by kernel_rfl) (rupV w.heap.size rev al nl cl) [4, 7] (rupPh w ⟨rev, jobs, nodes, leases⟩ ⟨aj, nj, cj, an, nn, cn, al, nl, cl⟩) (none, none) (by decide +kernel) (by decide +kernel) rfl H0 ?_ ?_
  · refine ⟨?_, ?_, ?_, ?_, ?_, ?_, ?_, ?_, trivial⟩
    · refine ⟨rfl, .inr ⟨by decide, 0, 2, by decide +kernel, by decide +kernel, fun p γ a wx _ hph hp hk => ?_⟩⟩
      have h1 := hk.1 2 _ rfl (by decide +kernel)
      simp [go_sem, Oper.wp, execOp, Act.eval, h1]
      exact ⟨_, rfl, γ.1, γ.2, fun _ _ _ h => h, rfl, hp⟩
    · refine ⟨rfl, .inr ⟨by decide, 0, 2, by decide +kernel, by decide +kernel, fun p γ a wx _ hph hp hk => ?_⟩⟩
      obtain ⟨u1, hu1, ru1⟩ := hk.2.1 0 _ 22 rfl rfl (by decide +kernel)
      replace ru1 : u1 = _ := ru1
      subst ru1
      have hbx : RBox w wx #[.int .i64 rev, .slice aj nj cj, .slice an nn cn, .slice al nl cl] := rupBox hp
      have hc : wx.cell? ⟨w.heap.size, 0, none⟩ = some (.int .i64 rev) := hbx.cell 0
      simp [go_sem, Oper.wp, execOp, Act.eval, hu1, hc]
      exact ⟨_, rfl, γ.1, γ.2, fun _ _ _ h => h, rfl, hp⟩
    · refine ⟨rfl, .inr ⟨by decide, 0, 2, by decide +kernel, by decide +kernel, fun p γ a wx _ hph hp hk => ?_⟩⟩
      have h1 := hk.1 2 _ rfl (by decide +kernel)
      simp [go_sem, Oper.wp, execOp, Act.eval, h1]
      exact ⟨_, rfl, γ.1, γ.2, fun _ _ _ h => h, rfl, hp⟩
    · refine ⟨rfl, .inr ⟨by decide, 0, 2, by decide +kernel, by decide +kernel, fun p γ a wx _ hph hp hk => ?_⟩⟩
      obtain ⟨u1, hu1, ru1⟩ := hk.2.1 2 _ 24 rfl rfl (by decide +kernel)
      replace ru1 : u1 = _ := ru1
      subst ru1
      have hbx : RBox w wx #[.int .i64 rev, .slice aj nj cj, .slice an nn cn, .slice al nl cl] := rupBox hp
      have hc : wx.cell? ⟨w.heap.size, 3, none⟩ = some (.slice al nl cl) := hbx.cell 3
      simp [go_sem, Oper.wp, execOp, Act.eval, hu1, hc]
      exact ⟨_, rfl, γ.1, γ.2, fun _ _ _ h => h, rfl, hp⟩
    · refine ⟨rfl, .inl ⟨0, rfl, fun γ a wx hp hk => ?_⟩⟩
      obtain ⟨u1, hu1, ru1⟩ := hk.2.1 3 _ 25 rfl rfl (by decide +kernel)
      replace ru1 : u1 = _ := ru1
      subst ru1
      simp [go_sem, Oper.wp, execOp, Act.eval, hu1]
      obtain ⟨h0, hp⟩ := hp
      refine (copy_lease leases al nl cl wx (HS.out.l.below hp.below |>.more hp.below.size) HS.out.ll (by omega)).mono ?_
      rintro e w' ⟨A', c', rfl, ho, hb⟩
      rw [HS.out.ll] at ho ⊢
      dsimp only at ho ⊢
      have hk' := hp.kept hb
      exact ⟨_, rfl, some (A', c'), γ.2, rupV_4 h0 _, ⟨(A', c'), rfl, rfl⟩, (A', c'), rfl, ⟨hk'.below, hk'.box, hk'.res, hk'.new, fun _ => ownT_base ho (by have := hp.res.lt; omega)⟩⟩
    · refine ⟨rfl, .inr ⟨by decide, 0, 2, by decide +kernel, by decide +kernel, fun p γ a wx _ hph hp hk => ?_⟩⟩
      obtain ⟨u1, hu1, ru1⟩ := hk.2.1 1 _ 23 rfl rfl (by decide +kernel)
      replace ru1 : u1 = _ := ru1
      subst ru1
      obtain ⟨u2, hu2, ru2⟩ := hk.2.1 4 _ 26 rfl rfl (by decide +kernel)
      obtain ⟨y, ey, ru2⟩ := (show ∃ _, _ from ru2)
      subst ru2
      simp [go_sem, Oper.wp, execOp, Act.eval, hu1, hu2]
      exact ⟨_, rfl, γ.1, γ.2, fun _ _ _ h => h, ⟨y, ey, rfl⟩, hp⟩
    · refine ⟨rfl, .inr ⟨by decide, 0, 1, by decide +kernel, by decide +kernel, fun p γ a wx _ hph hp hk => ?_⟩⟩
      simp [go_sem, Oper.wp, execOp, Act.eval, ]
      exact ⟨_, rfl, γ.1, some wx.heap.size, rupV_6 _, ⟨_, rfl, rfl⟩, rupAlloc hph hp⟩
    · refine ⟨rfl, .inl ⟨1, rfl, fun γ a wx hp hk => ?_⟩⟩
      obtain ⟨u1, hu1, ru1⟩ := hk.2.1 6 _ 8 rfl rfl (by decide +kernel)
      obtain ⟨D, eD, ru1⟩ := (show ∃ _, _ from ru1)
      subst ru1
      obtain ⟨u2, hu2, ru2⟩ := hk.2.1 5 _ 27 rfl rfl (by decide +kernel)
      obtain ⟨y, ey, ru2⟩ := (show ∃ _, _ from ru2)
      subst ru2
      obtain ⟨y', ey', hp⟩ := hp
      rw [ey] at ey'
      injection ey' with ey'
      subst ey'
      obtain ⟨hD, hB⟩ := hp.new D eD
      have hB : Blk wx D 26 #[.int .i64 0, .slice none 0 0, .slice none 0 0, .slice none 0 0] := hB
      have z0 : wx.frozen? ⟨D, 0, none⟩ = false := hB.thaw 0
      have c0 : wx.cell? ⟨D, 0, none⟩ = some (.int .i64 0) := hB.cell 0
      have z1 : wx.frozen? ⟨D, 1, none⟩ = false := hB.thaw 1
      have c1 : wx.cell? ⟨D, 1, none⟩ = some (.slice none 0 0) := hB.cell 1
      have z2 : wx.frozen? ⟨D, 2, none⟩ = false := hB.thaw 2
      have c2 : wx.cell? ⟨D, 2, none⟩ = some (.slice none 0 0) := hB.cell 2
      have z3 : wx.frozen? ⟨D, 3, none⟩ = false := hB.thaw 3
      have c3 : wx.cell? ⟨D, 3, none⟩ = some (.slice none 0 0) := hB.cell 3
      have hbl := hB.lt
      have hrl := hp.res.lt
      have hG := bes_set (bes_set (bes_set (bes_set (grow_refl wx D) 0 (.int .i64 rev)) 1 (.slice none 0 0)) 2 (.slice none 0 0)) 3 (.slice y.1 nl y.2)
      have hnew : Blk _ D 26 #[.int .i64 rev, .slice none 0 0, .slice none 0 0, .slice y.1 nl y.2] := Blk.eq ((((hB.set 0 (.int .i64 rev)).set 1 (.slice none 0 0)).set 2 (.slice none 0 0)).set 3 (.slice y.1 nl y.2)) rfl
      have hfin := (show rupPh w ⟨rev, jobs, nodes, leases⟩ ⟨aj, nj, cj, an, nn, cn, al, nl, cl⟩ 2 γ _ from ⟨y, D, ey, eD, ⟨grow_keep hp.below hG (by omega), grow_blk hG hp.box (by omega), grow_blk hG hp.res (by omega), fun D' hD' => by
        rw [eD] at hD'; injection hD' with hD'; subst hD'; exact ⟨hD, hnew⟩, fun _ => own_setOther (own_setOther (own_setOther (own_setOther (hp.l (by omega)) hB (by decide)) (hB.set 0 _) (by decide)) ((hB.set 0 _).set 1 _) (by decide)) (((hB.set 0 _).set 1 _).set 2 _) (by decide)⟩⟩)
      clear hnew hG hp hB
      simp [go_sem, Oper.wp, execOp, Act.eval, hu1, hu2, c0, c1, c2, c3, z0, z1, z2, z3]
      exact ⟨.int .i64 0, γ.1, γ.2, fun _ _ _ h => h, trivial, hfin⟩
  intro γ act wx hd
  obtain ⟨y, D, ey, eD, hp⟩ := (show ∃ y D, _ from hd.ph)
  obtain ⟨fv, rfl, hfv⟩ := hd.frame [22, 23, 24, 25, 26, 27, 8] rfl
  obtain ⟨D', eD', h7⟩ := (show ∃ D, _ from hfv 6 _ 8 rfl rfl)
  rw [eD] at eD'
  injection eD' with eD'
  subst eD'
  obtain ⟨hD, hB⟩ := hp.new D eD
  have hB : Blk wx D 26 #[.int .i64 rev, .slice none 0 0, .slice none 0 0, .slice y.1 nl y.2] := hB
  have HL0 := (show RupL w wx D #[.int .i64 rev, .slice none 0 0, .slice none 0 0, .slice y.1 nl y.2] ⟨rev, jobs, nodes, leases⟩ ⟨aj, nj, cj, an, nn, cn, al, nl, cl⟩ y wx from ⟨hp.below, hp.box, hp.res, hB, hp.l (by omega), Nat.le_refl _, hD, hB.lt⟩)
  have hrs := hp.res.lt
  clear hd hp hB H0 hfv ey eD
  have hDl := HL0.new.lt
  have z0 : wx.frozen? ⟨D, 0, none⟩ = false := HL0.new.thaw 0
  have c0 : wx.cell? ⟨D, 0, none⟩ = some (.int .i64 rev) := HL0.new.cell 0
  have Hbox0 := Lib.hid HL0.box
  have HL1 : RupL w wx D #[.int .i64 0, .slice none 0 0, .slice none 0 0, .slice y.1 nl y.2] ⟨rev, jobs, nodes, leases⟩ ⟨aj, nj, cj, an, nn, cn, al, nl, cl⟩ y (wx.setCell ⟨D, 0, none⟩ (.int .i64 0)) := HL0.set rfl
  generalize hW1 : wx.setCell ⟨D, 0, none⟩ (.int .i64 0) = W1 at HL1
  have hws : wx.heap.size = W1.heap.size := by rw [← hW1]; simp [World.setCell]
  have HW1 := Lib.hid hW1
  clear hW1 HL0
  have Hl1 := Lib.hid HL1
  have hbW : w.heap.size + 2 ≤ wx.heap.size := by have := HL1.at_; omega
  have hDW : D < wx.heap.size := HL1.at_.2
  have H7 := h7
  have yb1 : wx.cell? ⟨w.heap.size, 1, none⟩ = some (.slice aj nj cj) := Hbox0.out.cell 1
  clear HL1
  simp [Exit.then, h7]
  go_wp2
  go_loopw [34] (fun i wr => ∃ (k : Nat) (A : Option Addr) (c : Nat), k ≤ nj ∧ i = .int .i64 k ∧ RupL w wx D #[.int .i64 0, .slice A k c, .slice none 0 0, .slice y.1 nl y.2] ⟨rev, jobs, nodes, leases⟩ ⟨aj, nj, cj, an, nn, cn, al, nl, cl⟩ y wr ∧ wr.ownsRow wx.heap.size 49 5 (.slice A k c) k (rowsV jobV ((jobs.take k).map (downJ 2)))) (fun i _ => nj - (intOf i).toNat)
  case atStart => rw [HW1.out]; exact ⟨0, none, 0, Nat.zero_le _, rfl, Hl1.out, World.ownsRow_nil _ _ _ _⟩
  case round =>
    clear Hl1 yb1
    obtain ⟨k, A, c, hk, rfl, hL, ho⟩ := hrel
    have HL := Lib.hid hL
    have Ho := Lib.hid ho
    have hDr := hL.new.lt
    have hsr := hL.size
    have hbr := hL.below.size
    have y1 : wr.cell? ⟨D, 1, none⟩ = some (.slice A k c) := hL.new.cell 1
    by_cases hlt : k < nj
    · obtain ⟨r, hf⟩ : ∃ r, jobs[k]? = some r := ⟨_, List.getElem?_eq_getElem (by have := HS.out.lj; dsimp only at this; omega)⟩
      obtain ⟨b, off, hao, hbB, hc⟩ := (HS.out.j.below hL.below).rec_ jobV_len HS.out.lj hf
      dsimp only at hao
      subst hao
      have Hf := Lib.hid hf
      obtain ⟨name, prio, need, tries, tag⟩ := r
      have c0 : wr.cell? ⟨b, off + k * 5, none⟩ = some (.string name) := hc 0 _ rfl
      have c1 : wr.cell? ⟨b, off + k * 5 + 1, none⟩ = some (.int .i64 prio) := hc 1 _ rfl
      have c2 : wr.cell? ⟨b, off + k * 5 + 2, none⟩ = some (.int .i64 need) := hc 2 _ rfl
      have c3 : wr.cell? ⟨b, off + k * 5 + 3, none⟩ = some (.int .i64 tries) := hc 3 _ rfl
      have c4 : wr.cell? ⟨b, off + k * 5 + 4, none⟩ = some (.string tag) := hc 4 _ rfl
      have hlb : b < wr.heap.size := by omega
      have hA : Below wr.heap.size wr (wr.alloc (.cells #[.string name, .int .i64 prio, .int .i64 need, .int .i64 tries, .string ⟨#[]⟩] 49)) := (Below.refl _ _).alloc (Nat.le_refl _) _
      have hsA : (wr.alloc (.cells #[.string name, .int .i64 prio, .int .i64 need, .int .i64 tries, .string ⟨#[]⟩] 49)).heap.size = wr.heap.size + 1 := by simp
      have HL2 := Lib.hid (hL.kept hA)
      have HO2 := Lib.hid (ownU_below ho hA)
      have Hu := Lib.hid (show downJ 2 ⟨name, prio, need, tries, tag⟩ = ⟨name, prio, need, tries, ⟨#[]⟩⟩ from rfl)
      have hbrW : wx.heap.size ≤ (wr.alloc (.cells #[.string name, .int .i64 prio, .int .i64 need, .int .i64 tries, .string ⟨#[]⟩] 49)).heap.size := by omega
      clear hc hf hA hL ho
      go_wp2_with (at_builtin; refine push_rec jobV rfl _ _ 22 49 (.agg #[.string ⟨#[]⟩, .int .i64 0, .int .i64 0, .int .i64 0, .string ⟨#[]⟩]) 5 56 rfl Tryd.underlying22 infoJobT rfl (by decide) jobV_len jobV_oneT wx.heap.size _ _ _ _ rfl HO2.out _ ⟨name, prio, need, tries, ⟨#[]⟩⟩ rfl _ (by simp) rfl (by omega) (by unfold maxLen; omega) hbrW ?_; intro A2 c2 w4 ho4 hg4; have HL4 := HL2.out.grew hg4 HO2.out (by decide) hbW; have d1 : w4.cell? ⟨D, 1, none⟩ = some (.slice A k c) := HL4.new.cell 1; have z1 : w4.frozen? ⟨D, 1, none⟩ = false := HL4.new.thaw 1; have hd4 := HL4.new.lt)
      go_roundw
      case rel => exact ⟨k + 1, A2, c2, by omega, by go_num, HL4.set rfl, by rw [map_take_succ _ Hf.out, Hu.out]; exact own_setOther ho4 HL4.new (by decide)⟩
      case measure => simp [intOf]; omega
    · obtain rfl : nj = k := by omega
      have htk : jobs.take nj = jobs := List.take_of_length_le (by have := HS.out.lj; dsimp only at this; omega)
      rw [htk] at ho
      have HOJ := Lib.hid ho
      have Hl2 := Lib.hid hL
      have yb2 : wr.cell? ⟨w.heap.size, 2, none⟩ = some (.slice an nn cn) := hL.box.cell 2
      clear hL ho htk Ho HL y1
      go_wp2
      go_loopw [54] (fun i wr => ∃ (q : Nat) (AN : Option Addr) (cN : Nat), q ≤ nn ∧ i = .int .i64 q ∧ RupL w wx D #[.int .i64 0, .slice A nj c, .slice AN q cN, .slice y.1 nl y.2] ⟨rev, jobs, nodes, leases⟩ ⟨aj, nj, cj, an, nn, cn, al, nl, cl⟩ y wr ∧ wr.ownsRow wx.heap.size 49 5 (.slice A nj c) nj (rowsV jobV (jobs.map (downJ 2))) ∧ wr.ownsRow wx.heap.size 54 3 (.slice AN q cN) q (rowsV nodeV ((nodes.take q).map (downN 2)))) (fun i _ => nn - (intOf i).toNat)
      case atStart => exact ⟨0, none, 0, Nat.zero_le _, rfl, Hl2.out, HOJ.out, World.ownsRow_nil _ _ _ _⟩
      case round =>
        clear Hl2 HOJ yb2 hDr hsr hbr
        obtain ⟨q, AN, cN, hq, rfl, hL, hoJ, ho⟩ := hrel
        have HL := Lib.hid hL
        have HOJ := Lib.hid hoJ
        have hDr := hL.new.lt
        have hsr := hL.size
        have hbr := hL.below.size
        have y2 : wr.cell? ⟨D, 2, none⟩ = some (.slice AN q cN) := hL.new.cell 2
        by_cases hltq : q < nn
        · obtain ⟨r, hf⟩ : ∃ r, nodes[q]? = some r := ⟨_, List.getElem?_eq_getElem (by have := HS.out.ln; dsimp only at this; omega)⟩
          obtain ⟨b, off, hao, hbB, hc⟩ := (HS.out.n.below hL.below).rec_ nodeV_len HS.out.ln hf
          dsimp only at hao
          subst hao
          have Hf := Lib.hid hf
          obtain ⟨name, room, zone⟩ := r
          have c0 : wr.cell? ⟨b, off + q * 3, none⟩ = some (.string name) := hc 0 _ rfl
          have c1 : wr.cell? ⟨b, off + q * 3 + 1, none⟩ = some (.int .i64 room) := hc 1 _ rfl
          have c2 : wr.cell? ⟨b, off + q * 3 + 2, none⟩ = some (.string zone) := hc 2 _ rfl
          have hlb : b < wr.heap.size := by omega
          have hA : Below wr.heap.size wr (wr.alloc (.cells #[.string name, .int .i64 room, .string zone] 54)) := (Below.refl _ _).alloc (Nat.le_refl _) _
          have hsA : (wr.alloc (.cells #[.string name, .int .i64 room, .string zone] 54)).heap.size = wr.heap.size + 1 := by simp
          have HL2 := Lib.hid (hL.kept hA)
          have HO2 := Lib.hid (ownU_below ho hA)
          have HJ2 := Lib.hid (ownU_below hoJ hA)
          have Hu := Lib.hid (show downN 2 ⟨name, room, zone⟩ = ⟨name, room, zone⟩ from rfl)
          have hbrW : wx.heap.size ≤ (wr.alloc (.cells #[.string name, .int .i64 room, .string zone] 54)).heap.size := by omega
          clear hc hf hA hL ho hoJ
          go_wp2_with (at_builtin; refine push_rec nodeV rfl _ _ 23 54 (.agg #[.string ⟨#[]⟩, .int .i64 0, .string ⟨#[]⟩]) 3 40 rfl Tryd.underlying23 infoNodeT rfl (by decide) nodeV_len nodeV_oneT wx.heap.size _ _ _ _ rfl HO2.out _ ⟨name, room, zone⟩ rfl _ (by simp) rfl (by omega) (by unfold maxLen; omega) hbrW ?_; intro A2 c2 w4 ho4 hg4; have HL4 := HL2.out.grew hg4 HO2.out (by decide) hbW; have hJ4 := own_grewOther HJ2.out hg4 HO2.out (by decide); have d1 : w4.cell? ⟨D, 2, none⟩ = some (.slice AN q cN) := HL4.new.cell 2; have z1 : w4.frozen? ⟨D, 2, none⟩ = false := HL4.new.thaw 2; have hd4 := HL4.new.lt)
          go_roundw
          case rel => exact ⟨q + 1, A2, c2, by omega, by go_num, HL4.set rfl, own_setOther hJ4 HL4.new (by decide), by rw [map_take_succ _ Hf.out, Hu.out]; exact own_setOther ho4 HL4.new (by decide)⟩
          case measure => simp [intOf]; omega
        · obtain rfl : nn = q := by omega
          have htk : nodes.take nn = nodes := List.take_of_length_le (by have := HS.out.ln; dsimp only at this; omega)
          rw [htk] at ho
          have hne := hL.at_
          have hO : StOwn wr (w.heap.size + 2) ⟨0, jobs.map (downJ 2), nodes.map (downN 2), leases⟩ ⟨A, nj, c, AN, nn, cN, y.1, nl, y.2⟩ := ⟨ownT_base hoJ (by omega), ownT_base ho (by omega), hL.l, by rw [List.length_map]; exact hnj, by rw [List.length_map]; exact hnn, HS.out.ll⟩
          have H1 : RdEnd w (w.heap.size + 2) D ⟨rev, jobs, nodes, leases⟩ ⟨0, jobs.map (downJ 2), nodes.map (downN 2), leases⟩ (upSt ⟨0, jobs.map (downJ 2), nodes.map (downN 2), leases⟩ 2 3) ⟨aj, nj, cj, an, nn, cn, al, nl, cl⟩ ⟨A, nj, c, AN, nn, cN, y.1, nl, y.2⟩ nilA 0 wr.drew := ⟨hL.below.drew, hL.box, hL.new, hL.res, hO.kept (Below.refl _ _).drew, fun h => absurd h (by omega), Nat.le_refl _, hne.1⟩
          clear hL ho hoJ HL HOJ htk hO y2
          go_wp2_with fail
          refine wp_region_phasesG (n := 74) (by kernel_rfl) (fun γ => rdnV #[.int .i64 0, .slice A nj c, .slice AN nn cN, .slice y.1 nl y.2] (upSt ⟨0, jobs.map (downJ 2), nodes.map (downN 2), leases⟩ 2 3) ⟨rev, jobs, nodes, leases⟩ ⟨aj, nj, cj, an, nn, cn, al, nl, cl⟩ γ 2 (eqS (upSt ⟨0, jobs.map (downJ 2), nodes.map (downN 2), leases⟩ 2 3) ⟨rev, jobs, nodes, leases⟩)) [3, 5, 6] (fun p γ w' => RdEnd w (w.heap.size + 2) D ⟨rev, jobs, nodes, leases⟩ ⟨0, jobs.map (downJ 2), nodes.map (downN 2), leases⟩ (upSt ⟨0, jobs.map (downJ 2), nodes.map (downN 2), leases⟩ 2 3) ⟨aj, nj, cj, an, nn, cn, al, nl, cl⟩ ⟨A, nj, c, AN, nn, cN, y.1, nl, y.2⟩ γ p w') nilA (by decide +kernel) (by decide +kernel) rfl H1 ?_ ?_
          · refine ⟨?_, ?_, ?_, ?_, ?_, ?_, ?_, ?_, ?_, trivial⟩
            · refine ⟨rfl, .inr ⟨by decide, 0, 3, by decide +kernel, by decide +kernel, fun p γ a wz hpl hk0 hp hk => ?_⟩⟩
              have h1 := hk.1 8 _ rfl (by decide +kernel)
              have c0 : wz.cell? ⟨D, 0, none⟩ = some (.int .i64 0) := hp.new.cell 0
              have c1 : wz.cell? ⟨D, 1, none⟩ = some (.slice A nj c) := hp.new.cell 1
              have c2 : wz.cell? ⟨D, 2, none⟩ = some (.slice AN nn cN) := hp.new.cell 2
              have c3 : wz.cell? ⟨D, 3, none⟩ = some (.slice y.1 nl y.2) := hp.new.cell 3
              simp [go_sem, Oper.wp, execOp, Act.eval, h1, h7, c0, c1, c2, c3]
              first | exact ⟨_, rfl, γ, (fun _ _ _ h => h), rfl, hp⟩ | exact ⟨_, γ, rfl, (fun _ _ _ h => h), rfl, hp⟩
            · refine ⟨rfl, .inr ⟨by decide, 0, 3, by decide +kernel, by decide +kernel, fun p γ a wz hpl hk0 hp hk => ?_⟩⟩
              have h1 := hk.1 8 _ rfl (by decide +kernel)
              have c0 : wz.cell? ⟨D, 0, none⟩ = some (.int .i64 0) := hp.new.cell 0
              have c1 : wz.cell? ⟨D, 1, none⟩ = some (.slice A nj c) := hp.new.cell 1
              have c2 : wz.cell? ⟨D, 2, none⟩ = some (.slice AN nn cN) := hp.new.cell 2
              have c3 : wz.cell? ⟨D, 3, none⟩ = some (.slice y.1 nl y.2) := hp.new.cell 3
              simp [go_sem, Oper.wp, execOp, Act.eval, h1, h7, c0, c1, c2, c3]
              first | exact ⟨_, rfl, γ, (fun _ _ _ h => h), rfl, hp⟩ | exact ⟨_, γ, rfl, (fun _ _ _ h => h), rfl, hp⟩
            · refine ⟨rfl, .inr ⟨by decide, 0, 3, by decide +kernel, by decide +kernel, fun p γ a wz hpl hk0 hp hk => ?_⟩⟩
              have h1 := hk.1 1 _ rfl (by decide +kernel)
              simp [go_sem, Oper.wp, execOp, Act.eval, h1]
              first | exact ⟨_, rfl, γ, (fun _ _ _ h => h), rfl, hp⟩ | exact ⟨_, γ, rfl, (fun _ _ _ h => h), rfl, hp⟩
            · refine ⟨rfl, .inl ⟨0, rfl, fun γ a wz hp hk => ?_⟩⟩
              obtain ⟨u1, hu1, ru1⟩ := hk.2.1 1 _ 69 rfl rfl (by decide +kernel)
              replace ru1 : u1 = _ := ru1
              subst ru1
              obtain ⟨u2, hu2, ru2⟩ := hk.2.1 2 _ 70 rfl rfl (by decide +kernel)
              replace ru2 : u2 = _ := ru2
              subst ru2
              simp [go_sem, Oper.wp, execOp, Act.eval, hu1, hu2]
              have hOk := downSt_ok (c := 2) HS.out.oj HS.out.on_
              refine (rup_any ⟨0, jobs.map (downJ 2), nodes.map (downN 2), leases⟩ ⟨A, nj, c, AN, nn, cN, y.1, nl, y.2⟩ 2 3 wz (hp.ownd.at_ (by dsimp only; omega) (by dsimp only; omega) (by dsimp only; omega) hOk.1 hOk.2 HS.out.ol) (by dsimp only; omega) (by dsimp only; omega) (by dsimp only; omega) (by decide) (by decide) (by decide)).mono ?_
              rintro e w' ⟨x', rfl, e1, e2, e3, hO, hb⟩
              have hbz := hp.below.size
              have hk' := (hp.kept hb).up hO (by have := hp.res.lt; omega) e1 e2 e3
              first | exact ⟨_, rfl, x', rdnV_3, rfl, hk'⟩ | exact ⟨_, x', rfl, rdnV_3, rfl, hk'⟩
            · refine ⟨rfl, .inr ⟨by decide, 0, 3, by decide +kernel, by decide +kernel, fun p γ a wz hpl hk0 hp hk => ?_⟩⟩
              have h1 := hk.1 2 _ rfl (by decide +kernel)
              have c0 : wz.cell? ⟨w.heap.size, 0, none⟩ = some (.int .i64 rev) := hp.box.cell 0
              have c1 : wz.cell? ⟨w.heap.size, 1, none⟩ = some (.slice aj nj cj) := hp.box.cell 1
              have c2 : wz.cell? ⟨w.heap.size, 2, none⟩ = some (.slice an nn cn) := hp.box.cell 2
              have c3 : wz.cell? ⟨w.heap.size, 3, none⟩ = some (.slice al nl cl) := hp.box.cell 3
              simp [go_sem, Oper.wp, execOp, Act.eval, h1, c0, c1, c2, c3]
              first | exact ⟨_, rfl, γ, (fun _ _ _ h => h), rfl, hp⟩ | exact ⟨_, γ, rfl, (fun _ _ _ h => h), rfl, hp⟩
            · refine ⟨rfl, .inl ⟨1, rfl, fun γ a wz hp hk => ?_⟩⟩
              obtain ⟨u1, hu1, ru1⟩ := hk.2.1 3 _ 71 rfl rfl (by decide +kernel)
              replace ru1 : u1 = _ := ru1
              subst ru1
              obtain ⟨u2, hu2, ru2⟩ := hk.2.1 4 _ 72 rfl rfl (by decide +kernel)
              replace ru2 : u2 = _ := ru2
              subst ru2
              simp [go_sem, Oper.wp, execOp, Act.eval, hu1, hu2]
              obtain ⟨bu, hbu, hU, n1, n2, n3⟩ := hp.ownu (Nat.le_refl _)
              dsimp only at n1 n2 n3
              have hOk := downSt_ok (c := 2) HS.out.oj HS.out.on_
              have hOk2 := upSt_ok (st := ⟨0, jobs.map (downJ 2), nodes.map (downN 2), leases⟩) (a := 2) (b := 3) hOk.1 hOk.2
              refine (same_any (upSt ⟨0, jobs.map (downJ 2), nodes.map (downN 2), leases⟩ 2 3) ⟨rev, jobs, nodes, leases⟩ γ ⟨aj, nj, cj, an, nn, cn, al, nl, cl⟩ wz (hU.at_ (by omega) (by omega) (by omega) hOk2.1 hOk2.2.1 (by rw [hOk2.2.2]; exact HS.out.ol)) (HS.out.up hp.below)).mono ?_
              rintro e w' ⟨t, rfl, ht, hb⟩
              have hk' := (hp.kept hb).next
              rw [show t = eqS (upSt ⟨0, jobs.map (downJ 2), nodes.map (downN 2), leases⟩ 2 3) ⟨rev, jobs, nodes, leases⟩ from eqS_of ht]
              first | exact ⟨_, rfl, γ, (fun _ _ _ h => h), rfl, hk'⟩ | exact ⟨_, γ, rfl, (fun _ _ _ h => h), rfl, hk'⟩
            · refine ⟨rfl, .inl ⟨2, rfl, fun γ a wz hp hk => ?_⟩⟩
              obtain ⟨u1, hu1, ru1⟩ := hk.2.1 0 _ 68 rfl rfl (by decide +kernel)
              replace ru1 : u1 = _ := ru1
              subst ru1
              have h1 := hk.1 4 _ rfl (by decide +kernel)
              have hR : Blk wz (w.heap.size + 1) 26 #[.int .i64 0, .slice none 0 0, .slice none 0 0, .slice none 0 0] := hp.res
              have z0 : wz.frozen? ⟨w.heap.size + 1, 0, none⟩ = false := hR.thaw 0
              have s0 : wz.cell? ⟨w.heap.size + 1, 0, none⟩ = some (.int .i64 0) := hR.cell 0
              have z1 : wz.frozen? ⟨w.heap.size + 1, 1, none⟩ = false := hR.thaw 1
              have s1 : wz.cell? ⟨w.heap.size + 1, 1, none⟩ = some (.slice none 0 0) := hR.cell 1
              have z2 : wz.frozen? ⟨w.heap.size + 1, 2, none⟩ = false := hR.thaw 2
              have s2 : wz.cell? ⟨w.heap.size + 1, 2, none⟩ = some (.slice none 0 0) := hR.cell 2
              have z3 : wz.frozen? ⟨w.heap.size + 1, 3, none⟩ = false := hR.thaw 3
              have s3 : wz.cell? ⟨w.heap.size + 1, 3, none⟩ = some (.slice none 0 0) := hR.cell 3
              have hrl := hR.lt
              have hfin := hp.store
              clear hp hR
              simp [go_sem, Oper.wp, execOp, Act.eval, hu1, h1, s0, s1, s2, s3, z0, z1, z2, z3]
              first | exact ⟨.int .i64 0, γ, (fun _ _ _ h => h), trivial, hfin⟩ | exact ⟨γ, (fun _ _ _ h => h), ⟨.int .i64 0, trivial⟩, hfin⟩ | exact ⟨_, rfl, γ, (fun _ _ _ h => h), trivial, hfin⟩
            · refine ⟨rfl, .inr ⟨by decide, 0, 3, by decide +kernel, by decide +kernel, fun p γ a wz hpl hk0 hp hk => ?_⟩⟩
              obtain ⟨u1, hu1, ru1⟩ := hk.2.1 5 _ 73 rfl rfl (by decide +kernel)
              replace ru1 : u1 = _ := ru1
              subst ru1
              simp [go_sem, Oper.wp, execOp, Act.eval, hu1]
              first | exact ⟨_, rfl, γ, (fun _ _ _ h => h), rfl, hp⟩ | exact ⟨_, γ, rfl, (fun _ _ _ h => h), rfl, hp⟩
            · refine ⟨rfl, .inr ⟨by decide, 0, 3, by decide +kernel, by decide +kernel, fun p γ a wz hpl hk0 hp hk => ?_⟩⟩
              simp [go_sem, Oper.wp, execOp, Act.eval]
              first | exact ⟨_, rfl, γ, (fun _ _ _ h => h), rfl, hp⟩ | exact ⟨_, γ, rfl, (fun _ _ _ h => h), rfl, hp⟩
          intro γ act wz hd
          have hp := hd.ph
          obtain ⟨fv2, rfl, hfv⟩ := hd.frame [68, 69, 70, 71, 72, 73, 5, 6] rfl
          have h5 : fv2 5 = .bool (eqS (upSt ⟨0, jobs.map (downJ 2), nodes.map (downN 2), leases⟩ 2 3) ⟨rev, jobs, nodes, leases⟩) := hfv 7 _ 5 rfl rfl
          have h6 : fv2 6 = .int .i64 0 := hfv 8 _ 6 rfl rfl
          have hR : Blk wz (w.heap.size + 1) 26 #[.int .i64 0, .slice A nj c, .slice AN nn cN, .slice y.1 nl y.2] := hp.res
          have r0 : wz.cell? ⟨w.heap.size + 1, 0, none⟩ = some (.int .i64 0) := hR.cell 0
          have r1 : wz.cell? ⟨w.heap.size + 1, 1, none⟩ = some (.slice A nj c) := hR.cell 1
          have r2 : wz.cell? ⟨w.heap.size + 1, 2, none⟩ = some (.slice AN nn cN) := hR.cell 2
          have r3 : wz.cell? ⟨w.heap.size + 1, 3, none⟩ = some (.slice y.1 nl y.2) := hR.cell 3
          have hOk := downSt_ok (c := 2) HS.out.oj HS.out.on_
          have hAt := hp.ownd.at_ (by dsimp only; omega) (by dsimp only; omega) (by dsimp only; omega) hOk.1 hOk.2 HS.out.ol
          have Hend := Lib.hid (show DnPost ⟨rev, jobs, nodes, leases⟩ 2 w (.returned (.tuple #[.agg #[.int .i64 0, .slice A nj c, .slice AN nn cN, .slice y.1 nl y.2], .bool (eqS (upSt ⟨0, jobs.map (downJ 2), nodes.map (downN 2), leases⟩ 2 3) ⟨rev, jobs, nodes, leases⟩), .int .i64 0])) wz from ⟨_, _, _, 0, rfl, by rw [Hev.out, Hkb.out, Hdn.out], hAt, hp.below⟩)
          clear hd hp hfv hR hOk hAt H1
          simp [Exit.then, h5, h6]
          go_wp2
          refine bodyPost_ret (v := .tuple #[.agg #[.int .i64 0, .slice A nj c, .slice AN nn cN, .slice y.1 nl y.2], .bool (eqS (upSt ⟨0, jobs.map (downJ 2), nodes.map (downN 2), leases⟩ 2 3) ⟨rev, jobs, nodes, leases⟩), .int .i64 0]) (by simp [results, Tryd.results13, go_sem, *]) rfl ?_
          exact Hend.out
set_option maxRecDepth 100000 in
set_option maxHeartbeats 4000000 in
theorem rdown_3 (st : StateD) (x : StA) (h0 : checkE st = 0) (w : World) (hS : StAt w w.heap.size st x) :
    Calls Tryd.prog 13 #[.agg (stC st x), .int .i64 3] w (DnPost st 3 w) := by
  have hb1 : Below w.heap.size w (w.alloc (.cells (stC st x) 26)) := (Below.refl _ _).alloc (Nat.le_refl _) _
  have hb2 := hb1.alloc hb1.size (.cells #[.int .i64 0, .slice none 0 0, .slice none 0 0, .slice none 0 0] 26)
  have hBS : Blk ((w.alloc (.cells (stC st x) 26)).alloc (.cells #[.int .i64 0, .slice none 0 0, .slice none 0 0, .slice none 0 0] 26)) w.heap.size 26 (stC st x) := Blk.alloc (show Blk _ _ _ _ from heap_alloc_new w _) _
  have hBR : Blk ((w.alloc (.cells (stC st x) 26)).alloc (.cells #[.int .i64 0, .slice none 0 0, .slice none 0 0, .slice none 0 0] 26)) (w.heap.size + 1) 26 #[.int .i64 0, .slice none 0 0, .slice none 0 0, .slice none 0 0] := by
    have h := heap_alloc_new (w.alloc (.cells (stC st x) 26)) (.cells #[.int .i64 0, .slice none 0 0, .slice none 0 0, .slice none 0 0] 26)
    rwa [show (w.alloc (.cells (stC st x) 26)).heap.size = w.heap.size + 1 by simp] at h
  have hChk := rcheck_any st x _ (hS.up hb2)
  unfold RCPost at hChk
  have Hnone := Lib.hid (fun E (h : downF st 3 = (zeroSt, false, E)) w' => DnPost.none_ (w := w) (w' := w') h)
  have HS := Lib.hid hS
  have Hb2 := Lib.hid hb2
  have HBS := Lib.hid hBS
  have HBR := Lib.hid hBR
  clear hb1 hb2 hS hBS hBR
  have Hsz := Lib.hid (ck_sizes h0)
  have Hev := Lib.hid (downF_ok (c := 3) h0 (by decide))
  have Hdn := Lib.hid (show downSt st 3 = ⟨st.rev, st.jobs.map (downJ 3), st.nodes.map (downN 3), st.leases⟩ from rfl)
  have Hkb := Lib.hid (show keptB st 3 = eqS (upSt (downSt st 3) 3 3) st from rfl)
  rw [h0] at hChk
  have HChk := Lib.hid hChk
  clear hChk h0
  obtain ⟨rev, jobs, nodes, leases⟩ := st
  obtain ⟨aj, nj, cj, an, nn, cn, al, nl, cl⟩ := x
  unfold stC at *
  dsimp only at *
  go_enter Tryd.func13, Tryd.ntmps13
  go_wp2_with fail
  refine Calls.mono HChk.out ?_
  rintro e w1 ⟨rfl, hb⟩
  have Hb1 := Lib.hid (Hb2.out.trans (hb.mono Hb2.out.size))
  have HB1 := Lib.hid (HBS.out.below hb HBS.out.lt)
  have HR1 := Lib.hid (HBR.out.below hb HBR.out.lt)
  have hbl := HB1.out.lt
  have hrl := HR1.out.lt
  clear hb HBS HBR HChk
  clear Hnone
  have hl1 : nj ≤ 40 := by have := HS.out.lj; have := Hsz.out; dsimp only at *; omega
  have hl2 : nn ≤ 20 := by have := HS.out.ln; have := Hsz.out; dsimp only at *; omega
  have hl3 : nl ≤ 40 := by have := HS.out.ll; have := Hsz.out; dsimp only at *; omega
  have hnj : jobs.length = nj := HS.out.lj
  have hnn : nodes.length = nn := HS.out.ln
  go_wp2_with fail
  refine Calls.mono (outside_any 3 1 3 _) ?_
  rintro e w1' ⟨rfl, rfl⟩
  rw [show ranged 3 1 3 = true from by decide]
  have H0 : rupPh w ⟨rev, jobs, nodes, leases⟩ ⟨aj, nj, cj, an, nn, cn, al, nl, cl⟩ 0 (none, none) w1.drew := ⟨rfl, Hb1.out.drew, HB1.out, HR1.out, (fun D hD => by cases hD), fun h => absurd h (by omega)⟩
  go_wp2_with fail
  refine wp_region_phasesG (n := 74) (by kernel_rfl) (rupV w.heap.size rev al nl cl) [4, 7] (rupPh w ⟨rev, jobs, nodes, leases⟩ ⟨aj, nj, cj, an, nn, cn, al, nl, cl⟩) (none, none) (by decide +kernel) (by decide +kernel) rfl H0 ?_ ?_
  · refine ⟨?_, ?_, ?_, ?_, ?_, ?_, ?_, ?_, trivial⟩
    · refine ⟨rfl, .inr ⟨by decide, 0, 2, by decide +kernel, by decide +kernel, fun p γ a wx _ hph hp hk => ?_⟩⟩
      have h1 := hk.1 2 _ rfl (by decide +kernel)
      simp [go_sem, Oper.wp, execOp, Act.eval, h1]
      exact ⟨_, rfl, γ.1, γ.2, fun _ _ _ h => h, rfl, hp⟩
    · refine ⟨rfl, .inr ⟨by decide, 0, 2, by decide +kernel, by decide +kernel, fun p γ a wx _ hph hp hk => ?_⟩⟩
      obtain ⟨u1, hu1, ru1⟩ := hk.2.1 0 _ 22 rfl rfl (by decide +kernel)
      replace ru1 : u1 = _ := ru1
      subst ru1
      have hbx : RBox w wx #[.int .i64 rev, .slice aj nj cj, .slice an nn cn, .slice al nl cl] := rupBox hp
      have hc : wx.cell? ⟨w.heap.size, 0, none⟩ = some (.int .i64 rev) := hbx.cell 0
      simp [go_sem, Oper.wp, execOp, Act.eval, hu1, hc]
      exact ⟨_, rfl, γ.1, γ.2, fun _ _ _ h => h, rfl, hp⟩
    · refine ⟨rfl, .inr ⟨by decide, 0, 2, by decide +kernel, by decide +kernel, fun p γ a wx _ hph hp hk => ?_⟩⟩
      have h1 := hk.1 2 _ rfl (by decide +kernel)
      simp [go_sem, Oper.wp, execOp, Act.eval, h1]
      exact ⟨_, rfl, γ.1, γ.2, fun _ _ _ h => h, rfl, hp⟩
    · refine ⟨rfl, .inr ⟨by decide, 0, 2, by decide +kernel, by decide +kernel, fun p γ a wx _ hph hp hk => ?_⟩⟩
      obtain ⟨u1, hu1, ru1⟩ := hk.2.1 2 _ 24 rfl rfl (by decide +kernel)
      replace ru1 : u1 = _ := ru1
      subst ru1
      have hbx : RBox w wx #[.int .i64 rev, .slice aj nj cj, .slice an nn cn, .slice al nl cl] := rupBox hp
      have hc : wx.cell? ⟨w.heap.size, 3, none⟩ = some (.slice al nl cl) := hbx.cell 3
      simp [go_sem, Oper.wp, execOp, Act.eval, hu1, hc]
      exact ⟨_, rfl, γ.1, γ.2, fun _ _ _ h => h, rfl, hp⟩
    · refine ⟨rfl, .inl ⟨0, rfl, fun γ a wx hp hk => ?_⟩⟩
      obtain ⟨u1, hu1, ru1⟩ := hk.2.1 3 _ 25 rfl rfl (by decide +kernel)
      replace ru1 : u1 = _ := ru1
      subst ru1
      simp [go_sem, Oper.wp, execOp, Act.eval, hu1]
      obtain ⟨h0, hp⟩ := hp
      refine (copy_lease leases al nl cl wx (HS.out.l.below hp.below |>.more hp.below.size) HS.out.ll (by omega)).mono ?_
      rintro e w' ⟨A', c', rfl, ho, hb⟩
      rw [HS.out.ll] at ho ⊢
      dsimp only at ho ⊢
      have hk' := hp.kept hb
      exact ⟨_, rfl, some (A', c'), γ.2, rupV_4 h0 _, ⟨(A', c'), rfl, rfl⟩, (A', c'), rfl, ⟨hk'.below, hk'.box, hk'.res, hk'.new, fun _ => ownT_base ho (by have := hp.res.lt; omega)⟩⟩
    · refine ⟨rfl, .inr ⟨by decide, 0, 2, by decide +kernel, by decide +kernel, fun p γ a wx _ hph hp hk => ?_⟩⟩
      obtain ⟨u1, hu1, ru1⟩ := hk.2.1 1 _ 23 rfl rfl (by decide +kernel)
      replace ru1 : u1 = _ := ru1
      subst ru1
      obtain ⟨u2, hu2, ru2⟩ := hk.2.1 4 _ 26 rfl rfl (by decide +kernel)
      obtain ⟨y, ey, ru2⟩ := (show ∃ _, _ from ru2)
      subst ru2
      simp [go_sem, Oper.wp, execOp, Act.eval, hu1, hu2]
      exact ⟨_, rfl, γ.1, γ.2, fun _ _ _ h => h, ⟨y, ey, rfl⟩, hp⟩
    · refine ⟨rfl, .inr ⟨by decide, 0, 1, by decide +kernel, by decide +kernel, fun p γ a wx _ hph hp hk => ?_⟩⟩
      simp [go_sem, Oper.wp, execOp, Act.eval, ]
      exact ⟨_, rfl, γ.1, some wx.heap.size, rupV_6 _, ⟨_, rfl, rfl⟩, rupAlloc hph hp⟩
    · refine ⟨rfl, .inl ⟨1, rfl, fun γ a wx hp hk => ?_⟩⟩
      obtain ⟨u1, hu1, ru1⟩ := hk.2.1 6 _ 8 rfl rfl (by decide +kernel)
      obtain ⟨D, eD, ru1⟩ := (show ∃ _, _ from ru1)
      subst ru1
      obtain ⟨u2, hu2, ru2⟩ := hk.2.1 5 _ 27 rfl rfl (by decide +kernel)
      obtain ⟨y, ey, ru2⟩ := (show ∃ _, _ from ru2)
      subst ru2
      obtain ⟨y', ey', hp⟩ := hp
      rw [ey] at ey'
      injection ey' with ey'
      subst ey'
      obtain ⟨hD, hB⟩ := hp.new D eD
      have hB : Blk wx D 26 #[.int .i64 0, .slice none 0 0, .slice none 0 0, .slice none 0 0] := hB
      have z0 : wx.frozen? ⟨D, 0, none⟩ = false := hB.thaw 0
      have c0 : wx.cell? ⟨D, 0, none⟩ = some (.int .i64 0) := hB.cell 0
      have z1 : wx.frozen? ⟨D, 1, none⟩ = false := hB.thaw 1
      have c1 : wx.cell? ⟨D, 1, none⟩ = some (.slice none 0 0) := hB.cell 1
      have z2 : wx.frozen? ⟨D, 2, none⟩ = false := hB.thaw 2
      have c2 : wx.cell? ⟨D, 2, none⟩ = some (.slice none 0 0) := hB.cell 2
      have z3 : wx.frozen? ⟨D, 3, none⟩ = false := hB.thaw 3
      have c3 : wx.cell? ⟨D, 3, none⟩ = some (.slice none 0 0) := hB.cell 3
      have hbl := hB.lt
      have hrl := hp.res.lt
      have hG := bes_set (bes_set (bes_set (bes_set (grow_refl wx D) 0 (.int .i64 rev)) 1 (.slice none 0 0)) 2 (.slice none 0 0)) 3 (.slice y.1 nl y.2)
      have hnew : Blk _ D 26 #[.int .i64 rev, .slice none 0 0, .slice none 0 0, .slice y.1 nl y.2] := Blk.eq ((((hB.set 0 (.int .i64 rev)).set 1 (.slice none 0 0)).set 2 (.slice none 0 0)).set 3 (.slice y.1 nl y.2)) rfl
      have hfin := (show rupPh w ⟨rev, jobs, nodes, leases⟩ ⟨aj, nj, cj, an, nn, cn, al, nl, cl⟩ 2 γ _ from ⟨y, D, ey, eD, ⟨grow_keep hp.below hG (by omega), grow_blk hG hp.box (by omega), grow_blk hG hp.res (by omega), fun D' hD' => by
        rw [eD] at hD'; injection hD' with hD'; subst hD'; exact ⟨hD, hnew⟩, fun _ => own_setOther (own_setOther (own_setOther (own_setOther (hp.l (by omega)) hB (by decide)) (hB.set 0 _) (by decide)) ((hB.set 0 _).set 1 _) (by decide)) (((hB.set 0 _).set 1 _).set 2 _) (by decide)⟩⟩)
      clear hnew hG hp hB
      simp [go_sem, Oper.wp, execOp, Act.eval, hu1, hu2, c0, c1, c2, c3, z0, z1, z2, z3]
      exact ⟨.int .i64 0, γ.1, γ.2, fun _ _ _ h => h, trivial, hfin⟩
  intro γ act wx hd
  obtain ⟨y, D, ey, eD, hp⟩ := (show ∃ y D, _ from hd.ph)
  obtain ⟨fv, rfl, hfv⟩ := hd.frame [22, 23, 24, 25, 26, 27, 8] rfl
  obtain ⟨D', eD', h7⟩ := (show ∃ D, _ from hfv 6 _ 8 rfl rfl)
  rw [eD] at eD'
  injection eD' with eD'
  subst eD'
  obtain ⟨hD, hB⟩ := hp.new D eD
  have hB : Blk wx D 26 #[.int .i64 rev, .slice none 0 0, .slice none 0 0, .slice y.1 nl y.2] := hB
  have HL0 := (show RupL w wx D #[.int .i64 rev, .slice none 0 0, .slice none 0 0, .slice y.1 nl y.2] ⟨rev, jobs, nodes, leases⟩ ⟨aj, nj, cj, an, nn, cn, al, nl, cl⟩ y wx from ⟨hp.below, hp.box, hp.res, hB, hp.l (by omega), Nat.le_refl _, hD, hB.lt⟩)
  have hrs := hp.res.lt
  clear hd hp hB H0 hfv ey eD
  have hDl := HL0.new.lt
  have HL1 := HL0
  clear HL0
  have Hl1 := Lib.hid HL1
  have hbW : w.heap.size + 2 ≤ wx.heap.size := by have := HL1.at_; omega
  have hDW : D < wx.heap.size := HL1.at_.2
  have H7 := h7
  have yb1 : wx.cell? ⟨w.heap.size, 1, none⟩ = some (.slice aj nj cj) := HL1.box.cell 1
  clear HL1
  simp [Exit.then, h7]
  go_wp2
  go_loopw [34] (fun i wr => ∃ (k : Nat) (A : Option Addr) (c : Nat), k ≤ nj ∧ i = .int .i64 k ∧ RupL w wx D #[.int .i64 rev, .slice A k c, .slice none 0 0, .slice y.1 nl y.2] ⟨rev, jobs, nodes, leases⟩ ⟨aj, nj, cj, an, nn, cn, al, nl, cl⟩ y wr ∧ wr.ownsRow wx.heap.size 49 5 (.slice A k c) k (rowsV jobV ((jobs.take k).map (downJ 3)))) (fun i _ => nj - (intOf i).toNat)
  case atStart => exact ⟨0, none, 0, Nat.zero_le _, rfl, Hl1.out, World.ownsRow_nil _ _ _ _⟩
  case round =>
    clear Hl1 yb1
    obtain ⟨k, A, c, hk, rfl, hL, ho⟩ := hrel
    have HL := Lib.hid hL
    have Ho := Lib.hid ho
    have hDr := hL.new.lt
    have hsr := hL.size
    have hbr := hL.below.size
    have y1 : wr.cell? ⟨D, 1, none⟩ = some (.slice A k c) := hL.new.cell 1
    by_cases hlt : k < nj
    · obtain ⟨r, hf⟩ : ∃ r, jobs[k]? = some r := ⟨_, List.getElem?_eq_getElem (by have := HS.out.lj; dsimp only at this; omega)⟩
      obtain ⟨b, off, hao, hbB, hc⟩ := (HS.out.j.below hL.below).rec_ jobV_len HS.out.lj hf
      dsimp only at hao
      subst hao
      have Hf := Lib.hid hf
      obtain ⟨name, prio, need, tries, tag⟩ := r
      have c0 : wr.cell? ⟨b, off + k * 5, none⟩ = some (.string name) := hc 0 _ rfl
      have c1 : wr.cell? ⟨b, off + k * 5 + 1, none⟩ = some (.int .i64 prio) := hc 1 _ rfl
      have c2 : wr.cell? ⟨b, off + k * 5 + 2, none⟩ = some (.int .i64 need) := hc 2 _ rfl
      have c3 : wr.cell? ⟨b, off + k * 5 + 3, none⟩ = some (.int .i64 tries) := hc 3 _ rfl
      have c4 : wr.cell? ⟨b, off + k * 5 + 4, none⟩ = some (.string tag) := hc 4 _ rfl
      have hlb : b < wr.heap.size := by omega
      have hA : Below wr.heap.size wr (wr.alloc (.cells #[.string name, .int .i64 prio, .int .i64 need, .int .i64 tries, .string tag] 49)) := (Below.refl _ _).alloc (Nat.le_refl _) _
      have hsA : (wr.alloc (.cells #[.string name, .int .i64 prio, .int .i64 need, .int .i64 tries, .string tag] 49)).heap.size = wr.heap.size + 1 := by simp
      have HL2 := Lib.hid (hL.kept hA)
      have HO2 := Lib.hid (ownU_below ho hA)
      have Hu := Lib.hid (show downJ 3 ⟨name, prio, need, tries, tag⟩ = ⟨name, prio, need, tries, tag⟩ from rfl)
      have hbrW : wx.heap.size ≤ (wr.alloc (.cells #[.string name, .int .i64 prio, .int .i64 need, .int .i64 tries, .string tag] 49)).heap.size := by omega
      clear hc hf hA hL ho
      go_wp2_with (at_builtin; refine push_rec jobV rfl _ _ 22 49 (.agg #[.string ⟨#[]⟩, .int .i64 0, .int .i64 0, .int .i64 0, .string ⟨#[]⟩]) 5 56 rfl Tryd.underlying22 infoJobT rfl (by decide) jobV_len jobV_oneT wx.heap.size _ _ _ _ rfl HO2.out _ ⟨name, prio, need, tries, tag⟩ rfl _ (by simp) rfl (by omega) (by unfold maxLen; omega) hbrW ?_; intro A2 c2 w4 ho4 hg4; have HL4 := HL2.out.grew hg4 HO2.out (by decide) hbW; have d1 : w4.cell? ⟨D, 1, none⟩ = some (.slice A k c) := HL4.new.cell 1; have z1 : w4.frozen? ⟨D, 1, none⟩ = false := HL4.new.thaw 1; have hd4 := HL4.new.lt)
      go_roundw
      case rel => exact ⟨k + 1, A2, c2, by omega, by go_num, HL4.set rfl, by rw [map_take_succ _ Hf.out, Hu.out]; exact own_setOther ho4 HL4.new (by decide)⟩
      case measure => simp [intOf]; omega
    · obtain rfl : nj = k := by omega
      have htk : jobs.take nj = jobs := List.take_of_length_le (by have := HS.out.lj; dsimp only at this; omega)
      rw [htk] at ho
      have HOJ := Lib.hid ho
      have Hl2 := Lib.hid hL
      have yb2 : wr.cell? ⟨w.heap.size, 2, none⟩ = some (.slice an nn cn) := hL.box.cell 2
      clear hL ho htk Ho HL y1
      go_wp2
      go_loopw [54] (fun i wr => ∃ (q : Nat) (AN : Option Addr) (cN : Nat), q ≤ nn ∧ i = .int .i64 q ∧ RupL w wx D #[.int .i64 rev, .slice A nj c, .slice AN q cN, .slice y.1 nl y.2] ⟨rev, jobs, nodes, leases⟩ ⟨aj, nj, cj, an, nn, cn, al, nl, cl⟩ y wr ∧ wr.ownsRow wx.heap.size 49 5 (.slice A nj c) nj (rowsV jobV (jobs.map (downJ 3))) ∧ wr.ownsRow wx.heap.size 54 3 (.slice AN q cN) q (rowsV nodeV ((nodes.take q).map (downN 3)))) (fun i _ => nn - (intOf i).toNat)
      case atStart => exact ⟨0, none, 0, Nat.zero_le _, rfl, Hl2.out, HOJ.out, World.ownsRow_nil _ _ _ _⟩
      case round =>
        clear Hl2 HOJ yb2 hDr hsr hbr
        obtain ⟨q, AN, cN, hq, rfl, hL, hoJ, ho⟩ := hrel
        have HL := Lib.hid hL
        have HOJ := Lib.hid hoJ
        have hDr := hL.new.lt
        have hsr := hL.size
        have hbr := hL.below.size
        have y2 : wr.cell? ⟨D, 2, none⟩ = some (.slice AN q cN) := hL.new.cell 2
        by_cases hltq : q < nn
        · obtain ⟨r, hf⟩ : ∃ r, nodes[q]? = some r := ⟨_, List.getElem?_eq_getElem (by have := HS.out.ln; dsimp only at this; omega)⟩
          obtain ⟨b, off, hao, hbB, hc⟩ := (HS.out.n.below hL.below).rec_ nodeV_len HS.out.ln hf
          dsimp only at hao
          subst hao
          have Hf := Lib.hid hf
          obtain ⟨name, room, zone⟩ := r
          have c0 : wr.cell? ⟨b, off + q * 3, none⟩ = some (.string name) := hc 0 _ rfl
          have c1 : wr.cell? ⟨b, off + q * 3 + 1, none⟩ = some (.int .i64 room) := hc 1 _ rfl
          have c2 : wr.cell? ⟨b, off + q * 3 + 2, none⟩ = some (.string zone) := hc 2 _ rfl
          have hlb : b < wr.heap.size := by omega
          have hA : Below wr.heap.size wr (wr.alloc (.cells #[.string name, .int .i64 room, .string zone] 54)) := (Below.refl _ _).alloc (Nat.le_refl _) _
          have hsA : (wr.alloc (.cells #[.string name, .int .i64 room, .string zone] 54)).heap.size = wr.heap.size + 1 := by simp
          have HL2 := Lib.hid (hL.kept hA)
          have HO2 := Lib.hid (ownU_below ho hA)
          have HJ2 := Lib.hid (ownU_below hoJ hA)
          have Hu := Lib.hid (show downN 3 ⟨name, room, zone⟩ = ⟨name, room, zone⟩ from rfl)
          have hbrW : wx.heap.size ≤ (wr.alloc (.cells #[.string name, .int .i64 room, .string zone] 54)).heap.size := by omega
          clear hc hf hA hL ho hoJ
          go_wp2_with (at_builtin; refine push_rec nodeV rfl _ _ 23 54 (.agg #[.string ⟨#[]⟩, .int .i64 0, .string ⟨#[]⟩]) 3 40 rfl Tryd.underlying23 infoNodeT rfl (by decide) nodeV_len nodeV_oneT wx.heap.size _ _ _ _ rfl HO2.out _ ⟨name, room, zone⟩ rfl _ (by simp) rfl (by omega) (by unfold maxLen; omega) hbrW ?_; intro A2 c2 w4 ho4 hg4; have HL4 := HL2.out.grew hg4 HO2.out (by decide) hbW; have hJ4 := own_grewOther HJ2.out hg4 HO2.out (by decide); have d1 : w4.cell? ⟨D, 2, none⟩ = some (.slice AN q cN) := HL4.new.cell 2; have z1 : w4.frozen? ⟨D, 2, none⟩ = false := HL4.new.thaw 2; have hd4 := HL4.new.lt)
          go_roundw
          case rel => exact ⟨q + 1, A2, c2, by omega, by go_num, HL4.set rfl, own_setOther hJ4 HL4.new (by decide), by rw [map_take_succ _ Hf.out, Hu.out]; exact own_setOther ho4 HL4.new (by decide)⟩
          case measure => simp [intOf]; omega
        · obtain rfl : nn = q := by omega
          have htk : nodes.take nn = nodes := List.take_of_length_le (by have := HS.out.ln; dsimp only at this; omega)
          rw [htk] at ho
          have hne := hL.at_
          have hO : StOwn wr (w.heap.size + 2) ⟨rev, jobs.map (downJ 3), nodes.map (downN 3), leases⟩ ⟨A, nj, c, AN, nn, cN, y.1, nl, y.2⟩ := ⟨ownT_base hoJ (by omega), ownT_base ho (by omega), hL.l, by rw [List.length_map]; exact hnj, by rw [List.length_map]; exact hnn, HS.out.ll⟩
          have H1 : RdEnd w (w.heap.size + 2) D ⟨rev, jobs, nodes, leases⟩ ⟨rev, jobs.map (downJ 3), nodes.map (downN 3), leases⟩ (upSt ⟨rev, jobs.map (downJ 3), nodes.map (downN 3), leases⟩ 3 3) ⟨aj, nj, cj, an, nn, cn, al, nl, cl⟩ ⟨A, nj, c, AN, nn, cN, y.1, nl, y.2⟩ nilA 0 wr.drew := ⟨hL.below.drew, hL.box, hL.new, hL.res, hO.kept (Below.refl _ _).drew, fun h => absurd h (by omega), Nat.le_refl _, hne.1⟩
          clear hL ho hoJ HL HOJ htk hO y2
          go_wp2_with fail
          refine wp_region_phasesG (n := 74) (by kernel_rfl) (fun γ => rdnV #[.int .i64 rev, .slice A nj c, .slice AN nn cN, .slice y.1 nl y.2] (upSt ⟨rev, jobs.map (downJ 3), nodes.map (downN 3), leases⟩ 3 3) ⟨rev, jobs, nodes, leases⟩ ⟨aj, nj, cj, an, nn, cn, al, nl, cl⟩ γ 3 (eqS (upSt ⟨rev, jobs.map (downJ 3), nodes.map (downN 3), leases⟩ 3 3) ⟨rev, jobs, nodes, leases⟩)) [3, 5, 6] (fun p γ w' => RdEnd w (w.heap.size + 2) D ⟨rev, jobs, nodes, leases⟩ ⟨rev, jobs.map (downJ 3), nodes.map (downN 3), leases⟩ (upSt ⟨rev, jobs.map (downJ 3), nodes.map (downN 3), leases⟩ 3 3) ⟨aj, nj, cj, an, nn, cn, al, nl, cl⟩ ⟨A, nj, c, AN, nn, cN, y.1, nl, y.2⟩ γ p w') nilA (by decide +kernel) (by decide +kernel) rfl H1 ?_ ?_
          · refine ⟨?_, ?_, ?_, ?_, ?_, ?_, ?_, ?_, ?_, trivial⟩
            · refine ⟨rfl, .inr ⟨by decide, 0, 3, by decide +kernel, by decide +kernel, fun p γ a wz hpl hk0 hp hk => ?_⟩⟩
              have h1 := hk.1 8 _ rfl (by decide +kernel)
              have c0 : wz.cell? ⟨D, 0, none⟩ = some (.int .i64 rev) := hp.new.cell 0
              have c1 : wz.cell? ⟨D, 1, none⟩ = some (.slice A nj c) := hp.new.cell 1
              have c2 : wz.cell? ⟨D, 2, none⟩ = some (.slice AN nn cN) := hp.new.cell 2
              have c3 : wz.cell? ⟨D, 3, none⟩ = some (.slice y.1 nl y.2) := hp.new.cell 3
              simp [go_sem, Oper.wp, execOp, Act.eval, h1, h7, c0, c1, c2, c3]
              first | exact ⟨_, rfl, γ, (fun _ _ _ h => h), rfl, hp⟩ | exact ⟨_, γ, rfl, (fun _ _ _ h => h), rfl, hp⟩
            · refine ⟨rfl, .inr ⟨by decide, 0, 3, by decide +kernel, by decide +kernel, fun p γ a wz hpl hk0 hp hk => ?_⟩⟩
              have h1 := hk.1 8 _ rfl (by decide +kernel)
              have c0 : wz.cell? ⟨D, 0, none⟩ = some (.int .i64 rev) := hp.new.cell 0
              have c1 : wz.cell? ⟨D, 1, none⟩ = some (.slice A nj c) := hp.new.cell 1
              have c2 : wz.cell? ⟨D, 2, none⟩ = some (.slice AN nn cN) := hp.new.cell 2
              have c3 : wz.cell? ⟨D, 3, none⟩ = some (.slice y.1 nl y.2) := hp.new.cell 3
              simp [go_sem, Oper.wp, execOp, Act.eval, h1, h7, c0, c1, c2, c3]
              first | exact ⟨_, rfl, γ, (fun _ _ _ h => h), rfl, hp⟩ | exact ⟨_, γ, rfl, (fun _ _ _ h => h), rfl, hp⟩
            · refine ⟨rfl, .inr ⟨by decide, 0, 3, by decide +kernel, by decide +kernel, fun p γ a wz hpl hk0 hp hk => ?_⟩⟩
              have h1 := hk.1 1 _ rfl (by decide +kernel)
              simp [go_sem, Oper.wp, execOp, Act.eval, h1]
              first | exact ⟨_, rfl, γ, (fun _ _ _ h => h), rfl, hp⟩ | exact ⟨_, γ, rfl, (fun _ _ _ h => h), rfl, hp⟩
            · refine ⟨rfl, .inl ⟨0, rfl, fun γ a wz hp hk => ?_⟩⟩
              obtain ⟨u1, hu1, ru1⟩ := hk.2.1 1 _ 69 rfl rfl (by decide +kernel)
              replace ru1 : u1 = _ := ru1
              subst ru1
              obtain ⟨u2, hu2, ru2⟩ := hk.2.1 2 _ 70 rfl rfl (by decide +kernel)
              replace ru2 : u2 = _ := ru2
              subst ru2
              simp [go_sem, Oper.wp, execOp, Act.eval, hu1, hu2]
              have hOk := downSt_ok (c := 3) HS.out.oj HS.out.on_
              refine (rup_any ⟨rev, jobs.map (downJ 3), nodes.map (downN 3), leases⟩ ⟨A, nj, c, AN, nn, cN, y.1, nl, y.2⟩ 3 3 wz (hp.ownd.at_ (by dsimp only; omega) (by dsimp only; omega) (by dsimp only; omega) hOk.1 hOk.2 HS.out.ol) (by dsimp only; omega) (by dsimp only; omega) (by dsimp only; omega) (by decide) (by decide) (by decide)).mono ?_
              rintro e w' ⟨x', rfl, e1, e2, e3, hO, hb⟩
              have hbz := hp.below.size
              have hk' := (hp.kept hb).up hO (by have := hp.res.lt; omega) e1 e2 e3
              first | exact ⟨_, rfl, x', rdnV_3, rfl, hk'⟩ | exact ⟨_, x', rfl, rdnV_3, rfl, hk'⟩
            · refine ⟨rfl, .inr ⟨by decide, 0, 3, by decide +kernel, by decide +kernel, fun p γ a wz hpl hk0 hp hk => ?_⟩⟩
              have h1 := hk.1 2 _ rfl (by decide +kernel)
              have c0 : wz.cell? ⟨w.heap.size, 0, none⟩ = some (.int .i64 rev) := hp.box.cell 0
              have c1 : wz.cell? ⟨w.heap.size, 1, none⟩ = some (.slice aj nj cj) := hp.box.cell 1
              have c2 : wz.cell? ⟨w.heap.size, 2, none⟩ = some (.slice an nn cn) := hp.box.cell 2
              have c3 : wz.cell? ⟨w.heap.size, 3, none⟩ = some (.slice al nl cl) := hp.box.cell 3
              simp [go_sem, Oper.wp, execOp, Act.eval, h1, c0, c1, c2, c3]
              first | exact ⟨_, rfl, γ, (fun _ _ _ h => h), rfl, hp⟩ | exact ⟨_, γ, rfl, (fun _ _ _ h => h), rfl, hp⟩
            · refine ⟨rfl, .inl ⟨1, rfl, fun γ a wz hp hk => ?_⟩⟩
              obtain ⟨u1, hu1, ru1⟩ := hk.2.1 3 _ 71 rfl rfl (by decide +kernel)
              replace ru1 : u1 = _ := ru1
              subst ru1
              obtain ⟨u2, hu2, ru2⟩ := hk.2.1 4 _ 72 rfl rfl (by decide +kernel)
              replace ru2 : u2 = _ := ru2
              subst ru2
              simp [go_sem, Oper.wp, execOp, Act.eval, hu1, hu2]
              obtain ⟨bu, hbu, hU, n1, n2, n3⟩ := hp.ownu (Nat.le_refl _)
              dsimp only at n1 n2 n3
              have hOk := downSt_ok (c := 3) HS.out.oj HS.out.on_
              have hOk2 := upSt_ok (st := ⟨rev, jobs.map (downJ 3), nodes.map (downN 3), leases⟩) (a := 3) (b := 3) hOk.1 hOk.2
              refine (same_any (upSt ⟨rev, jobs.map (downJ 3), nodes.map (downN 3), leases⟩ 3 3) ⟨rev, jobs, nodes, leases⟩ γ ⟨aj, nj, cj, an, nn, cn, al, nl, cl⟩ wz (hU.at_ (by omega) (by omega) (by omega) hOk2.1 hOk2.2.1 (by rw [hOk2.2.2]; exact HS.out.ol)) (HS.out.up hp.below)).mono ?_
              rintro e w' ⟨t, rfl, ht, hb⟩
              have hk' := (hp.kept hb).next
              rw [show t = eqS (upSt ⟨rev, jobs.map (downJ 3), nodes.map (downN 3), leases⟩ 3 3) ⟨rev, jobs, nodes, leases⟩ from eqS_of ht]
              first | exact ⟨_, rfl, γ, (fun _ _ _ h => h), rfl, hk'⟩ | exact ⟨_, γ, rfl, (fun _ _ _ h => h), rfl, hk'⟩
            · refine ⟨rfl, .inl ⟨2, rfl, fun γ a wz hp hk => ?_⟩⟩
              obtain ⟨u1, hu1, ru1⟩ := hk.2.1 0 _ 68 rfl rfl (by decide +kernel)
              replace ru1 : u1 = _ := ru1
              subst ru1
              have h1 := hk.1 4 _ rfl (by decide +kernel)
              have hR : Blk wz (w.heap.size + 1) 26 #[.int .i64 0, .slice none 0 0, .slice none 0 0, .slice none 0 0] := hp.res
              have z0 : wz.frozen? ⟨w.heap.size + 1, 0, none⟩ = false := hR.thaw 0
              have s0 : wz.cell? ⟨w.heap.size + 1, 0, none⟩ = some (.int .i64 0) := hR.cell 0
              have z1 : wz.frozen? ⟨w.heap.size + 1, 1, none⟩ = false := hR.thaw 1
              have s1 : wz.cell? ⟨w.heap.size + 1, 1, none⟩ = some (.slice none 0 0) := hR.cell 1
              have z2 : wz.frozen? ⟨w.heap.size + 1, 2, none⟩ = false := hR.thaw 2
              have s2 : wz.cell? ⟨w.heap.size + 1, 2, none⟩ = some (.slice none 0 0) := hR.cell 2
              have z3 : wz.frozen? ⟨w.heap.size + 1, 3, none⟩ = false := hR.thaw 3
              have s3 : wz.cell? ⟨w.heap.size + 1, 3, none⟩ = some (.slice none 0 0) := hR.cell 3
              have hrl := hR.lt
              have hfin := hp.store
              clear hp hR
              simp [go_sem, Oper.wp, execOp, Act.eval, hu1, h1, s0, s1, s2, s3, z0, z1, z2, z3]
              first | exact ⟨.int .i64 0, γ, (fun _ _ _ h => h), trivial, hfin⟩ | exact ⟨γ, (fun _ _ _ h => h), ⟨.int .i64 0, trivial⟩, hfin⟩ | exact ⟨_, rfl, γ, (fun _ _ _ h => h), trivial, hfin⟩
            · refine ⟨rfl, .inr ⟨by decide, 0, 3, by decide +kernel, by decide +kernel, fun p γ a wz hpl hk0 hp hk => ?_⟩⟩
              obtain ⟨u1, hu1, ru1⟩ := hk.2.1 5 _ 73 rfl rfl (by decide +kernel)
              replace ru1 : u1 = _ := ru1
              subst ru1
              simp [go_sem, Oper.wp, execOp, Act.eval, hu1]
              first | exact ⟨_, rfl, γ, (fun _ _ _ h => h), rfl, hp⟩ | exact ⟨_, γ, rfl, (fun _ _ _ h => h), rfl, hp⟩
            · refine ⟨rfl, .inr ⟨by decide, 0, 3, by decide +kernel, by decide +kernel, fun p γ a wz hpl hk0 hp hk => ?_⟩⟩
              simp [go_sem, Oper.wp, execOp, Act.eval]
              first | exact ⟨_, rfl, γ, (fun _ _ _ h => h), rfl, hp⟩ | exact ⟨_, γ, rfl, (fun _ _ _ h => h), rfl, hp⟩
          intro γ act wz hd
          have hp := hd.ph
          obtain ⟨fv2, rfl, hfv⟩ := hd.frame [68, 69, 70, 71, 72, 73, 5, 6] rfl
          have h5 : fv2 5 = .bool (eqS (upSt ⟨rev, jobs.map (downJ 3), nodes.map (downN 3), leases⟩ 3 3) ⟨rev, jobs, nodes, leases⟩) := hfv 7 _ 5 rfl rfl
          have h6 : fv2 6 = .int .i64 0 := hfv 8 _ 6 rfl rfl
          have hR : Blk wz (w.heap.size + 1) 26 #[.int .i64 rev, .slice A nj c, .slice AN nn cN, .slice y.1 nl y.2] := hp.res
          have r0 : wz.cell? ⟨w.heap.size + 1, 0, none⟩ = some (.int .i64 rev) := hR.cell 0
          have r1 : wz.cell? ⟨w.heap.size + 1, 1, none⟩ = some (.slice A nj c) := hR.cell 1
          have r2 : wz.cell? ⟨w.heap.size + 1, 2, none⟩ = some (.slice AN nn cN) := hR.cell 2
          have r3 : wz.cell? ⟨w.heap.size + 1, 3, none⟩ = some (.slice y.1 nl y.2) := hR.cell 3
          have hOk := downSt_ok (c := 3) HS.out.oj HS.out.on_
          have hAt := hp.ownd.at_ (by dsimp only; omega) (by dsimp only; omega) (by dsimp only; omega) hOk.1 hOk.2 HS.out.ol
          have Hend := Lib.hid (show DnPost ⟨rev, jobs, nodes, leases⟩ 3 w (.returned (.tuple #[.agg #[.int .i64 rev, .slice A nj c, .slice AN nn cN, .slice y.1 nl y.2], .bool (eqS (upSt ⟨rev, jobs.map (downJ 3), nodes.map (downN 3), leases⟩ 3 3) ⟨rev, jobs, nodes, leases⟩), .int .i64 0])) wz from ⟨_, _, _, 0, rfl, by rw [Hev.out, Hkb.out, Hdn.out], hAt, hp.below⟩)
          clear hd hp hfv hR hOk hAt H1
          simp [Exit.then, h5, h6]
          go_wp2
          refine bodyPost_ret (v := .tuple #[.agg #[.int .i64 rev, .slice A nj c, .slice AN nn cN, .slice y.1 nl y.2], .bool (eqS (upSt ⟨rev, jobs.map (downJ 3), nodes.map (downN 3), leases⟩ 3 3) ⟨rev, jobs, nodes, leases⟩), .int .i64 0]) (by simp [results, Tryd.results13, go_sem, *]) rfl ?_
          exact Hend.out
end Go.Proofs.YtbbagnfmoecdfaaDoor
