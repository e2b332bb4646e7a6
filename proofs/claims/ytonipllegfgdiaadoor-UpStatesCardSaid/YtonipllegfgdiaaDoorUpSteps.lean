/- The walks of up.steps, up.isWay and up.State. -/
import Derived.Test.YtonipllegfgdiaaDoorUpStep
import Derived.Test.YtonipllegfgdiaaDoorFits
import Derived.Test.YtonipllegfgdiaaDoorSameR
set_option linter.unusedVariables false
set_option linter.unusedSimpArgs false
namespace Go.Proofs.YtonipllegfgdiaaDoor
open Go.RowKit
def StepsPost (st' : StateD) (x : StA) (w : World) (e : Ending) (w' : World) : Prop :=
  ∃ x' : StA, e = .returned (.agg (stC st' x')) ∧ x'.nj = x.nj ∧ x'.nn = x.nn ∧ x'.nl = x.nl ∧ StOwn w' w.heap.size st' x' ∧ Below w.heap.size w w'
theorem StOwn.base {w : World} {base b : Nat} {st : StateD} {x : StA} (h : StOwn w base st x) (hb : b ≤ base) : StOwn w b st x :=
  ⟨ownT_base h.j hb, ownT_base h.n hb, ownT_base h.l hb, h.lj, h.ln, h.ll⟩
/-- A step, whichever. -/
theorem step_any (st : StateD) (x : StA) (a q : Int) (base : Nat) (w : World) (hO : StOwn w base (upSt st a q) x) (hbw : base ≤ w.heap.size) (h1 : x.nj ≤ 1000) (h2 : x.nn ≤ 1000) (h3 : x.nl ≤ 1000) (ha : 1 ≤ a) (hq : a ≤ q) (hq3 : q < 3) (htr : a < 2 → ∀ j ∈ st.jobs, j.tries = 0) :
    Calls Tryd.prog 115 #[.agg (stC (upSt st a q) x), .int .i64 (q + 1)] w (StepPost (upSt st a q) (upSt st a (q + 1)) x base w) := by
  have hs : stepSt (upSt st a q) (q + 1) = upSt st a (q + 1) := by
    have := upSt_step (st := st) (a := a) (v := q + 1) ha (by omega) (by omega)
    rwa [show q + 1 - 1 = q by omega] at this
  rw [← hs]
  rcases (show q = 1 ∨ q = 2 by omega) with rfl | rfl
  · obtain rfl : a = 1 := by omega
    exact step2_any _ x base w hO hbw h1 h2 h3 (by rw [upSt_self (by decide)]; exact htr (by decide))
  · exact step3_any _ x base w hO hbw h1 h2 h3
structure StepsAt (w0 wr : World) (st' : StateD) (x : StA) : Prop where
  below : Below w0.heap.size w0 wr
  box : Blk wr w0.heap.size 26 (stC st' x)
  res : Blk wr (w0.heap.size + 1) 26 #[.int .i64 0, .slice none 0 0, .slice none 0 0, .slice none 0 0]
  own : StOwn wr (w0.heap.size + 2) st' x
  big : w0.heap.size + 2 ≤ wr.heap.size
theorem StepsAt.setBox {w0 w : World} {st st' : StateD} {x x' : StA} (h : StepsAt w0 w st x) (hO : StOwn w (w0.heap.size + 2) st' x') :
    StepsAt w0 ((((w.setCell ⟨w0.heap.size, 0, none⟩ (.int .i64 st'.rev)).setCell ⟨w0.heap.size, 1, none⟩ (.slice x'.aj x'.nj x'.cj)).setCell ⟨w0.heap.size, 2, none⟩ (.slice x'.an x'.nn x'.cn)).setCell ⟨w0.heap.size, 3, none⟩ (.slice x'.al x'.nl x'.cl)) st' x' := by
  have hG := bes_set (bes_set (bes_set (bes_set (grow_refl w w0.heap.size) 0 (.int .i64 st'.rev)) 1 (.slice x'.aj x'.nj x'.cj)) 2 (.slice x'.an x'.nn x'.cn)) 3 (.slice x'.al x'.nl x'.cl)
  exact ⟨grow_keep h.below hG (Nat.le_refl _), Blk.eq ((((h.box.set 0 (.int .i64 st'.rev)).set 1 (.slice x'.aj x'.nj x'.cj)).set 2 (.slice x'.an x'.nn x'.cn)).set 3 (.slice x'.al x'.nl x'.cl)) rfl, grow_blk hG h.res (by omega), hO.grow hG (by omega), Nat.le_trans h.big hG.size⟩
set_option maxRecDepth 100000 in
set_option maxHeartbeats 4000000 in
theorem steps_any (st : StateD) (x : StA) (a b : Int) (w : World) (hS : StAt w w.heap.size st x) (h1 : x.nj ≤ 1000) (h2 : x.nn ≤ 1000) (h3 : x.nl ≤ 1000) (ha : 1 ≤ a) (hab : a ≤ b) (hb3 : b ≤ 3) (htr : a < 2 → ∀ j ∈ st.jobs, j.tries = 0) :
    Calls Tryd.prog 59 #[.agg (stC st x), .int .i64 a, .int .i64 b] w (StepsPost (upSt st a b) x w) := by
  have hb1 : Below w.heap.size w (w.alloc (.cells (stC st x) 26)) := (Below.refl _ _).alloc (Nat.le_refl _) _
  have hb2 := hb1.alloc hb1.size (.cells #[.int .i64 0, .slice none 0 0, .slice none 0 0, .slice none 0 0] 26)
  have hBS : Blk ((w.alloc (.cells (stC st x) 26)).alloc (.cells #[.int .i64 0, .slice none 0 0, .slice none 0 0, .slice none 0 0] 26)) w.heap.size 26 (stC st x) := Blk.alloc (show Blk _ _ _ _ from heap_alloc_new w _) _
  have hBR : Blk ((w.alloc (.cells (stC st x) 26)).alloc (.cells #[.int .i64 0, .slice none 0 0, .slice none 0 0, .slice none 0 0] 26)) (w.heap.size + 1) 26 #[.int .i64 0, .slice none 0 0, .slice none 0 0, .slice none 0 0] := by
    have h := heap_alloc_new (w.alloc (.cells (stC st x) 26)) (.cells #[.int .i64 0, .slice none 0 0, .slice none 0 0, .slice none 0 0] 26)
    rwa [show (w.alloc (.cells (stC st x) 26)).heap.size = w.heap.size + 1 by simp] at h
  have hsz : ((w.alloc (.cells (stC st x) 26)).alloc (.cells #[.int .i64 0, .slice none 0 0, .slice none 0 0, .slice none 0 0] 26)).heap.size = w.heap.size + 2 := by simp
  have HOwn := Lib.hid (uown_any st x _ (hS.up hb2) h1 h2 h3)
  have Hb2 := Lib.hid hb2
  have HBS := Lib.hid hBS
  have HBR := Lib.hid hBR
  have Htr := Lib.hid htr
  have Hself := Lib.hid (upSt_self (st := st) (a := a) (by omega))
  clear hb1 hb2 hS hBS hBR htr
  go_enter Tryd.func59, Tryd.ntmps59
  unfold stC at *
  go_wp2_with fail
  refine Calls.mono HOwn.out ?_
  rintro e w1 ⟨x', rfl, e1, e2, e3, hO, hb⟩
  rw [hsz] at hO
  have hB1 := HBS.out.below hb HBS.out.lt
  have hR1 := HBR.out.below hb HBR.out.lt
  have hS1 := hb.size
  rw [hsz] at hS1
  have hB1 := HBS.out.below hb HBS.out.lt
  have hR1 := HBR.out.below hb HBR.out.lt
  have hbl := hB1.lt
  obtain ⟨aj, nj, cj, an, nn, cn, al, nl, cl⟩ := x'
  dsimp only at e1 e2 e3
  rw [show stC st ⟨aj, nj, cj, an, nn, cn, al, nl, cl⟩ = #[.int .i64 st.rev, .slice aj nj cj, .slice an nn cn, .slice al nl cl] from rfl]
  have k1 : nj ≤ 1000 := by omega
  have k2 : nn ≤ 1000 := by omega
  have k3 : nl ≤ 1000 := by omega
  have E1 := Lib.hid e1
  have E2 := Lib.hid e2
  have E3 := Lib.hid e3
  clear e1 e2 e3
  have hO2 := hO.base (show w.heap.size + 2 ≤ w.heap.size + 2 + 2 by omega)
  have hG := bes_set (bes_set (bes_set (bes_set (grow_refl w1 w.heap.size) 0 (.int .i64 st.rev)) 1 (.slice aj nj cj)) 2 (.slice an nn cn)) 3 (.slice al nl cl)
  have H1 := Lib.hid (show StepsAt w ((((w1.setCell ⟨w.heap.size, 0, none⟩ (.int .i64 st.rev)).setCell ⟨w.heap.size, 1, none⟩ (.slice aj nj cj)).setCell ⟨w.heap.size, 2, none⟩ (.slice an nn cn)).setCell ⟨w.heap.size, 3, none⟩ (.slice al nl cl)) (upSt st a a) ⟨aj, nj, cj, an, nn, cn, al, nl, cl⟩ from by
    rw [Hself.out]
    exact ⟨grow_keep (Hb2.out.trans (hb.mono Hb2.out.size)) hG (Nat.le_refl _), Blk.eq ((((hB1.set 0 (.int .i64 st.rev)).set 1 (.slice aj nj cj)).set 2 (.slice an nn cn)).set 3 (.slice al nl cl)) rfl, grow_blk hG hR1 (by omega), hO2.grow hG (by omega), Nat.le_trans hS1 hG.size⟩)
  have c0 := hB1.cell 0
  have z0 := hB1.thaw 0
  have z1 := hB1.thaw 1
  have z2 := hB1.thaw 2
  have z3 := hB1.thaw 3
  have c0 : w1.cell? ⟨w.heap.size, 0, none⟩ = some (.int .i64 st.rev) := hB1.cell 0
  have c1 : w1.cell? ⟨w.heap.size, 1, none⟩ = some (.slice x.aj x.nj x.cj) := hB1.cell 1
  have c2 : w1.cell? ⟨w.heap.size, 2, none⟩ = some (.slice x.an x.nn x.cn) := hB1.cell 2
  have c3 : w1.cell? ⟨w.heap.size, 3, none⟩ = some (.slice x.al x.nl x.cl) := hB1.cell 3
  clear hb hO hO2 hG HOwn HBS HBR hB1 hR1 Hself
  go_wp2
  clear c0 c1 c2 c3 z0 z1 z2 z3
  go_loopw [7] (fun i wr => ∃ q : Int, a ≤ q ∧ q ≤ b ∧ i = .int .i64 (q + 1) ∧ StepsAt w wr (upSt st a q) ⟨aj, nj, cj, an, nn, cn, al, nl, cl⟩) (fun i _ => (b + 1 - intOf i).toNat)
  case atStart => exact ⟨a, by omega, hab, rfl, H1.out⟩
  case round =>
    clear H1 hbl hS1
    obtain ⟨q, hq1, hq2, rfl, hst⟩ := hrel
    have HS := Lib.hid hst
    obtain ⟨rev, hrev⟩ : ∃ r, (upSt st a q).rev = r := ⟨_, rfl⟩
    have hbl := hst.box.lt
    have y0 : wr.cell? ⟨w.heap.size, 0, none⟩ = some (.int .i64 rev) := by rw [← hrev]; exact hst.box.cell 0
    have y1 : wr.cell? ⟨w.heap.size, 1, none⟩ = some (.slice aj nj cj) := hst.box.cell 1
    have y2 : wr.cell? ⟨w.heap.size, 2, none⟩ = some (.slice an nn cn) := hst.box.cell 2
    have y3 : wr.cell? ⟨w.heap.size, 3, none⟩ = some (.slice al nl cl) := hst.box.cell 3
    by_cases hlt : q < b
    · have hC := step_any st ⟨aj, nj, cj, an, nn, cn, al, nl, cl⟩ a q (w.heap.size + 2) wr hst.own hst.big k1 k2 k3 ha hq1 (by omega) Htr.out
      rw [show stC (upSt st a q) ⟨aj, nj, cj, an, nn, cn, al, nl, cl⟩ = #[.int .i64 rev, .slice aj nj cj, .slice an nn cn, .slice al nl cl] from by rw [← hrev]; rfl] at hC
      have HC := Lib.hid hC
      have hle : decide (q + 1 ≤ b) = true := decide_eq_true (by omega)
      clear hst hC
      go_wp2_with fail
      refine Calls.mono HC.out ?_
      rintro e w2 ⟨rfl, hO, hb⟩
      have hs2 := hb.size
      have h2 : StepsAt w w2 (upSt st a q) ⟨aj, nj, cj, an, nn, cn, al, nl, cl⟩ ∨ True := .inr trivial
      have hbox := HS.out.box.below hb (by omega)
      have hres := HS.out.res.below hb (by omega)
      have hG2 := bes_set (bes_set (bes_set (bes_set (grow_refl w2 w.heap.size) 0 (.int .i64 (upSt st a (q + 1)).rev)) 1 (.slice aj nj cj)) 2 (.slice an nn cn)) 3 (.slice al nl cl)
      obtain ⟨rev2, hrev2⟩ : ∃ r, (upSt st a (q + 1)).rev = r := ⟨_, rfl⟩
      have H2 := Lib.hid (show StepsAt w ((((w2.setCell ⟨w.heap.size, 0, none⟩ (.int .i64 rev2)).setCell ⟨w.heap.size, 1, none⟩ (.slice aj nj cj)).setCell ⟨w.heap.size, 2, none⟩ (.slice an nn cn)).setCell ⟨w.heap.size, 3, none⟩ (.slice al nl cl)) (upSt st a (q + 1)) ⟨aj, nj, cj, an, nn, cn, al, nl, cl⟩ from by
        rw [← hrev2]
        exact ⟨grow_keep (HS.out.below.trans (hb.mono (by omega))) hG2 (Nat.le_refl _), Blk.eq ((((hbox.set 0 (.int .i64 (upSt st a (q + 1)).rev)).set 1 (.slice aj nj cj)).set 2 (.slice an nn cn)).set 3 (.slice al nl cl)) rfl, grow_blk hG2 hres (by omega), hO.grow hG2 (by omega), Nat.le_trans (Nat.le_trans HS.out.big hs2) hG2.size⟩)
      have hbl2 := hbox.lt
      have z0 := hbox.thaw 0
      have z1 := hbox.thaw 1
      have z2 := hbox.thaw 2
      have z3 := hbox.thaw 3
      have c0 : w2.cell? ⟨w.heap.size, 0, none⟩ = some (.int .i64 rev) := by rw [← hrev]; exact hbox.cell 0
      have c1 : w2.cell? ⟨w.heap.size, 1, none⟩ = some (.slice aj nj cj) := hbox.cell 1
      have c2 : w2.cell? ⟨w.heap.size, 2, none⟩ = some (.slice an nn cn) := hbox.cell 2
      have c3 : w2.cell? ⟨w.heap.size, 3, none⟩ = some (.slice al nl cl) := hbox.cell 3
      rw [show stC (upSt st a (q + 1)) ⟨aj, nj, cj, an, nn, cn, al, nl, cl⟩ = #[.int .i64 rev2, .slice aj nj cj, .slice an nn cn, .slice al nl cl] from by rw [← hrev2]; rfl]
      clear hb hO hG2 hbox hres HS HC y0 y1 y2 y3 hrev hrev2 h2
      go_wp2
      go_roundw
      case rel => exact ⟨q + 1, by omega, by omega, by first | rfl | go_num, H2.out⟩
      case measure => simp [intOf]; omega
    · obtain rfl : q = b := by omega
      have hle : decide (q + 1 ≤ q) = false := decide_eq_false (by omega)
      have hR := HS.out.res
      have hrl := hR.lt
      have u0 : wr.frozen? ⟨w.heap.size + 1, 0, none⟩ = false := hR.thaw 0
      have s0 : wr.cell? ⟨w.heap.size + 1, 0, none⟩ = some (.int .i64 0) := hR.cell 0
      have u1 : wr.frozen? ⟨w.heap.size + 1, 1, none⟩ = false := hR.thaw 1
      have s1 : wr.cell? ⟨w.heap.size + 1, 1, none⟩ = some (.slice none 0 0) := hR.cell 1
      have u2 : wr.frozen? ⟨w.heap.size + 1, 2, none⟩ = false := hR.thaw 2
      have s2 : wr.cell? ⟨w.heap.size + 1, 2, none⟩ = some (.slice none 0 0) := hR.cell 2
      have u3 : wr.frozen? ⟨w.heap.size + 1, 3, none⟩ = false := hR.thaw 3
      have s3 : wr.cell? ⟨w.heap.size + 1, 3, none⟩ = some (.slice none 0 0) := hR.cell 3
      have hR4 := (Blk.eq ((Blk.eq ((Blk.eq ((Blk.eq (hR.set 0 (.int .i64 rev)) (show _ = #[.int .i64 rev, .slice none 0 0, .slice none 0 0, .slice none 0 0] from rfl)).set 1 (.slice aj nj cj)) (show _ = #[.int .i64 rev, .slice aj nj cj, .slice none 0 0, .slice none 0 0] from rfl)).set 2 (.slice an nn cn)) (show _ = #[.int .i64 rev, .slice aj nj cj, .slice an nn cn, .slice none 0 0] from rfl)).set 3 (.slice al nl cl)) (show _ = #[.int .i64 rev, .slice aj nj cj, .slice an nn cn, .slice al nl cl] from rfl))
      have q0 := (show _ = (some (.int .i64 rev) : Option Value) from hR4.cell 0)
      have q1 := (show _ = (some (.slice aj nj cj) : Option Value) from hR4.cell 1)
      have q2 := (show _ = (some (.slice an nn cn) : Option Value) from hR4.cell 2)
      have q3 := (show _ = (some (.slice al nl cl) : Option Value) from hR4.cell 3)
      have hG4 := (bes_set (bes_set (bes_set (bes_set (grow_refl wr (w.heap.size + 1)) 0 (.int .i64 rev)) 1 (.slice aj nj cj)) 2 (.slice an nn cn)) 3 (.slice al nl cl))
      have Hend := Lib.hid (show StepsPost (upSt st a q) x w (.returned (.agg #[.int .i64 rev, .slice aj nj cj, .slice an nn cn, .slice al nl cl])) _ from ⟨⟨aj, nj, cj, an, nn, cn, al, nl, cl⟩, by rw [← hrev]; rfl, E1.out, E2.out, E3.out, (HS.out.own.grow hG4 (by omega)).base (by omega), grow_keep HS.out.below hG4 (by omega)⟩)
      clear hR hR4 hG4 hst HS hrev
      go_wp2
      refine bodyPost_ret (v := .agg #[.int .i64 rev, .slice aj nj cj, .slice an nn cn, .slice al nl cl]) (by simp [results, Tryd.results59, go_sem, *]) rfl ?_
      exact Hend.out
set_option maxRecDepth 100000 in
theorem isway_any (a b : Int) (w : World) : Calls Tryd.prog 58 #[.int .i64 a, .int .i64 b] w fun e w' => e = .returned (.bool (isWayB a b)) ∧ w = w' := by
  unfold isWayB
  generalize h1 : decide (1 ≤ a) = p1
  generalize h2 : decide (a ≤ b) = p2
  generalize h3 : decide (b ≤ 3) = p3
  cases p1 <;> cases p2 <;> cases p3 <;> (
    go_enter Tryd.func58, Tryd.ntmps58
    go_wp2
    go_ret
    exact ⟨rfl, rfl⟩)
end Go.Proofs.YtonipllegfgdiaaDoor
