/- Eq of the reference at strings; DeltaEq of one delta in two places. -/
import Derived.Test.YtonipllegfgdiaaDoorEqRows
import Derived.Test.YtonipllegfgdiaaDoorDChk
import Derived.Test.YtonipllegfgdiaaDoorSameR
set_option linter.unusedVariables false
set_option linter.unusedSimpArgs false
namespace Go.Proofs.YtonipllegfgdiaaDoor
open Go.RowKit
theorem beq_sameE (s : ByteArray) : (s.toList == s.toList) = true := beq_iff_eq.2 rfl
theorem beq_diffE {s t : ByteArray} (h : s ≠ t) : (s.toList == t.toList) = false := by
  rw [beq_eq_false_iff_ne]; exact fun e => h (bytes_ext e)
set_option maxRecDepth 100000 in
set_option maxHeartbeats 2000000 in
theorem eq_str (xs ys : List ByteArray) (A A' : Option Addr) (n m c c' : Nat) (w : World) (hx : SlAt w w.heap.size 1 A n (rowsV strV xs)) (hy : SlAt w w.heap.size 1 A' m (rowsV strV ys)) (lx : xs.length = n) (ly : ys.length = m) (hn : n ≤ 9223372036854775807) (hm : m ≤ 9223372036854775807) :
    Calls Tryd.prog 66 #[.slice A n c, .slice A' m c'] w (EqPost xs ys w) := by
  by_cases h : n = m
  · subst h
    have h0 : ((n : Int) != n) = false := by simp
    have Lx := Lib.hid lx
    have Ly := Lib.hid ly
    clear lx ly
    go_enter Tryd.func66, Tryd.ntmps66
    go_wp2
    go_loopw [5, 6, 14] (fun _ _ i wr => EqInv xs ys n w i wr) (fun _ _ i _ => n - (intOf i).toNat)
    case atStart => exact ⟨0, Nat.zero_le _, rfl, rfl, Below.refl _ _⟩
    case round =>
      obtain ⟨k, hk, rfl, he, hb⟩ := hrel
      have He := Lib.hid he
      clear he
      by_cases hlt : k < n
      · obtain ⟨x, hxk⟩ : ∃ x, xs[k]? = some x := ⟨_, List.getElem?_eq_getElem (by rw [Lx.out]; exact hlt)⟩
        obtain ⟨y, hyk⟩ : ∃ y, ys[k]? = some y := ⟨_, List.getElem?_eq_getElem (by rw [Ly.out]; exact hlt)⟩
        obtain ⟨b, off, rfl, hbB, hc⟩ := (hx.below hb).rec_ strV_len Lx.out hxk
        obtain ⟨b', off', rfl, hbB', hc'⟩ := (hy.below hb).rec_ strV_len Ly.out hyk
        have c0 : wr.cell? ⟨b, off + k, none⟩ = some (.string x) := by have := hc 0 _ rfl; simpa using this
        have d0 : wr.cell? ⟨b', off' + k, none⟩ = some (.string y) := by have := hc' 0 _ rfl; simpa using this
        have hsz := hb.size
        have Hb := Lib.hid hb
        have step := Lib.hid (fun (h : x = y) => take_eq_stepE (hxk.trans (congrArg some h)) hyk He.out)
        have stop := Lib.hid (fun (h : x ≠ y) => ne_of_atE hxk hyk h)
        clear hc hc' hx hy hxk hyk hb
        by_cases hxy : x = y
        · have step2 := Lib.hid (step.out hxy)
          subst hxy
          clear stop step
          go_wp2
          go_roundw
          case rel => exact ⟨k + 1, by omega, by go_num, step2.out, Hb.out⟩
          case measure => simp [intOf]; omega
        · have stop2 := Lib.hid (stop.out hxy)
          have e1 := beq_diffE hxy
          have e2 : (x.toList != y.toList) = true := by unfold bne; rw [e1]; rfl
          clear stop step hxy
          go_wp2
          go_ret
          exact ⟨false, rfl, ⟨fun h => (by cases h), fun h => absurd h stop2.out⟩, Hb.out⟩
      · have fin := Lib.hid hb
        have same := Lib.hid (show xs = ys by
          have e := He.out
          rwa [List.take_of_length_le (by rw [Lx.out]; omega), List.take_of_length_le (by rw [Ly.out]; omega)] at e)
        clear hb hx hy
        go_wp2
        go_ret
        exact ⟨true, rfl, ⟨fun _ => same.out, fun _ => rfl⟩, fin.out⟩
  · have h0 : ((n : Int) != m) = true := by simp; omega
    have fin := Lib.hid (show xs ≠ ys by rintro rfl; omega)
    clear lx ly hx hy
    go_enter Tryd.func66, Tryd.ntmps66
    go_wp2
    go_ret
    exact ⟨false, rfl, ⟨fun h => (by cases h), fun h => absurd h fin.out⟩, Below.refl _ _⟩
theorem EqPost.same {α : Type} {xs : List α} {w w' : World} {e : Ending} (h : EqPost xs xs w e w') : e = .returned (.bool true) ∧ Below w.heap.size w w' := by
  obtain ⟨t, rfl, ht, hb⟩ := h
  exact ⟨by rw [ht.2 rfl], hb⟩
set_option maxRecDepth 100000 in
set_option maxHeartbeats 4000000 in
theorem deq_same (d : DeltaD) (x x' : DelA) (w : World) (hS : DelAt w w.heap.size d x) (hS' : DelAt w w.heap.size d x') :
    Calls Tryd.prog 26 #[.agg (dC d x), .agg (dC d x')] w fun e w' => e = .returned (.bool true) ∧ Below w.heap.size w w' := by
  have hb1 : Below w.heap.size w (w.alloc (.cells (dC d x) 40)) := (Below.refl _ _).alloc (Nat.le_refl _) _
  have hb2 := hb1.alloc hb1.size (.cells (dC d x') 40)
  have HA := Lib.hid (show Blk ((w.alloc (.cells (dC d x) 40)).alloc (.cells (dC d x') 40)) w.heap.size 40 (dC d x) from Blk.alloc (show Blk _ _ _ _ from heap_alloc_new w _) _)
  have HB := Lib.hid (show Blk ((w.alloc (.cells (dC d x) 40)).alloc (.cells (dC d x') 40)) (w.heap.size + 1) 40 (dC d x') from by
    have h := heap_alloc_new (w.alloc (.cells (dC d x) 40)) (.cells (dC d x') 40)
    rwa [show (w.alloc (.cells (dC d x) 40)).heap.size = w.heap.size + 1 by simp] at h)
  have B0 := Lib.hid hb2
  have HS := Lib.hid hS
  have HS' := Lib.hid hS'
  clear hb1 hb2 hS hS'
  obtain ⟨from_, to_, jobs, nodes, leases, gj, gn, gl⟩ := d
  obtain ⟨aj, nj, cj, an, nn, cn, al, nl, cl, agj, ngj, cgj, agn, ngn, cgn, agl, ngl, cgl⟩ := x
  obtain ⟨aj', nj', cj', an', nn', cn', al', nl', cl', agj', ngj', cgj', agn', ngn', cgn', agl', ngl', cgl'⟩ := x'
  unfold dC at *
  dsimp only at *
  have C0 := Lib.hid (fun W (hb : Below w.heap.size w W) => eq_job jobs jobs aj aj' nj nj' cj cj' W (HS.out.j.up hb) (HS'.out.j.up hb) HS.out.lj HS'.out.lj HS.out.bj HS'.out.bj)
  have C1 := Lib.hid (fun W (hb : Below w.heap.size w W) => eq_node nodes nodes an an' nn nn' cn cn' W (HS.out.n.up hb) (HS'.out.n.up hb) HS.out.ln HS'.out.ln HS.out.bn HS'.out.bn)
  have C2 := Lib.hid (fun W (hb : Below w.heap.size w W) => eq_lease leases leases al al' nl nl' cl cl' W (HS.out.l.up hb) (HS'.out.l.up hb) HS.out.ll HS'.out.ll HS.out.bl HS'.out.bl)
  have C3 := Lib.hid (fun W (hb : Below w.heap.size w W) => eq_str gj gj agj agj' ngj ngj' cgj cgj' W (HS.out.gj.up hb) (HS'.out.gj.up hb) HS.out.lgj HS'.out.lgj HS.out.bgj HS'.out.bgj)
  have C4 := Lib.hid (fun W (hb : Below w.heap.size w W) => eq_str gn gn agn agn' ngn ngn' cgn cgn' W (HS.out.gn.up hb) (HS'.out.gn.up hb) HS.out.lgn HS'.out.lgn HS.out.bgn HS'.out.bgn)
  have C5 := Lib.hid (fun W (hb : Below w.heap.size w W) => eq_str gl gl agl agl' ngl ngl' cgl cgl' W (HS.out.gl.up hb) (HS'.out.gl.up hb) HS.out.lgl HS'.out.lgl HS.out.bgl HS'.out.bgl)
  clear HS HS'
  have e1 : (from_ == from_) = true := beq_self_eq_true _
  have e2 : (to_ == to_) = true := beq_self_eq_true _
  go_enter Tryd.func26, Tryd.ntmps26
  go_wp2_with fail
  refine Calls.mono (C0.out _ B0.out) ?_
  intro e w1 hp
  obtain ⟨rfl, hb⟩ := hp.same
  have B1 := Lib.hid (B0.out.trans (hb.mono B0.out.size))
  have HA1 := Lib.hid (HA.out.below hb HA.out.lt)
  have HB1 := Lib.hid (HB.out.below hb HB.out.lt)
  have y0 : w1.cell? ⟨w.heap.size, 3, none⟩ = some (.slice an nn cn) := HA1.out.cell 3
  have z0 : w1.cell? ⟨w.heap.size + 1, 3, none⟩ = some (.slice an' nn' cn') := HB1.out.cell 3
  clear hp hb C0 B0 HA HB
  go_wp2_with fail
  refine Calls.mono (C1.out _ B1.out) ?_
  intro e w2 hp
  obtain ⟨rfl, hb⟩ := hp.same
  have B2 := Lib.hid (B1.out.trans (hb.mono B1.out.size))
  have HA2 := Lib.hid (HA1.out.below hb HA1.out.lt)
  have HB2 := Lib.hid (HB1.out.below hb HB1.out.lt)
  have y1 : w2.cell? ⟨w.heap.size, 4, none⟩ = some (.slice al nl cl) := HA2.out.cell 4
  have z1 : w2.cell? ⟨w.heap.size + 1, 4, none⟩ = some (.slice al' nl' cl') := HB2.out.cell 4
  clear hp hb C1 B1 HA1 HB1 y0 z0
  go_wp2_with fail
  refine Calls.mono (C2.out _ B2.out) ?_
  intro e w3 hp
  obtain ⟨rfl, hb⟩ := hp.same
  have B3 := Lib.hid (B2.out.trans (hb.mono B2.out.size))
  have HA3 := Lib.hid (HA2.out.below hb HA2.out.lt)
  have HB3 := Lib.hid (HB2.out.below hb HB2.out.lt)
  have y2 : w3.cell? ⟨w.heap.size, 5, none⟩ = some (.slice agj ngj cgj) := HA3.out.cell 5
  have z2 : w3.cell? ⟨w.heap.size + 1, 5, none⟩ = some (.slice agj' ngj' cgj') := HB3.out.cell 5
  clear hp hb C2 B2 HA2 HB2 y1 z1
  go_wp2_with fail
  refine Calls.mono (C3.out _ B3.out) ?_
  intro e w4 hp
  obtain ⟨rfl, hb⟩ := hp.same
  have B4 := Lib.hid (B3.out.trans (hb.mono B3.out.size))
  have HA4 := Lib.hid (HA3.out.below hb HA3.out.lt)
  have HB4 := Lib.hid (HB3.out.below hb HB3.out.lt)
  have y3 : w4.cell? ⟨w.heap.size, 6, none⟩ = some (.slice agn ngn cgn) := HA4.out.cell 6
  have z3 : w4.cell? ⟨w.heap.size + 1, 6, none⟩ = some (.slice agn' ngn' cgn') := HB4.out.cell 6
  clear hp hb C3 B3 HA3 HB3 y2 z2
  go_wp2_with fail
  refine Calls.mono (C4.out _ B4.out) ?_
  intro e w5 hp
  obtain ⟨rfl, hb⟩ := hp.same
  have B5 := Lib.hid (B4.out.trans (hb.mono B4.out.size))
  have HA5 := Lib.hid (HA4.out.below hb HA4.out.lt)
  have HB5 := Lib.hid (HB4.out.below hb HB4.out.lt)
  have y4 : w5.cell? ⟨w.heap.size, 7, none⟩ = some (.slice agl ngl cgl) := HA5.out.cell 7
  have z4 : w5.cell? ⟨w.heap.size + 1, 7, none⟩ = some (.slice agl' ngl' cgl') := HB5.out.cell 7
  clear hp hb C4 B4 HA4 HB4 y3 z3
  go_wp2_with fail
  refine Calls.mono (C5.out _ B5.out) ?_
  intro e w6 hp
  obtain ⟨rfl, hb⟩ := hp.same
  have B6 := Lib.hid (B5.out.trans (hb.mono B5.out.size))
  clear hp hb
  go_wp2
  go_ret
  exact ⟨rfl, B6.out⟩
end Go.Proofs.YtonipllegfgdiaaDoor
