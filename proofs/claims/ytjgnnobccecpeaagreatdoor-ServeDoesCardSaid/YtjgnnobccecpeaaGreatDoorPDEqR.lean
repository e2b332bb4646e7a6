/- Of the proof. -/
import Derived.Test.YtjgnnobccecpeaaGreatDoorPGrant
import Derived.Test.YtjgnnobccecpeaaGreatDoorPRcE
set_option linter.unusedVariables false
set_option linter.unusedSimpArgs false
set_option maxRecDepth 100000
set_option maxHeartbeats 8000000
namespace Go.Proofs.YtjgnnobccecpeaaGreatDoor
open Go.Lib (hid)
open Go.RowKit
def SamePost (st st' : StateD) (w : World) (e : Ending) (w' : World) : Prop := ∃ t : Bool, e = .returned (.bool t) ∧ (t = true ↔ st = st') ∧ Below w.heap.size w w'
theorem SamePost.no {st st' : StateD} {w w' : World} (h : st ≠ st') (hb : Below w.heap.size w w') : SamePost st st' w (.returned (.bool false)) w' := ⟨false, rfl, ⟨fun h => (by cases h), fun h' => absurd h' h⟩, hb⟩
theorem StAt.up {w w' : World} {st : StateD} {x : StA} (hS : StAt w w.heap.size st x) (hb : Below w.heap.size w w') : StAt w' w'.heap.size st x := (hS.below hb).more hb.size
theorem SlAt.up {w w' : World} {sz n : Nat} {A : Option Addr} {xs : List Value} (h : SlAt w w.heap.size sz A n xs) (hb : Below w.heap.size w w') : SlAt w' w'.heap.size sz A n xs := (h.below hb).more hb.size
theorem same_any (st st' : StateD) (x x' : StA) (w : World) (hS : StAt w w.heap.size st x) (hS' : StAt w w.heap.size st' x') :
 Calls Tryz.prog 13 #[.agg (stC st x), .agg (stC st' x')] w (SamePost st st' w) := by
 have hb1 : Below w.heap.size w (w.alloc (.cells (stC st x) 26)) := (Below.refl _ _).alloc (Nat.le_refl _) _
 have hb2 := hb1.alloc hb1.size (.cells (stC st' x') 26)
 have HA := hid (show Blk ((w.alloc (.cells (stC st x) 26)).alloc (.cells (stC st' x') 26)) w.heap.size 26 (stC st x) from Blk.alloc (show Blk _ _ _ _ from heap_alloc_new w _) _)
 have HB := hid (show Blk ((w.alloc (.cells (stC st x) 26)).alloc (.cells (stC st' x') 26)) (w.heap.size + 1) 26 (stC st' x') from by
  have h := heap_alloc_new (w.alloc (.cells (stC st x) 26)) (.cells (stC st' x') 26)
  rwa [show (w.alloc (.cells (stC st x) 26)).heap.size = w.heap.size + 1 by simp] at h)
 have Hb2 := hid hb2
 have HS := hid hS
 have HS' := hid hS'
 clear hb1 hb2 hS hS'
 obtain ⟨rev, jobs, nodes, leases⟩ := st
 obtain ⟨aj, nj, cj, an, nn, cn, al, nl, cl⟩ := x
 obtain ⟨rev', jobs', nodes', leases'⟩ := st'
 obtain ⟨aj', nj', cj', an', nn', cn', al', nl', cl'⟩ := x'
 unfold stC at *
 dsimp only at *
 by_cases hr : rev = rev'
 rotate_left
 · have e1 : (rev == rev') = false := beq_eq_false_iff_ne.2 hr
   have hend := hid (SamePost.no (st := ⟨rev, jobs, nodes, leases⟩) (st' := ⟨rev', jobs', nodes', leases'⟩) (fun h => hr (by injection h)) Hb2.out)
   clear hr
   go_enter Tryz.func13, Tryz.ntmps13
   go_wp2
   go_ret
   exact hend.out
 subst hr
 have C1 := hid (eq_job jobs jobs' aj aj' nj nj' cj cj' _ (HS.out.j.up Hb2.out) (HS'.out.j.up Hb2.out) HS.out.lj HS'.out.lj HS.out.bj HS'.out.bj)
 have C2 := hid (fun W (hb : Below w.heap.size w W) => eq_node nodes nodes' an an' nn nn' cn cn' W (HS.out.n.up hb) (HS'.out.n.up hb) HS.out.ln HS'.out.ln HS.out.bn HS'.out.bn)
 have C3 := hid (fun W (hb : Below w.heap.size w W) => eq_lease leases leases' al al' nl nl' cl cl' W (HS.out.l.up hb) (HS'.out.l.up hb) HS.out.ll HS'.out.ll HS.out.bl HS'.out.bl)
 go_enter Tryz.func13, Tryz.ntmps13
 go_wp2_with fail
 refine Calls.mono C1.out ?_
 rintro e w1 ⟨t, rfl, ht, hb⟩
 have hbA := Hb2.out.trans (hb.mono Hb2.out.size)
 cases t
 · have hend := hid (SamePost.no (st := ⟨rev, jobs, nodes, leases⟩) (st' := ⟨rev, jobs', nodes', leases'⟩) (fun h => absurd (ht.2 (by injection h)) (by decide)) hbA)
   clear ht hb hbA
   go_wp2
   go_ret
   exact hend.out
 have Hj := hid (ht.1 rfl)
 have HA1 := hid (HA.out.below hb HA.out.lt)
 have HB1 := hid (HB.out.below hb HB.out.lt)
 have HbA := hid hbA
 have y2 : w1.cell? ⟨w.heap.size, 2, none⟩ = some (.slice an nn cn) := HA1.out.cell 2
 have z2 : w1.cell? ⟨w.heap.size + 1, 2, none⟩ = some (.slice an' nn' cn') := HB1.out.cell 2
 clear ht hb hbA HA HB C1
 go_wp2_with fail
 refine Calls.mono (C2.out _ HbA.out) ?_
 rintro e w2 ⟨t, rfl, ht, hb⟩
 have hbA := HbA.out.trans (hb.mono HbA.out.size)
 cases t
 · have hend := hid (SamePost.no (st := ⟨rev, jobs, nodes, leases⟩) (st' := ⟨rev, jobs', nodes', leases'⟩) (fun h => absurd (ht.2 (by injection h)) (by decide)) hbA)
   clear ht hb hbA
   go_wp2
   go_ret
   exact hend.out
 have Hn := hid (ht.1 rfl)
 have HA2 := hid (HA1.out.below hb HA1.out.lt)
 have HB2 := hid (HB1.out.below hb HB1.out.lt)
 have HbB := hid hbA
 clear y2 z2
 have y3 : w2.cell? ⟨w.heap.size, 3, none⟩ = some (.slice al nl cl) := HA2.out.cell 3
 have z3 : w2.cell? ⟨w.heap.size + 1, 3, none⟩ = some (.slice al' nl' cl') := HB2.out.cell 3
 clear ht hb hbA HA1 HB1 C2
 go_wp2_with fail
 refine Calls.mono (C3.out _ HbB.out) ?_
 rintro e w3 ⟨t, rfl, ht, hb⟩
 have hbA := HbB.out.trans (hb.mono HbB.out.size)
 have hend := hid (show SamePost ⟨rev, jobs, nodes, leases⟩ ⟨rev, jobs', nodes', leases'⟩ w (.returned (.bool t)) w3 from ⟨t, rfl, ⟨fun h => by rw [Hj.out, Hn.out, ht.1 h], fun h => ht.2 (by injection h)⟩, hbA⟩)
 clear ht hb hbA
 go_wp2
 go_ret
 exact hend.out
open Go.RowKit
theorem beq_diffE {s t : ByteArray} (h : s ≠ t) : (s.toList == t.toList) = false := by
 rw [beq_eq_false_iff_ne]; exact fun e => h (bytes_ext e)
theorem eq_str (xs ys : List ByteArray) (A A' : Option Addr) (n m c c' : Nat) (w : World) (hx : SlAt w w.heap.size 1 A n (rowsV strV xs)) (hy : SlAt w w.heap.size 1 A' m (rowsV strV ys)) (lx : xs.length = n) (ly : ys.length = m) (hn : n ≤ 9223372036854775807) (hm : m ≤ 9223372036854775807) :
 Calls Tryz.prog 44 #[.slice A n c, .slice A' m c'] w (EqPost xs ys w) := by
 by_cases h : n = m
 · subst h
   have h0 : ((n : Int) != n) = false := by simp
   have Lx := hid lx
   have Ly := hid ly
   clear lx ly
   go_enter Tryz.func44, Tryz.ntmps44
   go_wp2
   go_loopw [5, 6, 14] (fun _ _ i wr => EqInv xs ys n w i wr) (fun _ _ i _ => n - (intOf i).toNat)
   case atStart => exact ⟨0, Nat.zero_le _, rfl, rfl, Below.refl _ _⟩
   case round =>
    obtain ⟨k, hk, rfl, he, hb⟩ := hrel
    have He := hid he
    clear he
    by_cases hlt : k < n
    · obtain ⟨x, hxk⟩ : ∃ x, xs[k]? = some x := ⟨_, List.getElem?_eq_getElem (by rw [Lx.out]; exact hlt)⟩
      obtain ⟨y, hyk⟩ : ∃ y, ys[k]? = some y := ⟨_, List.getElem?_eq_getElem (by rw [Ly.out]; exact hlt)⟩
      obtain ⟨b, off, rfl, hbB, hc⟩ := (hx.below hb).rec_ strV_len Lx.out hxk
      obtain ⟨b', off', rfl, hbB', hc'⟩ := (hy.below hb).rec_ strV_len Ly.out hyk
      have c0 : wr.cell? ⟨b, off + k, none⟩ = some (.string x) := by have := hc 0 _ rfl; simpa using this
      have d0 : wr.cell? ⟨b', off' + k, none⟩ = some (.string y) := by have := hc' 0 _ rfl; simpa using this
      have hsz := hb.size
      have Hb := hid hb
      have step := hid (fun (h : x = y) => take_eq_stepE (hxk.trans (congrArg some h)) hyk He.out)
      have stop := hid (fun (h : x ≠ y) => ne_of_atE hxk hyk h)
      clear hc hc' hx hy hxk hyk hb
      by_cases hxy : x = y
      · have step2 := hid (step.out hxy)
        subst hxy
        clear stop step
        go_wp2
        go_roundw
        case rel => exact ⟨k + 1, by omega, by go_num, step2.out, Hb.out⟩
        case measure => simp [intOf]; omega
      · have stop2 := hid (stop.out hxy)
        have e1 := beq_diffE hxy
        have e2 : (x.toList != y.toList) = true := by unfold bne; rw [e1]; rfl
        clear stop step hxy
        go_wp2
        go_ret
        exact ⟨false, rfl, ⟨fun h => (by cases h), fun h => absurd h stop2.out⟩, Hb.out⟩
    · have fin := hid hb
      have same := hid (show xs = ys by
       have e := He.out
       rwa [List.take_of_length_le (by rw [Lx.out]; omega), List.take_of_length_le (by rw [Ly.out]; omega)] at e)
      clear hb hx hy
      go_wp2
      go_ret
      exact ⟨true, rfl, ⟨fun _ => same.out, fun _ => rfl⟩, fin.out⟩
 · have h0 : ((n : Int) != m) = true := by simp; omega
   have fin := hid (show xs ≠ ys by rintro rfl; omega)
   clear lx ly hx hy
   go_enter Tryz.func44, Tryz.ntmps44
   go_wp2
   go_ret
   exact ⟨false, rfl, ⟨fun h => (by cases h), fun h => absurd h fin.out⟩, Below.refl _ _⟩
theorem EqPost.same {α : Type} {xs : List α} {w w' : World} {e : Ending} (h : EqPost xs xs w e w') : e = .returned (.bool true) ∧ Below w.heap.size w w' := by
 obtain ⟨t, rfl, ht, hb⟩ := h
 exact ⟨by rw [ht.2 rfl], hb⟩
theorem deq_same (d : DeltaD) (x x' : DelA) (w : World) (hS : DelAt w w.heap.size d x) (hS' : DelAt w w.heap.size d x') :
 Calls Tryz.prog 12 #[.agg (dC d x), .agg (dC d x')] w fun e w' => e = .returned (.bool true) ∧ Below w.heap.size w w' := by
 have hb1 : Below w.heap.size w (w.alloc (.cells (dC d x) 49)) := (Below.refl _ _).alloc (Nat.le_refl _) _
 have hb2 := hb1.alloc hb1.size (.cells (dC d x') 49)
 have HA := hid (show Blk ((w.alloc (.cells (dC d x) 49)).alloc (.cells (dC d x') 49)) w.heap.size 49 (dC d x) from Blk.alloc (show Blk _ _ _ _ from heap_alloc_new w _) _)
 have HB := hid (show Blk ((w.alloc (.cells (dC d x) 49)).alloc (.cells (dC d x') 49)) (w.heap.size + 1) 49 (dC d x') from by
  have h := heap_alloc_new (w.alloc (.cells (dC d x) 49)) (.cells (dC d x') 49)
  rwa [show (w.alloc (.cells (dC d x) 49)).heap.size = w.heap.size + 1 by simp] at h)
 have B0 := hid hb2
 have HS := hid hS
 have HS' := hid hS'
 clear hb1 hb2 hS hS'
 obtain ⟨from_, to_, jobs, nodes, leases, gj, gn, gl⟩ := d
 obtain ⟨aj, nj, cj, an, nn, cn, al, nl, cl, agj, ngj, cgj, agn, ngn, cgn, agl, ngl, cgl⟩ := x
 obtain ⟨aj', nj', cj', an', nn', cn', al', nl', cl', agj', ngj', cgj', agn', ngn', cgn', agl', ngl', cgl'⟩ := x'
 unfold dC at *
 dsimp only at *
 have C0 := hid (fun W (hb : Below w.heap.size w W) => eq_job jobs jobs aj aj' nj nj' cj cj' W (HS.out.j.up hb) (HS'.out.j.up hb) HS.out.lj HS'.out.lj HS.out.bj HS'.out.bj)
 have C1 := hid (fun W (hb : Below w.heap.size w W) => eq_node nodes nodes an an' nn nn' cn cn' W (HS.out.n.up hb) (HS'.out.n.up hb) HS.out.ln HS'.out.ln HS.out.bn HS'.out.bn)
 have C2 := hid (fun W (hb : Below w.heap.size w W) => eq_lease leases leases al al' nl nl' cl cl' W (HS.out.l.up hb) (HS'.out.l.up hb) HS.out.ll HS'.out.ll HS.out.bl HS'.out.bl)
 have C3 := hid (fun W (hb : Below w.heap.size w W) => eq_str gj gj agj agj' ngj ngj' cgj cgj' W (HS.out.gj.up hb) (HS'.out.gj.up hb) HS.out.lgj HS'.out.lgj HS.out.bgj HS'.out.bgj)
 have C4 := hid (fun W (hb : Below w.heap.size w W) => eq_str gn gn agn agn' ngn ngn' cgn cgn' W (HS.out.gn.up hb) (HS'.out.gn.up hb) HS.out.lgn HS'.out.lgn HS.out.bgn HS'.out.bgn)
 have C5 := hid (fun W (hb : Below w.heap.size w W) => eq_str gl gl agl agl' ngl ngl' cgl cgl' W (HS.out.gl.up hb) (HS'.out.gl.up hb) HS.out.lgl HS'.out.lgl HS.out.bgl HS'.out.bgl)
 clear HS HS'
 have e1 : (from_ == from_) = true := beq_self_eq_true _
 have e2 : (to_ == to_) = true := beq_self_eq_true _
 go_enter Tryz.func12, Tryz.ntmps12
 go_wp2_with fail
 refine Calls.mono (C0.out _ B0.out) ?_
 intro e w1 hp
 obtain ⟨rfl, hb⟩ := hp.same
 have B1 := hid (B0.out.trans (hb.mono B0.out.size))
 have HA1 := hid (HA.out.below hb HA.out.lt)
 have HB1 := hid (HB.out.below hb HB.out.lt)
 have y0 : w1.cell? ⟨w.heap.size, 3, none⟩ = some (.slice an nn cn) := HA1.out.cell 3
 have z0 : w1.cell? ⟨w.heap.size + 1, 3, none⟩ = some (.slice an' nn' cn') := HB1.out.cell 3
 clear hp hb C0 B0 HA HB
 go_wp2_with fail
 refine Calls.mono (C1.out _ B1.out) ?_
 intro e w2 hp
 obtain ⟨rfl, hb⟩ := hp.same
 have B2 := hid (B1.out.trans (hb.mono B1.out.size))
 have HA2 := hid (HA1.out.below hb HA1.out.lt)
 have HB2 := hid (HB1.out.below hb HB1.out.lt)
 have y1 : w2.cell? ⟨w.heap.size, 4, none⟩ = some (.slice al nl cl) := HA2.out.cell 4
 have z1 : w2.cell? ⟨w.heap.size + 1, 4, none⟩ = some (.slice al' nl' cl') := HB2.out.cell 4
 clear hp hb C1 B1 HA1 HB1 y0 z0
 go_wp2_with fail
 refine Calls.mono (C2.out _ B2.out) ?_
 intro e w3 hp
 obtain ⟨rfl, hb⟩ := hp.same
 have B3 := hid (B2.out.trans (hb.mono B2.out.size))
 have HA3 := hid (HA2.out.below hb HA2.out.lt)
 have HB3 := hid (HB2.out.below hb HB2.out.lt)
 have y2 : w3.cell? ⟨w.heap.size, 5, none⟩ = some (.slice agj ngj cgj) := HA3.out.cell 5
 have z2 : w3.cell? ⟨w.heap.size + 1, 5, none⟩ = some (.slice agj' ngj' cgj') := HB3.out.cell 5
 clear hp hb C2 B2 HA2 HB2 y1 z1
 go_wp2_with fail
 refine Calls.mono (C3.out _ B3.out) ?_
 intro e w4 hp
 obtain ⟨rfl, hb⟩ := hp.same
 have B4 := hid (B3.out.trans (hb.mono B3.out.size))
 have HA4 := hid (HA3.out.below hb HA3.out.lt)
 have HB4 := hid (HB3.out.below hb HB3.out.lt)
 have y3 : w4.cell? ⟨w.heap.size, 6, none⟩ = some (.slice agn ngn cgn) := HA4.out.cell 6
 have z3 : w4.cell? ⟨w.heap.size + 1, 6, none⟩ = some (.slice agn' ngn' cgn') := HB4.out.cell 6
 clear hp hb C3 B3 HA3 HB3 y2 z2
 go_wp2_with fail
 refine Calls.mono (C4.out _ B4.out) ?_
 intro e w5 hp
 obtain ⟨rfl, hb⟩ := hp.same
 have B5 := hid (B4.out.trans (hb.mono B4.out.size))
 have HA5 := hid (HA4.out.below hb HA4.out.lt)
 have HB5 := hid (HB4.out.below hb HB4.out.lt)
 have y4 : w5.cell? ⟨w.heap.size, 7, none⟩ = some (.slice agl ngl cgl) := HA5.out.cell 7
 have z4 : w5.cell? ⟨w.heap.size + 1, 7, none⟩ = some (.slice agl' ngl' cgl') := HB5.out.cell 7
 clear hp hb C4 B4 HA4 HB4 y3 z3
 go_wp2_with fail
 refine Calls.mono (C5.out _ B5.out) ?_
 intro e w6 hp
 obtain ⟨rfl, hb⟩ := hp.same
 have B6 := hid (B5.out.trans (hb.mono B5.out.size))
 clear hp hb
 go_wp2
 go_ret
 exact ⟨rfl, B6.out⟩
open Go.RowKit
abbrev zD : DeltaD := ⟨0, 0, [], [], [], [], [], []⟩
abbrev zA : DelA := ⟨none, 0, 0, none, 0, 0, none, 0, 0, none, 0, 0, none, 0, 0, none, 0, 0⟩
theorem first_str {l : List ByteArray} {n : Nat} (h : l.length = n) (hn : 0 < n) : ∃ s, (rowsV strV l)[0]? = some (.string s) := by
 match l, h with
 | [], h => simp at h; omega
 | a :: l, _ => exact ⟨a, rfl⟩
theorem noStr_d (d : DeltaD) (x : DelA) : noStr (dC d x) := noStr_of (by
 intro v hv s
 simp only [dC, List.mem_toArray, List.mem_cons, List.not_mem_nil, or_false] at hv
 rcases hv with rfl | rfl | rfl | rfl | rfl | rfl | rfl | rfl <;> simp)
theorem DelAt.butN {w w' : World} {B g : Nat} {t : TypeId} {cs : Array Value} {d : DeltaD} {x : DelA} (h : DelAt w B d x) (hb : Blk w g t cs) (hc : noStr cs) (hg : w.grownBy w' (some g)) : DelAt w' B d x :=
 ⟨h.j.butN hb hc (first_job h.lj) hg, h.n.butN hb hc (first_node h.ln) hg, h.l.butN hb hc (first_lease h.ll) hg, h.gj.butN hb hc (first_str h.lgj) hg, h.gn.butN hb hc (first_str h.lgn) hg, h.gl.butN hb hc (first_str h.lgl) hg,
  h.lj, h.ln, h.ll, h.lgj, h.lgn, h.lgl, h.bj, h.bn, h.bl, h.bgj, h.bgn, h.bgl, h.oj, h.on_, h.ol, h.ogj, h.ogn, h.ogl⟩
theorem DelAt.drew {w : World} {B : Nat} {d : DeltaD} {x : DelA} (h : DelAt w B d x) : DelAt w.drew B d x :=
 ⟨h.j.drew, h.n.drew, h.l.drew, h.gj.drew, h.gn.drew, h.gl.drew, h.lj, h.ln, h.ll, h.lgj, h.lgn, h.lgl, h.bj, h.bn, h.bl, h.bgj, h.bgn, h.bgl, h.oj, h.on_, h.ol, h.ogj, h.ogn, h.ogl⟩
theorem DelAt.upS {w w' : World} {d : DeltaD} {x : DelA} (h : DelAt w w.heap.size d x) (hb : Below w.heap.size w w') : DelAt w' w'.heap.size d x := (h.below hb).more hb.size
theorem grown_new {w0 a b : World} {V g : Nat} (h : w0.grownBy a (some V)) (hg : a.grownBy b (some g)) (hn : w0.heap.size ≤ g) : w0.grownBy b (some V) :=
 ⟨hg.os.trans h.os, hg.tape.trans h.tape, hg.output.trans h.output, Nat.le_trans h.size hg.size, fun k hk hne => (hg.block k (Nat.lt_of_lt_of_le hk h.size) (by simp; omega)).trans (h.block k hk hne)⟩
theorem grown_of {w0 a : World} (V : Nat) (h : Below w0.heap.size w0 a) : w0.grownBy a (some V) :=
 ⟨h.os, h.tape, h.output, h.size, fun k hk _ => h.block k hk⟩
structure SdE (T : TypeId) (w0 : World) (V DD : Nat) (st1 : StateD) (x1 : StA) (now1 : Int) (D : DeltaD) (dx : DelA) (rc dc : Array Value) (w : World) : Prop where
 v : Blk w V T (srvC st1 x1 now1)
 at_ : StAt w w.heap.size st1 x1
 del : DelAt w w.heap.size D dx
 db : Blk w DD 49 (dC D dx)
 r : Blk w (w0.heap.size + 1) 46 rc
 d : Blk w (w0.heap.size + 2) 49 dc
 gr : w0.grownBy w (some V)
 lt : V < w0.heap.size
 dd : w0.heap.size + 3 ≤ DD
section
variable {T : TypeId} {w0 w w' : World} {V DD : Nat} {st1 : StateD} {x1 : StA} {now1 : Int} {D : DeltaD} {dx : DelA} {rc dc rc' dc' : Array Value}
theorem SdE.drew (h : SdE T w0 V DD st1 x1 now1 D dx rc dc w) : SdE T w0 V DD st1 x1 now1 D dx rc dc w.drew :=
 ⟨h.v, h.at_.drew, h.del.drew, h.db, h.r, h.d, ⟨h.gr.os, h.gr.tape, h.gr.output, h.gr.size, h.gr.block⟩, h.lt, h.dd⟩
theorem SdE.setR (h : SdE T w0 V DD st1 x1 now1 D dx rc dc w) (hn : noStr rc) (hg : w.grownBy w' (some (w0.heap.size + 1))) (hb : Blk w' (w0.heap.size + 1) 46 rc') : SdE T w0 V DD st1 x1 now1 D dx rc' dc w' := by
 have h1 := h.lt
 have h2 := h.dd
 exact ⟨grow_blk hg h.v (by omega), (h.at_.butN h.r hn hg).more hg.size, (h.del.butN h.r hn hg).more hg.size, grow_blk hg h.db (by omega), hb, grow_blk hg h.d (by omega), grown_new h.gr hg (by omega), h.lt, h.dd⟩
theorem SdE.setD (h : SdE T w0 V DD st1 x1 now1 D dx rc dc w) (hn : noStr dc) (hg : w.grownBy w' (some (w0.heap.size + 2))) (hb : Blk w' (w0.heap.size + 2) 49 dc') : SdE T w0 V DD st1 x1 now1 D dx rc dc' w' := by
 have h1 := h.lt
 have h2 := h.dd
 exact ⟨grow_blk hg h.v (by omega), (h.at_.butN h.d hn hg).more hg.size, (h.del.butN h.d hn hg).more hg.size, grow_blk hg h.db (by omega), grow_blk hg h.r (by omega), hb, grown_new h.gr hg (by omega), h.lt, h.dd⟩
theorem SdE.setNow (h : SdE T w0 V DD st1 x1 now1 D dx rc dc w) (m : Int) : SdE T w0 V DD st1 x1 m D dx rc dc (w.setCell ⟨V, 4, none⟩ (.int .i64 m)) := by
 have h1 := h.lt
 have h2 := h.dd
 have hg := grow_set w V 4 (.int .i64 m)
 exact ⟨Blk.eq (h.v.set 4 _) rfl, (h.at_.butN h.v (noStr_srv _ _ _) hg).more hg.size, (h.del.butN h.v (noStr_srv _ _ _) hg).more hg.size, grow_blk hg h.db (by omega), grow_blk hg h.r (by omega), grow_blk hg h.d (by omega), grow_trans h.gr hg, h.lt, h.dd⟩
theorem SdE.end_ (h : SdE T w0 V DD st1 x1 now1 D dx rc dc w) {st : StateD} {R : SrvR} (h1 : R.st = st1) (h2 : R.now = now1) (h3 : D = if R.ch = true then betweenD st R.st else zD) : AskPost T V st R w0 (.returned (.tuple #[.agg #[.int .i64 R.e, .int .i64 R.st.rev], .agg (dC D dx), .bool R.ch])) w :=
 ⟨D, dx, x1, rfl, h3, h.del, by rw [h1, h2]; exact h.v, by rw [h1]; exact h.at_, h.gr⟩
end
theorem oks_of_check {st : StateD} (h : checkE st = 0) : JobsOk st.jobs ∧ NodesOk st.nodes ∧ LeasesOk st.leases := by
 obtain ⟨_, _, h3, h4, h5, _⟩ := check_iff.1 h
 refine ⟨fun j hj => ?_, fun n hn => ?_, fun l hl => ?_⟩
 · have hz := jobE_zero (rows_zero h3 hj)
   have := nameOk_size hz.1
   have := txtOk_size hz.2.1
   omega
 · have hz := nodeE_zero (rows_zero h4 hn)
   have := nameOk_size hz.1
   have := txtOk_size hz.2.1
   omega
 · have hz := rows_zero h5 hl
   unfold leaseE at hz
   split at hz
   · rename_i hb
     simp only [Bool.and_eq_true] at hb
     obtain ⟨j, hj⟩ := Option.isSome_iff_exists.1 hb.1
     obtain ⟨n, hn⟩ := Option.isSome_iff_exists.1 hb.2
     have ej : j.name = l.job := by simpa using List.find?_some hj
     have en : n.name = l.node := by simpa using List.find?_some hn
     have hj2 := nameOk_size (jobE_zero (rows_zero h3 (List.mem_of_find?_eq_some hj))).1
     have hn2 := nameOk_size (nodeE_zero (rows_zero h4 (List.mem_of_find?_eq_some hn))).1
     rw [ej] at hj2
     rw [en] at hn2
     omega
   · omega
theorem reqE_facts {q : ReqD} (h : reqE q = 0) : 1 ≤ q.kind ∧ q.kind ≤ 9 ∧ (q.kind = 7 → 0 ≤ q.n ∧ q.n ≤ 1099511627776) := by
 unfold reqE at h
 split at h
 · cases h
 rename_i hr
 split at h
 · cases h
 have hk : 1 ≤ q.kind ∧ q.kind ≤ 9 := by
  cases h1 : ranged q.kind 1 9 with
  | false => exact absurd h1 hr
  | true => exact ranged_iff.1 h1
 refine ⟨hk.1, hk.2, fun hk => ?_⟩
 unfold partE at h
 rw [hk] at h
 simp only [show ¬ (7 : Int) = 1 from by decide, show ¬ (7 : Int) = 2 from by decide, show ¬ (7 : Int) = 3 from by decide, show ¬ (7 : Int) = 4 from by decide, show ¬ (7 : Int) = 5 from by decide, show ¬ (7 : Int) = 6 from by decide, or_false, if_false, if_true] at h
 by_cases hr : ranged q.n 0 1099511627776 = true
 · exact ranged_iff.1 hr
 · rw [if_neg hr] at h; cases h
def rcP (E rev : Int) : Nat → Array Value
 | 0 => #[.int .i64 0, .int .i64 0]
 | _ => #[.int .i64 E, .int .i64 rev]
def dcP (D : DeltaD) (dx : DelA) : Nat → Array Value
 | 0 => #[.int .i64 0, .int .i64 0, .slice none 0 0, .slice none 0 0, .slice none 0 0, .slice none 0 0, .slice none 0 0, .slice none 0 0]
 | 1 => #[.int .i64 0, .int .i64 0, .slice none 0 0, .slice none 0 0, .slice none 0 0, .slice none 0 0, .slice none 0 0, .slice none 0 0]
 | _ => dC D dx
def sdeV (V : Nat) (st1 : StateD) (E : Int) (D : DeltaD) (dx : DelA) (ch : Bool) : Nat → Value → Prop
 | 0, u => u = .int .i64 E
 | 1, u => u = .pointer (some ⟨V, 0, none⟩)
 | 2, u => u = .pointer (some ⟨V, 0, none⟩)
 | 3, u => u = .pointer (some ⟨V, 0, none⟩)
 | 4, u => u = .pointer (some ⟨V, 0, none⟩)
 | 5, u => u = .int .i64 st1.rev
 | 6, u => u = .agg #[.int .i64 E, .int .i64 st1.rev]
 | 7, u => u = .agg #[.int .i64 D.from_, .int .i64 D.to_, .slice dx.aj dx.nj dx.cj, .slice dx.an dx.nn dx.cn, .slice dx.al dx.nl dx.cl, .slice dx.agj dx.ngj dx.cgj, .slice dx.agn dx.ngn dx.cgn, .slice dx.agl dx.ngl dx.cgl]
 | 8, u => u = .bool ch
 | 11, u => u = .bool ch
 | _, _ => True
open Go.RowKit
theorem do_5 (base : Nat) (st : StateD) (x : StA) (N WK : Nat) (now : Int) (q : ReqD) (w : World) (h : DoIn w base st x N WK now) (hq : q.kind = 5) (hT : TabsB base w) (htr : ∀ j ∈ st.jobs, 0 ≤ j.tries ∧ j.tries ≤ 100) (hok : q.lease.job.size ≤ 9223372036854775807 ∧ q.lease.node.size ≤ 9223372036854775807) :
 Calls Tryz.prog 36 #[.pointer (some ⟨WK, 0, none⟩), reqA q] w (DoPost base N WK (grantR st now q.lease) w) := by
 obtain ⟨W, hW⟩ : ∃ W, (w.alloc (.cells #[.pointer (some ⟨WK, 0, none⟩)] 85)).alloc (.cells (reqC q) 44) = W := ⟨_, rfl⟩
 have hbW : Below w.heap.size w W := by rw [← hW]; exact ((Below.refl _ _).alloc (Nat.le_refl _) _).alloc (by simp) _
 have hbp : Blk W w.heap.size 85 #[.pointer (some ⟨WK, 0, none⟩)] := by rw [← hW]; exact Blk.alloc (show Blk _ _ _ _ from heap_alloc_new w _) _
 have hqb : Blk W (w.heap.size + 1) 44 (reqC q) := by
  rw [← hW]
  have := heap_alloc_new (w.alloc (.cells #[.pointer (some ⟨WK, 0, none⟩)] 85)) (.cells (reqC q) 44)
  rwa [show (w.alloc (.cells #[.pointer (some ⟨WK, 0, none⟩)] 85)).heap.size = w.heap.size + 1 by simp] at this
 have hw := h.w.below hbW
 have hk0 : W.cell? ⟨w.heap.size + 1, 0, none⟩ = some (.int .i64 5) := by rw [hqb.cell 0, ← hq]; rfl
 have q9 : W.cell? ⟨w.heap.size + 1, 9, none⟩ = some (.string q.lease.job) := hqb.cell 9
 have q10 : W.cell? ⟨w.heap.size + 1, 10, none⟩ = some (.string q.lease.node) := hqb.cell 10
 have q11 : W.cell? ⟨w.heap.size + 1, 11, none⟩ = some (.int .i64 q.lease.till) := hqb.cell 11
 have bp0 : W.cell? ⟨w.heap.size, 0, none⟩ = some (.pointer (some ⟨WK, 0, none⟩)) := hbp.cell 0
 have HG := hid (grant_any base st x N WK now q.lease W ⟨hw, h.nj, h.nn, h.nl, h.oj, h.on_, h.ol, h.sj, h.sn, h.sl⟩ (hT.next (hbW.mono h.w.bs)) htr hok)
 have HbW := hid (hbW.mono h.w.bs)
 clear hbW hbp hqb hw h hq hT htr
 unfold reqA
 unfold reqC at hW ⊢
 obtain ⟨R, hR⟩ : ∃ R, grantR st now q.lease = R := ⟨_, rfl⟩
 rw [hR] at HG ⊢
 clear hR
 go_enter Tryz.func36, Tryz.ntmps36
 go_wp2_with fail
 try rw [hW]
 clear hW
 refine Calls.mono HG.out ?_
 rintro e w5 ⟨rfl, hb5, hk5⟩
 have Hend := hid (show DoPost base N WK R w (.returned (.int .i64 R.1)) w5 from ⟨rfl, HbW.out.trans hb5, hk5⟩)
 clear hb5 hk5 HG
 go_wp2
 go_ret
 exact Hend.out
structure QOk (q : ReqD) : Prop where
 j : q.job.name.size ≤ 9223372036854775807 ∧ q.job.tag.size ≤ 9223372036854775807
 n : q.node.name.size ≤ 9223372036854775807 ∧ q.node.zone.size ≤ 9223372036854775807
 l : q.lease.job.size ≤ 9223372036854775807 ∧ q.lease.node.size ≤ 9223372036854775807
theorem do_any (base : Nat) (st : StateD) (x : StA) (N WK : Nat) (now : Int) (q : ReqD) (w : World) (h : DoIn w base st x N WK now) (hT : TabsB base w) (htr : ∀ j ∈ st.jobs, 0 ≤ j.tries ∧ j.tries ≤ 100) (hok : QOk q) (hk : 1 ≤ q.kind) (hn0 : 0 ≤ now) (hn1 : now ≤ 1099511627776) (hq0 : q.kind = 7 → 0 ≤ q.n ∧ q.n ≤ 1099511627776) :
 Calls Tryz.prog 36 #[.pointer (some ⟨WK, 0, none⟩), reqA q] w (DoPost base N WK (doR st now q) w) := by
 unfold doR
 split
 · exact do_1 base st x N WK now q w h ‹_› hok.j hT
 split
 · exact do_2 base st x N WK now q w h ‹_› hok.n hT
 split
 · exact do_3 base st x N WK now q w h ‹_›
 split
 · exact do_4 base st x N WK now q w h ‹_›
 split
 · exact do_5 base st x N WK now q w h ‹_› hT htr hok.l
 split
 · exact do_6 base st x N WK now q w h ‹_›
 split
 · exact do_7 base st x N WK now q w h ‹_› hn0 hn1 (hq0 ‹_›).1 (hq0 ‹_›).2
 · exact do_8 base st x N WK now q w h (by omega)
end Go.Proofs.YtjgnnobccecpeaaGreatDoor
