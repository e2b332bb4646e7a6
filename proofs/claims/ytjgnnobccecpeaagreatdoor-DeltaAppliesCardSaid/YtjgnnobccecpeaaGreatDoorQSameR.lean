/- Of the proof of a statement: StOwn, WDec, PlDiff, OwnMore, SameR. -/
import Derived.Test.YtjgnnobccecpeaaGreatDoorQAtL
import Derived.Test.YtjgnnobccecpeaaGreatDoorQEqRows
import Derived.Test.YtjgnnobccecpeaaGreatDoorQSortK
set_option linter.unusedVariables false
set_option linter.unusedSimpArgs false
/- Worlds of whose old blocks only two have turned; the rows of a state in blocks of the call's own. -/
namespace Go.Proofs.YtjgnnobccecpeaaGreatDoor
open Go.RowKit
theorem ownT_base {w : World} {base b n sz : Nat} {e : TypeId} {v : Value} {xs : List Value} (ho : w.ownsRow base e sz v n xs) (hb : b ≤ base) : w.ownsRow b e sz v n xs := by
  rcases ho with ⟨h1, h | ⟨q, cap, cur, hv, hq, hgq, r⟩⟩
  · exact ⟨h1, .inl h⟩
  · exact ⟨h1, .inr ⟨q, cap, cur, hv, Nat.le_trans hb hq, hgq, r⟩⟩
theorem grow_keep {w0 w w' : World} {b : Nat} (h : Below w0.heap.size w0 w) (hg : w.grownBy w' (some b)) (hb : w0.heap.size ≤ b) : Below w0.heap.size w0 w' :=
  ⟨hg.os.trans h.os, hg.tape.trans h.tape, hg.output.trans h.output, Nat.le_trans h.size hg.size, fun k hk => (hg.block k (Nat.lt_of_lt_of_le hk h.size) (by simp; omega)).trans (h.block k hk)⟩
end Go.Proofs.YtjgnnobccecpeaaGreatDoor
/- The walk of wire.Decode. -/
namespace Go.Proofs.YtjgnnobccecpeaaGreatDoor
open Go.RowKit
def nilA : StA := ⟨none, 0, 0, none, 0, 0, none, 0, 0⟩
theorem zeroAt (w : World) (B : Nat) : StAt w B zeroSt nilA :=
  ⟨SlAt.nil, SlAt.nil, SlAt.nil, rfl, rfl, rfl, by decide, by decide, by decide, (fun _ h => by cases h), (fun _ h => by cases h), (fun _ h => by cases h)⟩
end Go.Proofs.YtjgnnobccecpeaaGreatDoor
/- What Diff of two states says: plain. -/
namespace Go.Proofs.YtjgnnobccecpeaaGreatDoor
section
variable {α : Type} {p : α → Bool} {l : List α} {k : Nat} {x : α}
theorem filter_yes (h : l[k]? = some x) (hp : p x = true) : (l.take (k + 1)).filter p = (l.take k).filter p ++ [x] := by
  rw [List.take_add_one, h, List.filter_append]; simp [hp]
theorem filter_no (h : l[k]? = some x) (hp : p x = false) : (l.take (k + 1)).filter p = (l.take k).filter p := by
  rw [List.take_add_one, h, List.filter_append]; simp [hp]
end
end Go.Proofs.YtjgnnobccecpeaaGreatDoor
/- Rows of the call's own: what becomes of them where something else turns. -/
namespace Go.Proofs.YtjgnnobccecpeaaGreatDoor
open Go.RowKit
theorem ownU_below {w w' : World} {base n sz : Nat} {e : TypeId} {v : Value} {xs : List Value} (ho : w.ownsRow base e sz v n xs) (hb : Below w.heap.size w w') : w'.ownsRow base e sz v n xs := by
  rcases ho with ⟨h1, h | ⟨q, cap, cur, hv, hq, hgq, r⟩⟩
  · exact ⟨h1, .inl h⟩
  · have hlt : q < w.heap.size := (Array.getElem?_eq_some_iff.1 hgq).1
    exact ⟨h1, .inr ⟨q, cap, cur, hv, hq, (hb.block q hlt).trans hgq, r⟩⟩
/-- Rows of another type, where a cell of a row is set. -/
theorem own_setOther {w : World} {base sz n b i : Nat} {e e' : TypeId} {v u : Value} {xs : List Value} {cs : Array Value} (ho : w.ownsRow base e sz v n xs) (hb : w.heap[b]? = some (.cells cs e' (0, 0))) (hne : e ≠ e') : (w.setCell ⟨b, i, none⟩ u).ownsRow base e sz v n xs := by
  rcases ho with ⟨h1, h | ⟨q, cap, cur, hv, hq, hgq, r⟩⟩
  · exact ⟨h1, .inl h⟩
  · refine ⟨h1, .inr ⟨q, cap, cur, hv, hq, ?_, r⟩⟩
    rw [Below.heap_setCell w ⟨b, i, none⟩ u q (fun e1 => ?_)]
    · exact hgq
    · have e1 : q = b := e1
      rw [e1, hb] at hgq
      simp only [Option.some.injEq, Obj.cells.injEq] at hgq
      exact hne hgq.2.1.symm
end Go.Proofs.YtjgnnobccecpeaaGreatDoor
/- The walk of the reference's Same. -/
namespace Go.Proofs.YtjgnnobccecpeaaGreatDoor
open Go.RowKit
def SamePost (st st' : StateD) (w : World) (e : Ending) (w' : World) : Prop := ∃ t : Bool, e = .returned (.bool t) ∧ (t = true ↔ st = st') ∧ Below w.heap.size w w'
theorem SamePost.no {st st' : StateD} {w w' : World} (h : st ≠ st') (hb : Below w.heap.size w w') : SamePost st st' w (.returned (.bool false)) w' := ⟨false, rfl, ⟨fun h => (by cases h), fun h' => absurd h' h⟩, hb⟩
theorem StAt.up {w w' : World} {st : StateD} {x : StA} (hS : StAt w w.heap.size st x) (hb : Below w.heap.size w w') : StAt w' w'.heap.size st x := (hS.below hb).more hb.size
theorem SlAt.up {w w' : World} {sz n : Nat} {A : Option Addr} {xs : List Value} (h : SlAt w w.heap.size sz A n xs) (hb : Below w.heap.size w w') : SlAt w' w'.heap.size sz A n xs := (h.below hb).more hb.size
set_option maxRecDepth 100000 in
set_option maxHeartbeats 2000000 in
theorem same_any (st st' : StateD) (x x' : StA) (w : World) (hS : StAt w w.heap.size st x) (hS' : StAt w w.heap.size st' x') :
    Calls Tryz.prog 13 #[.agg (stC st x), .agg (stC st' x')] w (SamePost st st' w) := by
  have hb1 : Below w.heap.size w (w.alloc (.cells (stC st x) 26)) := (Below.refl _ _).alloc (Nat.le_refl _) _
  have hb2 := hb1.alloc hb1.size (.cells (stC st' x') 26)
  have HA := Lib.hid (show Blk ((w.alloc (.cells (stC st x) 26)).alloc (.cells (stC st' x') 26)) w.heap.size 26 (stC st x) from Blk.alloc (show Blk _ _ _ _ from heap_alloc_new w _) _)
  have HB := Lib.hid (show Blk ((w.alloc (.cells (stC st x) 26)).alloc (.cells (stC st' x') 26)) (w.heap.size + 1) 26 (stC st' x') from by
    have h := heap_alloc_new (w.alloc (.cells (stC st x) 26)) (.cells (stC st' x') 26)
    rwa [show (w.alloc (.cells (stC st x) 26)).heap.size = w.heap.size + 1 by simp] at h)
  have Hb2 := Lib.hid hb2
  have HS := Lib.hid hS
  have HS' := Lib.hid hS'
  clear hb1 hb2 hS hS'
  obtain ⟨rev, jobs, nodes, leases⟩ := st
  obtain ⟨aj, nj, cj, an, nn, cn, al, nl, cl⟩ := x
  obtain ⟨rev', jobs', nodes', leases'⟩ := st'
  obtain ⟨aj', nj', cj', an', nn', cn', al', nl', cl'⟩ := x'
  unfold stC at *
  dsimp only at *
  by_cases hr : rev = rev'
  rotate_left
  · have e1 : (rev == rev') = false := beq_eq_false_iff_ne.2 hr
    have hend := Lib.hid (SamePost.no (st := ⟨rev, jobs, nodes, leases⟩) (st' := ⟨rev', jobs', nodes', leases'⟩) (fun h => hr (by injection h)) Hb2.out)
    clear hr
    go_enter Tryz.func13, Tryz.ntmps13
    go_wp2
    go_ret
    exact hend.out
  subst hr
  have C1 := Lib.hid (eq_job jobs jobs' aj aj' nj nj' cj cj' _ (HS.out.j.up Hb2.out) (HS'.out.j.up Hb2.out) HS.out.lj HS'.out.lj HS.out.bj HS'.out.bj)
  have C2 := Lib.hid (fun W (hb : Below w.heap.size w W) => eq_node nodes nodes' an an' nn nn' cn cn' W (HS.out.n.up hb) (HS'.out.n.up hb) HS.out.ln HS'.out.ln HS.out.bn HS'.out.bn)
  have C3 := Lib.hid (fun W (hb : Below w.heap.size w W) => eq_lease leases leases' al al' nl nl' cl cl' W (HS.out.l.up hb) (HS'.out.l.up hb) HS.out.ll HS'.out.ll HS.out.bl HS'.out.bl)
  go_enter Tryz.func13, Tryz.ntmps13
  go_wp2_with fail
  refine Calls.mono C1.out ?_
  rintro e w1 ⟨t, rfl, ht, hb⟩
  have hbA := Hb2.out.trans (hb.mono Hb2.out.size)
  cases t
  · have hend := Lib.hid (SamePost.no (st := ⟨rev, jobs, nodes, leases⟩) (st' := ⟨rev, jobs', nodes', leases'⟩) (fun h => absurd (ht.2 (by injection h)) (by decide)) hbA)
    clear ht hb hbA
    go_wp2
    go_ret
    exact hend.out
  have Hj := Lib.hid (ht.1 rfl)
  have HA1 := Lib.hid (HA.out.below hb HA.out.lt)
  have HB1 := Lib.hid (HB.out.below hb HB.out.lt)
  have HbA := Lib.hid hbA
  have y2 : w1.cell? ⟨w.heap.size, 2, none⟩ = some (.slice an nn cn) := HA1.out.cell 2
  have z2 : w1.cell? ⟨w.heap.size + 1, 2, none⟩ = some (.slice an' nn' cn') := HB1.out.cell 2
  clear ht hb hbA HA HB C1
  go_wp2_with fail
  refine Calls.mono (C2.out _ HbA.out) ?_
  rintro e w2 ⟨t, rfl, ht, hb⟩
  have hbA := HbA.out.trans (hb.mono HbA.out.size)
  cases t
  · have hend := Lib.hid (SamePost.no (st := ⟨rev, jobs, nodes, leases⟩) (st' := ⟨rev, jobs', nodes', leases'⟩) (fun h => absurd (ht.2 (by injection h)) (by decide)) hbA)
    clear ht hb hbA
    go_wp2
    go_ret
    exact hend.out
  have Hn := Lib.hid (ht.1 rfl)
  have HA2 := Lib.hid (HA1.out.below hb HA1.out.lt)
  have HB2 := Lib.hid (HB1.out.below hb HB1.out.lt)
  have HbB := Lib.hid hbA
  clear y2 z2
  have y3 : w2.cell? ⟨w.heap.size, 3, none⟩ = some (.slice al nl cl) := HA2.out.cell 3
  have z3 : w2.cell? ⟨w.heap.size + 1, 3, none⟩ = some (.slice al' nl' cl') := HB2.out.cell 3
  clear ht hb hbA HA1 HB1 C2
  go_wp2_with fail
  refine Calls.mono (C3.out _ HbB.out) ?_
  rintro e w3 ⟨t, rfl, ht, hb⟩
  have hbA := HbB.out.trans (hb.mono HbB.out.size)
  have hend := Lib.hid (show SamePost ⟨rev, jobs, nodes, leases⟩ ⟨rev, jobs', nodes', leases'⟩ w (.returned (.bool t)) w3 from ⟨t, rfl, ⟨fun h => by rw [Hj.out, Hn.out, ht.1 h], fun h => ht.2 (by injection h)⟩, hbA⟩)
  clear ht hb hbA
  go_wp2
  go_ret
  exact hend.out
end Go.Proofs.YtjgnnobccecpeaaGreatDoor
