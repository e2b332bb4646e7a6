/- Of the proof of a statement: PlWDec, SGood, Join, SrcRow, SrcRows, SameR. -/
import Derived.Shelf.Strings.OnBuilder
import Derived.Test.YtcodhhabfacnjaaGreatDoorRows
import Derived.Laws.BitsAllLaws
import Derived.Below
import Derived.Test.YtcodhhabfacnjaaGreatDoorSEqRows
import Derived.Test.YtcodhhabfacnjaaGreatDoorSJObj
import Derived.Test.YtcodhhabfacnjaaGreatDoorSSrcA
set_option linter.unusedVariables false
set_option linter.unusedSimpArgs false
/- What Decode of a state says: plain. -/
namespace Go.Proofs.YtcodhhabfacnjaaGreatDoor
def zeroSt : StateD := ⟨0, [], [], []⟩
def endE (σ : RR Unit) : Nat := match σ with
  | .ok _ s => if s.size = 0 then 0 else 4
  | .bad x => x
theorem endE_ok4 {s : ByteArray} (h : s.size ≠ 0) : endE (.ok () s) = 4 := by unfold endE; simp only; rw [if_neg h]
theorem isEmpty_no {s : ByteArray} (h : s.size ≠ 0) : s.toList.isEmpty = false := by
  have := beq_nil h
  cases hl : s.toList with
  | nil => rw [hl] at this; exact absurd this (by decide)
  | cons a l => rfl
end Go.Proofs.YtcodhhabfacnjaaGreatDoor
/- What a state that may be is. -/
namespace Go.Proofs.YtcodhhabfacnjaaGreatDoor
/-- What a state that may be is. -/
structure SGood (st : StateD) : Prop where
  r0 : 0 ≤ st.rev
  r1 : st.rev ≤ 1099511627776
  nj : st.jobs.length ≤ 40
  nn : st.nodes.length ≤ 20
  nl : st.leases.length ≤ 40
  ej : rowsE jobE JobD.name st.jobs = 0
  en : rowsE nodeE NodeD.name st.nodes = 0
  el : rowsE (leaseE st) LeaseD.job st.leases = 0
theorem sgood {st : StateD} (h : checkE st = 0) : SGood st := by
  have hz := ck_sizes h
  have hr : ranged st.rev 0 1099511627776 = true := by
    cases hr : ranged st.rev 0 1099511627776 with
    | true => rfl
    | false => rw [ck_rev hr] at h; exact absurd h (by decide)
  have hs : sizesOk st = true := by
    cases hs : sizesOk st with
    | true => rfl
    | false => rw [ck_large hr hs] at h; exact absurd h (by decide)
  have hj : rowsE jobE JobD.name st.jobs = 0 := by
    by_cases hj : rowsE jobE JobD.name st.jobs = 0
    · exact hj
    · rw [ck_jobs hr hs hj] at h; exact absurd h hj
  have hn : rowsE nodeE NodeD.name st.nodes = 0 := by
    by_cases hn : rowsE nodeE NodeD.name st.nodes = 0
    · exact hn
    · rw [ck_nodes hr hs hj hn] at h; exact absurd h hn
  have hl : rowsE (leaseE st) LeaseD.job st.leases = 0 := by
    by_cases hl : rowsE (leaseE st) LeaseD.job st.leases = 0
    · exact hl
    · rw [ck_rest hr hs hj hn, if_pos hl] at h; exact absurd h hl
  have := ranged_iff.1 hr
  exact ⟨this.1, this.2, hz.1, hz.2.1, hz.2.2, hj, hn, hl⟩
theorem SGood.job {st : StateD} (h : SGood st) {x : JobD} (hx : x ∈ st.jobs) : x.name.size ≤ 16 ∧ x.tag.size ≤ 16 ∧ (-1000 ≤ x.prio ∧ x.prio ≤ 1000) ∧ (0 ≤ x.need ∧ x.need ≤ 1000000) ∧ (0 ≤ x.tries ∧ x.tries ≤ 100) := by
  obtain ⟨h1, h2, h3⟩ := jobE_zero (rows_zero h.ej hx)
  exact ⟨nameOk_size h1, txtOk_size h2, h3⟩
theorem SGood.node {st : StateD} (h : SGood st) {x : NodeD} (hx : x ∈ st.nodes) : x.name.size ≤ 16 ∧ x.zone.size ≤ 16 ∧ (0 ≤ x.room ∧ x.room ≤ 1000000) := by
  obtain ⟨h1, h2, h3⟩ := nodeE_zero (rows_zero h.en hx)
  exact ⟨nameOk_size h1, txtOk_size h2, h3⟩
theorem SGood.lease {st : StateD} (h : SGood st) {l : LeaseD} (hl : l ∈ st.leases) : l.job.size ≤ 16 ∧ l.node.size ≤ 16 ∧ (0 ≤ l.till ∧ l.till ≤ 1099511627776) := by
  have he := rows_zero h.el hl
  unfold leaseE at he
  split at he
  · rename_i h1
    split at he
    · rename_i h2
      have hr := ranged_iff.1 h2
      simp only [Bool.and_eq_true] at h1
      obtain ⟨j, hj⟩ := Option.isSome_iff_exists.1 h1.1
      obtain ⟨n, hn⟩ := Option.isSome_iff_exists.1 h1.2
      have hjm := List.mem_of_find?_eq_some hj
      have hnm := List.mem_of_find?_eq_some hn
      have hje : j.name = l.job := by simpa using List.find?_some hj
      have hne : n.name = l.node := by simpa using List.find?_some hn
      have h3 := nameOk_size (jobE_zero (rows_zero h.ej hjm)).1
      have h4 := nameOk_size (nodeE_zero (rows_zero h.en hnm)).1
      rw [hje] at h3
      rw [hne] at h4
      exact ⟨h3, h4, hr⟩
    · exact absurd he (by decide)
  · exact absurd he (by decide)
end Go.Proofs.YtcodhhabfacnjaaGreatDoor
/- strings.Join, laid at this program. -/
namespace Go.Proofs.YtcodhhabfacnjaaGreatDoor
open Go.RowKit Go.Shelf
theorem extraJoin : Builder.Extra Tryz.prog laysJoin_ren where
  sizeBuilder := by kernel_rfl
  liesBuilder := by kernel_rfl
  t5 := Tryz.underlying5
  a5 := Tryz.isAgg5
  z5 := Tryz.sizeOf5
  v5 := Tryz.zeroValue5
  infoByte := by kernel_rfl
  cellsByte := by kernel_rfl
  sizeByte := by kernel_rfl
  neB5 := by decide
theorem join_any (bk o c : Nat) (xs : List ByteArray) (sep : ByteArray) (w : World) (hcells : ∀ (j : Nat) x, xs[j]? = some x → w.cell? ⟨bk, o + j, none⟩ = some (.string x)) (hbk : bk < w.heap.size) (hN : xs.length ≤ 140737488355328) (hcap : xs.length ≤ c) (hlen : (Lib.join (xs.map (·.data.toList)) sep.data.toList).length ≤ 140737488355328) :
    Calls Tryz.prog 42 #[.slice (some ⟨bk, o, none⟩) xs.length c, .string sep] w fun e w' => e = .returned (.string ⟨(Lib.join (xs.map (·.data.toList)) sep.data.toList).toArray⟩) ∧ Below w.heap.size w w' := Any.strings_Join laysJoin extraJoin bk o c xs sep w hcells hbk hN hcap hlen
theorem join_none (a : Option Addr) (c : Nat) (sep : ByteArray) (w : World) :
    Calls Tryz.prog 42 #[.slice a 0 c, .string sep] w fun e w' => e = .returned (.string ⟨#[]⟩) ∧ w' = w := Any.strings_Join_none laysJoin extraJoin a c sep w
end Go.Proofs.YtcodhhabfacnjaaGreatDoor
/- The walks of the reference's rows: a job, a node, a lease. -/
namespace Go.Proofs.YtcodhhabfacnjaaGreatDoor
open Go.RowKit
theorem SxAt.alloc {w : World} {g : Nat} {s : ByteArray} (h : SxAt w g s) (o : Obj) : SxAt (w.alloc o) g s := h.below ((Below.refl _ _).alloc (Nat.le_refl _) _)
end Go.Proofs.YtcodhhabfacnjaaGreatDoor
/- The walk of the reference's rows: three tables, one after another. -/
namespace Go.Proofs.YtcodhhabfacnjaaGreatDoor
open Go.RowKit
theorem SxAt.grewT {w w' : World} {g base : Nat} {s : ByteArray} {v v' : Value} (h : SxAt w g s) (hg : Grew w w' v v') (hv : ∀ k, v.ownBlock = some k → base ≤ k) (hgb : g < base) : SxAt w' g s := ⟨h.1.grewT hg hv hgb, h.2⟩
end Go.Proofs.YtcodhhabfacnjaaGreatDoor
/- The walk of the reference's Same. -/
namespace Go.Proofs.YtcodhhabfacnjaaGreatDoor
open Go.RowKit
def SamePost (st st' : StateD) (w : World) (e : Ending) (w' : World) : Prop := ∃ t : Bool, e = .returned (.bool t) ∧ (t = true ↔ st = st') ∧ Below w.heap.size w w'
theorem SamePost.no {st st' : StateD} {w w' : World} (h : st ≠ st') (hb : Below w.heap.size w w') : SamePost st st' w (.returned (.bool false)) w' := ⟨false, rfl, ⟨fun h => (by cases h), fun h' => absurd h' h⟩, hb⟩
theorem StAt.up {w w' : World} {st : StateD} {x : StA} (hS : StAt w w.heap.size st x) (hb : Below w.heap.size w w') : StAt w' w'.heap.size st x := (hS.below hb).more hb.size
theorem SlAt.up {w w' : World} {sz n : Nat} {A : Option Addr} {xs : List Value} (h : SlAt w w.heap.size sz A n xs) (hb : Below w.heap.size w w') : SlAt w' w'.heap.size sz A n xs := (h.below hb).more hb.size
set_option maxRecDepth 100000 in
set_option maxHeartbeats 2000000 in
theorem same_any (st st' : StateD) (x x' : StA) (w : World) (hS : StAt w w.heap.size st x) (hS' : StAt w w.heap.size st' x') :
    Calls Tryz.prog 6 #[.agg (stC st x), .agg (stC st' x')] w (SamePost st st' w) := by
  have hb1 : Below w.heap.size w (w.alloc (.cells (stC st x) 26)) := (Below.refl _ _).alloc (Nat.le_refl _) _
  have hb2 := hb1.alloc hb1.size (.cells (stC st' x') 26)
  have HA := Lib.hid (show Blk ((w.alloc (.cells (stC st x) 26)).alloc (.cells (stC st' x') 26)) w.heap.size 26 (stC st x) from Blk.alloc (show Blk _ _ _ _ from heap_alloc_new w _) _)
  have HB := Lib.hid (show Blk ((w.alloc (.cells (stC st x) 26)).alloc (.cells (stC st' x') 26)) (w.heap.size + 1) 26 (stC st' x') from by
    have h := heap_alloc_new (w.alloc (.cells (stC st x) 26)) (.cells (stC st' x') 26)
    rwa [show (w.alloc (.cells (stC st x) 26)).heap.size = w.heap.size + 1 by simp] at h)
  have Hb2 := Lib.hid hb2
  have HS := Lib.hid hS
  have HS' := Lib.hid hS'
  clear hb1 hb2 hS hS'
  obtain ⟨rev, jobs, nodes, leases⟩ := st
  obtain ⟨aj, nj, cj, an, nn, cn, al, nl, cl⟩ := x
  obtain ⟨rev', jobs', nodes', leases'⟩ := st'
  obtain ⟨aj', nj', cj', an', nn', cn', al', nl', cl'⟩ := x'
  unfold stC at *
  dsimp only at *
  by_cases hr : rev = rev'
  rotate_left
  · have e1 : (rev == rev') = false := beq_eq_false_iff_ne.2 hr
    have hend := Lib.hid (SamePost.no (st := ⟨rev, jobs, nodes, leases⟩) (st' := ⟨rev', jobs', nodes', leases'⟩) (fun h => hr (by injection h)) Hb2.out)
    clear hr
    go_enter Tryz.func6, Tryz.ntmps6
    go_wp2
    go_ret
    exact hend.out
  subst hr
  have C1 := Lib.hid (eq_job jobs jobs' aj aj' nj nj' cj cj' _ (HS.out.j.up Hb2.out) (HS'.out.j.up Hb2.out) HS.out.lj HS'.out.lj HS.out.bj HS'.out.bj)
  have C2 := Lib.hid (fun W (hb : Below w.heap.size w W) => eq_node nodes nodes' an an' nn nn' cn cn' W (HS.out.n.up hb) (HS'.out.n.up hb) HS.out.ln HS'.out.ln HS.out.bn HS'.out.bn)
  have C3 := Lib.hid (fun W (hb : Below w.heap.size w W) => eq_lease leases leases' al al' nl nl' cl cl' W (HS.out.l.up hb) (HS'.out.l.up hb) HS.out.ll HS'.out.ll HS.out.bl HS'.out.bl)
  go_enter Tryz.func6, Tryz.ntmps6
  go_wp2_with fail
  refine Calls.mono C1.out ?_
  rintro e w1 ⟨t, rfl, ht, hb⟩
  have hbA := Hb2.out.trans (hb.mono Hb2.out.size)
  cases t
  · have hend := Lib.hid (SamePost.no (st := ⟨rev, jobs, nodes, leases⟩) (st' := ⟨rev, jobs', nodes', leases'⟩) (fun h => absurd (ht.2 (by injection h)) (by decide)) hbA)
    clear ht hb hbA
    go_wp2
    go_ret
    exact hend.out
  have Hj := Lib.hid (ht.1 rfl)
  have HA1 := Lib.hid (HA.out.below hb HA.out.lt)
  have HB1 := Lib.hid (HB.out.below hb HB.out.lt)
  have HbA := Lib.hid hbA
  have y2 : w1.cell? ⟨w.heap.size, 2, none⟩ = some (.slice an nn cn) := HA1.out.cell 2
  have z2 : w1.cell? ⟨w.heap.size + 1, 2, none⟩ = some (.slice an' nn' cn') := HB1.out.cell 2
  clear ht hb hbA HA HB C1
  go_wp2_with fail
  refine Calls.mono (C2.out _ HbA.out) ?_
  rintro e w2 ⟨t, rfl, ht, hb⟩
  have hbA := HbA.out.trans (hb.mono HbA.out.size)
  cases t
  · have hend := Lib.hid (SamePost.no (st := ⟨rev, jobs, nodes, leases⟩) (st' := ⟨rev, jobs', nodes', leases'⟩) (fun h => absurd (ht.2 (by injection h)) (by decide)) hbA)
    clear ht hb hbA
    go_wp2
    go_ret
    exact hend.out
  have Hn := Lib.hid (ht.1 rfl)
  have HA2 := Lib.hid (HA1.out.below hb HA1.out.lt)
  have HB2 := Lib.hid (HB1.out.below hb HB1.out.lt)
  have HbB := Lib.hid hbA
  clear y2 z2
  have y3 : w2.cell? ⟨w.heap.size, 3, none⟩ = some (.slice al nl cl) := HA2.out.cell 3
  have z3 : w2.cell? ⟨w.heap.size + 1, 3, none⟩ = some (.slice al' nl' cl') := HB2.out.cell 3
  clear ht hb hbA HA1 HB1 C2
  go_wp2_with fail
  refine Calls.mono (C3.out _ HbB.out) ?_
  rintro e w3 ⟨t, rfl, ht, hb⟩
  have hbA := HbB.out.trans (hb.mono HbB.out.size)
  have hend := Lib.hid (show SamePost ⟨rev, jobs, nodes, leases⟩ ⟨rev, jobs', nodes', leases'⟩ w (.returned (.bool t)) w3 from ⟨t, rfl, ⟨fun h => by rw [Hj.out, Hn.out, ht.1 h], fun h => ht.2 (by injection h)⟩, hbA⟩)
  clear ht hb hbA
  go_wp2
  go_ret
  exact hend.out
end Go.Proofs.YtcodhhabfacnjaaGreatDoor
