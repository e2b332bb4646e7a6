/- Of the proof of a statement: RcC, ArgSt. -/
import Derived.Deep.Slices
import Derived.Lib.SmallJoins
import Derived.Test.YtjgnnobccecpeaaGreatDoorPRcA
set_option linter.unusedVariables false
set_option linter.unusedSimpArgs false
set_option maxRecDepth 100000
set_option maxHeartbeats 8000000
/- req.isTime, the parts' check. -/
namespace Go.Proofs.YtjgnnobccecpeaaGreatDoor
open Go.Lib (hid)
open Go.RowKit
def ErrPost (E : Int) (w : World) (e : Ending) (w' : World) : Prop := e = .returned (.int .i64 E) ∧ Below w.heap.size w w'
theorem isTime_any (n : Int) (w : World) : Calls Tryz.prog 391 #[.int .i64 n] w fun e w' => e = .returned (.bool (ranged n 0 1099511627776)) ∧ Below w.heap.size w w' := by
 by_cases h0 : 0 ≤ n
 · by_cases h1 : n ≤ 1099511627776
   · have hr : ranged n 0 1099511627776 = true := ranged_iff.2 ⟨h0, h1⟩
     have d0 : decide (0 ≤ n) = true := decide_eq_true h0
     have d1 : decide (n ≤ 1099511627776) = true := decide_eq_true h1
     rw [hr]
     go_enter Tryz.func391, Tryz.ntmps391
     go_wp2
     go_ret
     exact ⟨rfl, Below.refl _ _⟩
   · have hr : ranged n 0 1099511627776 = false := ranged_not.2 (by omega)
     have d0 : decide (0 ≤ n) = true := decide_eq_true h0
     have d1 : decide (n ≤ 1099511627776) = false := decide_eq_false h1
     rw [hr]
     go_enter Tryz.func391, Tryz.ntmps391
     go_wp2
     go_ret
     exact ⟨rfl, Below.refl _ _⟩
 · have hr : ranged n 0 1099511627776 = false := ranged_not.2 (by omega)
   have d0 : decide (0 ≤ n) = false := decide_eq_false h0
   rw [hr]
   go_enter Tryz.func391, Tryz.ntmps391
   go_wp2
   go_ret
   exact ⟨rfl, Below.refl _ _⟩
theorem pcheck_job (j : JobD) (P : Nat) (w : World) (hp : Blk w P 249 #[.string j.name, .int .i64 j.prio, .int .i64 j.need, .int .i64 j.tries, .string j.tag]) (h1 : j.name.size ≤ 9223372036854775807) (h2 : j.tag.size ≤ 9223372036854775807) (hT : Tabs w) : Calls Tryz.prog 379 #[.pointer (some ⟨P, 0, none⟩)] w (ErrPost (jobE j) w) := by
 obtain ⟨p0, p1, p2, p3, p4⟩ := Blk.c5 (hp)
 have hlp := hp.lt
 have HC := hid (show Calls Tryz.prog _ #[.agg #[.string j.name, .int .i64 j.prio, .int .i64 j.need, .int .i64 j.tries, .string j.tag]] w _ from checkJob_any j w h1 h2 hT)
 obtain ⟨E, hE⟩ : ∃ E, jobE j = E := ⟨_, rfl⟩
 rw [hE] at HC ⊢
 clear hp hE
 go_enter Tryz.func379, Tryz.ntmps379
 go_wp2_with fail
 refine Calls.mono HC.out ?_
 rintro e w5 ⟨rfl, hb5⟩
 have HB := hid hb5
 clear hb5 HC
 go_wp2
 go_ret
 exact ⟨rfl, HB.out⟩
theorem pcheck_node (j : NodeD) (P : Nat) (w : World) (hp : Blk w P 252 #[.string j.name, .int .i64 j.room, .string j.zone]) (h1 : j.name.size ≤ 9223372036854775807) (h2 : j.zone.size ≤ 9223372036854775807) (hT : Tabs w) : Calls Tryz.prog 383 #[.pointer (some ⟨P, 0, none⟩)] w (ErrPost (nodeE j) w) := by
 have p0 : w.cell? ⟨P, 0, none⟩ = some (.string j.name) := hp.cell 0
 have p1 : w.cell? ⟨P, 1, none⟩ = some (.int .i64 j.room) := hp.cell 1
 have p2 : w.cell? ⟨P, 2, none⟩ = some (.string j.zone) := hp.cell 2
 have hlp := hp.lt
 have HC := hid (show Calls Tryz.prog _ #[.agg #[.string j.name, .int .i64 j.room, .string j.zone]] w _ from checkNode_any j w h1 h2 hT)
 obtain ⟨E, hE⟩ : ∃ E, nodeE j = E := ⟨_, rfl⟩
 rw [hE] at HC ⊢
 clear hp hE
 go_enter Tryz.func383, Tryz.ntmps383
 go_wp2_with fail
 refine Calls.mono HC.out ?_
 rintro e w5 ⟨rfl, hb5⟩
 have HB := hid hb5
 clear hb5 HC
 go_wp2
 go_ret
 exact ⟨rfl, HB.out⟩
theorem pcheck_name (s : ByteArray) (P : Nat) (w : World) (hp : Blk w P 256 #[.string s]) (hs : s.size ≤ 9223372036854775807) (hT : Tabs w) : Calls Tryz.prog 392 #[.pointer (some ⟨P, 0, none⟩)] w (ErrPost (if nameOk s then 0 else 4) w) := by
 have p0 : w.cell? ⟨P, 0, none⟩ = some (.string s) := hp.cell 0
 have hlp := hp.lt
 have HC := hid (isName_any s w hs hT)
 obtain ⟨b, hb⟩ : ∃ b, nameOk s = b := ⟨_, rfl⟩
 rw [hb] at HC ⊢
 obtain ⟨E, hE⟩ : ∃ E : Int, (if b = true then (0 : Int) else 4) = E := ⟨_, rfl⟩
 rw [hE]
 have HE := hid hE
 clear hp hb hE
 go_enter Tryz.func392, Tryz.ntmps392
 go_wp2_with fail
 refine Calls.mono HC.out ?_
 rintro e w5 ⟨rfl, hb5⟩
 have HB := hid hb5
 clear hb5 HC
 cases b
 · obtain rfl : (4 : Int) = E := HE.out
   go_wp2
   go_ret
   exact ⟨rfl, HB.out⟩
 · obtain rfl : (0 : Int) = E := HE.out
   go_wp2
   go_ret
   exact ⟨rfl, HB.out⟩
theorem pcheck_count (s : Int) (P : Nat) (w : World) (hp : Blk w P 258 #[.int .i64 s]) : Calls Tryz.prog 396 #[.pointer (some ⟨P, 0, none⟩)] w (ErrPost (if ranged s 0 1099511627776 then 0 else 1) w) := by
 have p0 : w.cell? ⟨P, 0, none⟩ = some (.int .i64 s) := hp.cell 0
 have hlp := hp.lt
 have HC := hid (isTime_any s w)
 obtain ⟨b, hb⟩ : ∃ b, ranged s 0 1099511627776 = b := ⟨_, rfl⟩
 rw [hb] at HC ⊢
 obtain ⟨E, hE⟩ : ∃ E : Int, (if b = true then (0 : Int) else 1) = E := ⟨_, rfl⟩
 rw [hE]
 have HE := hid hE
 clear hp hb hE
 go_enter Tryz.func396, Tryz.ntmps396
 go_wp2_with fail
 refine Calls.mono HC.out ?_
 rintro e w5 ⟨rfl, hb5⟩
 have HB := hid hb5
 clear hb5 HC
 cases b
 · obtain rfl : (1 : Int) = E := HE.out
   go_wp2
   go_ret
   exact ⟨rfl, HB.out⟩
 · obtain rfl : (0 : Int) = E := HE.out
   go_wp2
   go_ret
   exact ⟨rfl, HB.out⟩
theorem pcheck_lease (l : LeaseD) (P : Nat) (w : World) (hp : Blk w P 255 #[.string l.job, .string l.node, .int .i64 l.till]) (h1 : l.job.size ≤ 9223372036854775807) (h2 : l.node.size ≤ 9223372036854775807) (hT : Tabs w) : Calls Tryz.prog 387 #[.pointer (some ⟨P, 0, none⟩)] w (ErrPost (lsE l) w) := by
 have p0 : w.cell? ⟨P, 0, none⟩ = some (.string l.job) := hp.cell 0
 have hlp := hp.lt
 have HP := hid hp
 have HT := hid hT
 have HJ := hid (isName_any l.job w h1 hT)
 obtain ⟨a, ha⟩ : ∃ a, nameOk l.job = a := ⟨_, rfl⟩
 obtain ⟨b, hb⟩ : ∃ b, nameOk l.node = b := ⟨_, rfl⟩
 obtain ⟨c, hc⟩ : ∃ c, ranged l.till 0 1099511627776 = c := ⟨_, rfl⟩
 obtain ⟨E, hE⟩ : ∃ E, lsE l = E := ⟨_, rfl⟩
 rw [hE]
 unfold lsE at hE
 rw [ha, hb, hc] at hE
 rw [ha] at HJ
 have HE := hid hE
 have Hb := hid hb
 have Hc := hid hc
 clear hp hT ha hb hc hE
 go_enter Tryz.func387, Tryz.ntmps387
 go_wp2_with fail
 refine Calls.mono HJ.out ?_
 rintro e w1 ⟨rfl, hb1⟩
 have HB1 := hid hb1
 have HP1 := hid (HP.out.below hb1 HP.out.lt)
 clear hb1 HJ p0 hlp
 cases a
 · obtain rfl : (4 : Int) = E := HE.out
   go_wp2
   go_ret
   exact ⟨rfl, HB1.out⟩
 have p1 : w1.cell? ⟨P, 1, none⟩ = some (.string l.node) := HP1.out.cell 1
 have hlp := HP1.out.lt
 have HN := hid (isName_any l.node w1 h2 (HT.out.below HB1.out))
 rw [Hb.out] at HN
 go_wp2_with fail
 refine Calls.mono HN.out ?_
 rintro e w2 ⟨rfl, hb2⟩
 have HB2 := hid (HB1.out.trans (hb2.mono HB1.out.size))
 have HP2 := hid (HP1.out.below hb2 HP1.out.lt)
 clear hb2 HN p1 hlp
 cases b
 · obtain rfl : (4 : Int) = E := HE.out
   go_wp2
   go_ret
   exact ⟨rfl, HB2.out⟩
 have p2 : w2.cell? ⟨P, 2, none⟩ = some (.int .i64 l.till) := HP2.out.cell 2
 have hlp := HP2.out.lt
 have HR := hid (isTime_any l.till w2)
 rw [Hc.out] at HR
 go_wp2_with fail
 refine Calls.mono HR.out ?_
 rintro e w3 ⟨rfl, hb3⟩
 have HB3 := hid (HB2.out.trans (hb3.mono HB2.out.size))
 clear hb3 HR p2 hlp
 cases c
 · obtain rfl : (1 : Int) = E := HE.out
   go_wp2
   go_ret
   exact ⟨rfl, HB3.out⟩
 · obtain rfl : (0 : Int) = E := HE.out
   go_wp2
   go_ret
   exact ⟨rfl, HB3.out⟩
end Go.Proofs.YtjgnnobccecpeaaGreatDoor
/- An argument that is a state, opened. -/
namespace Go.Proofs.YtjgnnobccecpeaaGreatDoor
open Go.Lib (hid)
open Go.ChangeShapes Go.WideShapes Go.ChangeAt Go.RowKit
def I64 (n : Int) : Prop := -9223372036854775808 ≤ n ∧ n ≤ 9223372036854775807
def Short (s : ByteArray) : Prop := s.size ≤ 9223372036854775807
def JobFull (j : JobD) : Prop := Short j.name ∧ I64 j.prio ∧ I64 j.need ∧ I64 j.tries ∧ Short j.tag
def NodeFull (n : NodeD) : Prop := Short n.name ∧ I64 n.room ∧ Short n.zone
def LeaseFull (l : LeaseD) : Prop := Short l.job ∧ Short l.node ∧ I64 l.till
theorem open_rows {H α : Type} {enc : TypeId × Value → H} {W : World} {held : Bool} {fuel : Nat} {cs : List Value} {x : DataW H × List MemPlace} {t e : TypeId} {sz : Nat} (encA : α → List Value) (ok : α → Prop) (a0 : α)
 (ht : Tryz.prog.underlying t = some (.slice e)) (hc : Tryz.prog.cellsOf e = sz) (hsz : 0 < sz) (hlen : ∀ a, (encA a).length = sz)
 (each : ∀ n cs' y, DataW.trod enc Tryz.prog W 0 (fun _ => true) held n e cs' = some y → ∃ a : α, cs' = encA a ∧ ok a)
 (h : DataW.trod enc Tryz.prog W 0 (fun _ => true) held fuel t cs = some x) (hlt : ∀ z ∈ x.2, z.block < W.heap.size) :
 ∃ (xs : List α) (A : Option Addr) (n c : Nat), cs = [.slice A n c] ∧ xs.length = n ∧ n ≤ 9223372036854775807 ∧ SlAt W W.heap.size sz A n (rowsV encA xs) ∧ ∀ a ∈ xs, ok a := by
 haveI : Inhabited α := ⟨a0⟩
 rcases Go.Deep.open_slice ht h with ⟨rfl, -⟩ | ⟨a, len, cap, m, n, D, Pl, rfl, hb, hl, hm, hmm, rfl, hx⟩
 · exact ⟨[], none, 0, 0, rfl, rfl, by omega, SlAt.nil, by simp⟩
 · simp only [if_true] at hmm
   subst hmm
   rw [hc] at hx hlt
   obtain ⟨f, hf⟩ := Go.Deep.choose_lt (α := α) (p := fun i u => W.cells? 0 (a.add (i * sz)) sz = some (encA u) ∧ ok u) (fun i hi => by
    obtain ⟨cs', h1, h2⟩ := hx i hi
    obtain ⟨u, rfl, hu⟩ := each _ _ _ h2
    exact ⟨u, h1, hu⟩)
   have hcell : ∀ i, i < m → ∀ j, j < sz → W.cell? ((a.add (i * sz)).add j) = (encA (f i))[j]? := fun i hi j hj => (World.cells?_some (hf i hi).1).2.2 j hj
   refine ⟨(List.range len).map f, some a, len, m, rfl, by simp, by unfold maxLen at hm; omega, ⟨by rw [rowsV_length hlen]; simp, fun hn => ?_⟩, fun u hu => ?_⟩
   · have hfst : ∃ v, W.cell? ((a.add (0 * sz)).add 0) = some v := by
      rw [hcell 0 (by omega) 0 hsz]
      exact ⟨_, List.getElem?_eq_getElem (by rw [hlen]; exact hsz)⟩
     obtain ⟨v, hv⟩ := hfst
     obtain ⟨b, off, spot⟩ := a
     have hspot : spot = none := by simpa [Addr.add] using World.cell?_spot hv
     subst hspot
     refine ⟨b, off, rfl, ?_, fun j u hu => ?_⟩
     · refine hlt (.cell b off) (List.mem_append_left _ (MemPlace.mem_row.2 ⟨0, ?_, rfl⟩))
       exact Nat.mul_pos (by omega) hsz
     · have hj : j < len * sz := by
        rcases Nat.lt_or_ge j (len * sz) with h1 | h1
        · exact h1
        · rw [List.getElem?_eq_none (by rw [rowsV_length hlen]; simpa using h1)] at hu; cases hu
       have hq : j / sz < len := Nat.div_lt_of_lt_mul (by rw [Nat.mul_comm]; exact hj)
       have hr : j % sz < sz := Nat.mod_lt _ hsz
       have hjd : j = j / sz * sz + j % sz := by rw [Nat.mul_comm]; exact (Nat.div_add_mod j sz).symm
       have h1 := hcell (j / sz) (by omega) (j % sz) hr
       rw [add_plain, add_plain, Nat.add_assoc, ← hjd] at h1
       rw [h1, ← hu]
       conv => rhs; rw [hjd]
       rw [rowsV_get hlen _ _ _ (f (j / sz)) (by simp [hq]) hr]
   · obtain ⟨i, hi, rfl⟩ := List.mem_map.1 hu
     exact (hf i (by have := List.mem_range.1 hi; omega)).2
theorem cellsJob : Tryz.prog.cellsOf 38 = 5 := by kernel_rfl
theorem cellsNode : Tryz.prog.cellsOf 40 = 3 := by kernel_rfl
theorem cellsLease : Tryz.prog.cellsOf 42 = 3 := by kernel_rfl
theorem cellsState : Tryz.prog.cellsOf 26 = 4 := by kernel_rfl
theorem short_of {s : ByteArray} (h : s.size ≤ maxLen) : Short s := by unfold maxLen at h; unfold Short; omega
theorem eachJob {H : Type} {enc : TypeId × Value → H} {W : World} {held : Bool} (n : Nat) (cs : List Value) (y : DataW H × List MemPlace) (h : DataW.trod enc Tryz.prog W 0 (fun _ => true) held n 38 cs = some y) : ∃ a : JobD, cs = jobV a ∧ JobFull a := by
 obtain ⟨xs, m, -, -, hl, hxs, hall⟩ := DataW.trod_struct Tryz.underlying38 h
 have hl2 : cs.length = 5 := hl.trans cellsJob
 have hxs2 : xs.length = 5 := hxs
 match cs, hl2 with
 | [v0, v1, v2, v3, v4], _ =>
  have q0 := hall 0 _ rfl
  rw [List.getElem?_eq_getElem (by omega)] at q0
  obtain ⟨s0, e0, -, z0⟩ := DataW.trod_string Tryz.underlying9 q0
  replace e0 : [v0] = [_] := e0
  obtain rfl := (List.cons.inj e0).1
  have q1 := hall 1 _ rfl
  rw [List.getElem?_eq_getElem (by omega)] at q1
  obtain ⟨s1, e1, -, z1⟩ := DataW.trod_int Tryz.underlying3 q1
  replace e1 : [v1] = [_] := e1
  obtain rfl := (List.cons.inj e1).1
  have q2 := hall 2 _ rfl
  rw [List.getElem?_eq_getElem (by omega)] at q2
  obtain ⟨s2, e2, -, z2⟩ := DataW.trod_int Tryz.underlying3 q2
  replace e2 : [v2] = [_] := e2
  obtain rfl := (List.cons.inj e2).1
  have q3 := hall 3 _ rfl
  rw [List.getElem?_eq_getElem (by omega)] at q3
  obtain ⟨s3, e3, -, z3⟩ := DataW.trod_int Tryz.underlying3 q3
  replace e3 : [v3] = [_] := e3
  obtain rfl := (List.cons.inj e3).1
  have q4 := hall 4 _ rfl
  rw [List.getElem?_eq_getElem (by omega)] at q4
  obtain ⟨s4, e4, -, z4⟩ := DataW.trod_string Tryz.underlying9 q4
  replace e4 : [v4] = [_] := e4
  obtain rfl := (List.cons.inj e4).1
  exact ⟨⟨s0, s1, s2, s3, s4⟩, rfl, short_of z0, wf_bounds_i64 z1, wf_bounds_i64 z2, wf_bounds_i64 z3, short_of z4⟩
theorem eachNode {H : Type} {enc : TypeId × Value → H} {W : World} {held : Bool} (n : Nat) (cs : List Value) (y : DataW H × List MemPlace) (h : DataW.trod enc Tryz.prog W 0 (fun _ => true) held n 40 cs = some y) : ∃ a : NodeD, cs = nodeV a ∧ NodeFull a := by
 obtain ⟨xs, m, -, -, hl, hxs, hall⟩ := DataW.trod_struct Tryz.underlying40 h
 have hl2 : cs.length = 3 := hl.trans cellsNode
 have hxs2 : xs.length = 3 := hxs
 match cs, hl2 with
 | [v0, v1, v2], _ =>
  have q0 := hall 0 _ rfl
  rw [List.getElem?_eq_getElem (by omega)] at q0
  obtain ⟨s0, e0, -, z0⟩ := DataW.trod_string Tryz.underlying9 q0
  replace e0 : [v0] = [_] := e0
  obtain rfl := (List.cons.inj e0).1
  have q1 := hall 1 _ rfl
  rw [List.getElem?_eq_getElem (by omega)] at q1
  obtain ⟨s1, e1, -, z1⟩ := DataW.trod_int Tryz.underlying3 q1
  replace e1 : [v1] = [_] := e1
  obtain rfl := (List.cons.inj e1).1
  have q2 := hall 2 _ rfl
  rw [List.getElem?_eq_getElem (by omega)] at q2
  obtain ⟨s2, e2, -, z2⟩ := DataW.trod_string Tryz.underlying9 q2
  replace e2 : [v2] = [_] := e2
  obtain rfl := (List.cons.inj e2).1
  exact ⟨⟨s0, s1, s2⟩, rfl, short_of z0, wf_bounds_i64 z1, short_of z2⟩
theorem eachLease {H : Type} {enc : TypeId × Value → H} {W : World} {held : Bool} (n : Nat) (cs : List Value) (y : DataW H × List MemPlace) (h : DataW.trod enc Tryz.prog W 0 (fun _ => true) held n 42 cs = some y) : ∃ a : LeaseD, cs = leaseV a ∧ LeaseFull a := by
 obtain ⟨xs, m, -, -, hl, hxs, hall⟩ := DataW.trod_struct Tryz.underlying42 h
 have hl2 : cs.length = 3 := hl.trans cellsLease
 have hxs2 : xs.length = 3 := hxs
 match cs, hl2 with
 | [v0, v1, v2], _ =>
  have q0 := hall 0 _ rfl
  rw [List.getElem?_eq_getElem (by omega)] at q0
  obtain ⟨s0, e0, -, z0⟩ := DataW.trod_string Tryz.underlying9 q0
  replace e0 : [v0] = [_] := e0
  obtain rfl := (List.cons.inj e0).1
  have q1 := hall 1 _ rfl
  rw [List.getElem?_eq_getElem (by omega)] at q1
  obtain ⟨s1, e1, -, z1⟩ := DataW.trod_string Tryz.underlying9 q1
  replace e1 : [v1] = [_] := e1
  obtain rfl := (List.cons.inj e1).1
  have q2 := hall 2 _ rfl
  rw [List.getElem?_eq_getElem (by omega)] at q2
  obtain ⟨s2, e2, -, z2⟩ := DataW.trod_int Tryz.underlying3 q2
  replace e2 : [v2] = [_] := e2
  obtain rfl := (List.cons.inj e2).1
  exact ⟨⟨s0, s1, s2⟩, rfl, short_of z0, short_of z1, wf_bounds_i64 z2⟩
structure StFull (st : StateD) : Prop where
 rev : I64 st.rev
 jobs : ∀ j ∈ st.jobs, JobFull j
 nodes : ∀ n ∈ st.nodes, NodeFull n
 leases : ∀ l ∈ st.leases, LeaseFull l
theorem open_state {H : Type} {enc : TypeId × Value → H} {W : World} {r : Reach} {b0 : Nat} {held : Bool} {v : Value} {d : DataW H} {p : List MemPlace}
 (hval : Value.okWide Tryz.prog W r b0 26 v) (hd : DataW.Trod enc Tryz.prog W 0 (fun _ => true) held 26 v d p) (hlt : ∀ x ∈ p, x.block < W.heap.size) :
 ∃ (st : StateD) (x : StA), v = .agg (stC st x) ∧ StAt W W.heap.size st x ∧ StFull st := by
 obtain ⟨v0, v1, v2, v3, y0, y1, y2, y3, n, rfl, rfl, rfl, h0, h1, h2, h3⟩ := Joins.open_agg4 Tryz.underlying26 (by kernel_rfl) cellsState hval hd
 obtain ⟨rev, e0, -, zr⟩ := DataW.trod_int Tryz.underlying3 h0
 obtain ⟨js, aj, nj, cj, e1, lj, bj, hj, oj⟩ := open_rows jobV JobFull ⟨⟨#[]⟩, 0, 0, 0, ⟨#[]⟩⟩ Tryz.underlying22 cellsJob (by omega) jobV_len (fun n cs y h => eachJob n cs y h) h1 (fun z hz => hlt z (by simp [hz]))
 obtain ⟨ns, an, nn, cn, e2, ln, bn, hn, on_⟩ := open_rows nodeV NodeFull ⟨⟨#[]⟩, 0, ⟨#[]⟩⟩ Tryz.underlying23 cellsNode (by omega) nodeV_len (fun n cs y h => eachNode n cs y h) h2 (fun z hz => hlt z (by simp [hz]))
 obtain ⟨ls, al, nl, cl, e3, ll, bl, hl, ol⟩ := open_rows leaseV LeaseFull ⟨⟨#[]⟩, ⟨#[]⟩, 0⟩ Tryz.underlying24 cellsLease (by omega) leaseV_len (fun n cs y h => eachLease n cs y h) h3 (fun z hz => hlt z (by simp [hz]))
 obtain rfl := (List.cons.inj e0).1
 obtain rfl := (List.cons.inj e1).1
 obtain rfl := (List.cons.inj e2).1
 obtain rfl := (List.cons.inj e3).1
 exact ⟨⟨rev, js, ns, ls⟩, ⟨aj, nj, cj, an, nn, cn, al, nl, cl⟩, rfl, ⟨hj, hn, hl, lj, ln, ll, bj, bn, bl, fun x hx => ⟨(oj x hx).1, (oj x hx).2.2.2.2⟩, fun x hx => ⟨(on_ x hx).1, (on_ x hx).2.2⟩, fun x hx => ⟨(ol x hx).1, (ol x hx).2.1⟩⟩,
  ⟨wf_bounds_i64 zr, oj, on_, ol⟩⟩
end Go.Proofs.YtjgnnobccecpeaaGreatDoor
