/- Of the proof of a statement: PlGood, PlNext, StTop, PlSrv, ZeroDe, DDec. -/
import Derived.Shelf.Abstract
import Derived.Deep.RegionWith
import Derived.Deep.Cut
import Derived.Deep.CutRange
import Derived.Laws.Bits64b
import Derived.Laws.BitsAllLaws
import Derived.Below
import Derived.Lib.ValidLaws
import Derived.Test.YtjgnnobccecpeaaGreatDoorRows
import Derived.Test.YtjgnnobccecpeaaGreatDoorPPlPlace
import Derived.Test.YtjgnnobccecpeaaGreatDoorPStChk
import Derived.Test.YtjgnnobccecpeaaGreatDoorPStChkS
set_option linter.unusedVariables false
set_option linter.unusedSimpArgs false
set_option maxRecDepth 100000
set_option maxHeartbeats 8000000
/- What a check that says yes gives: plain. -/
namespace Go.Proofs.YtjgnnobccecpeaaGreatDoor
open Go.Lib (hid)
theorem nameOk_size {s : ByteArray} (h : nameOk s = true) : s.size ≤ 16 := by
 by_cases hs : s.size ≤ 16
 · exact hs
 · unfold nameOk at h; rw [txtOk_long hs] at h; simp at h
theorem txtOk_size {s : ByteArray} (h : txtOk s = true) : s.size ≤ 16 := by
 by_cases hs : s.size ≤ 16
 · exact hs
 · rw [txtOk_long hs] at h; simp at h
theorem jobE_zero {j : JobD} (h : jobE j = 0) : nameOk j.name = true ∧ txtOk j.tag = true ∧ (-1000 ≤ j.prio ∧ j.prio ≤ 1000) ∧ (0 ≤ j.need ∧ j.need ≤ 1000000) ∧ (0 ≤ j.tries ∧ j.tries ≤ 100) := by
 unfold jobE at h
 by_cases h1 : (nameOk j.name && txtOk j.tag) = true
 · rw [if_pos h1] at h
   by_cases h2 : (ranged j.prio (-1000) 1000 && ranged j.need 0 1000000 && ranged j.tries 0 100) = true
   · simp only [Bool.and_eq_true] at h1 h2
     exact ⟨h1.1, h1.2, ranged_iff.1 h2.1.1, ranged_iff.1 h2.1.2, ranged_iff.1 h2.2⟩
   · rw [if_neg h2] at h; exact absurd h (by decide)
 · rw [if_neg h1] at h; exact absurd h (by decide)
theorem nodeE_zero {n : NodeD} (h : nodeE n = 0) : nameOk n.name = true ∧ txtOk n.zone = true ∧ (0 ≤ n.room ∧ n.room ≤ 1000000) := by
 unfold nodeE at h
 by_cases h1 : (nameOk n.name && txtOk n.zone) = true
 · rw [if_pos h1] at h
   by_cases h2 : ranged n.room 0 1000000 = true
   · simp only [Bool.and_eq_true] at h1
     exact ⟨h1.1, h1.2, ranged_iff.1 h2⟩
   · rw [if_neg h2] at h; exact absurd h (by decide)
 · rw [if_neg h1] at h; exact absurd h (by decide)
end Go.Proofs.YtjgnnobccecpeaaGreatDoor
/- What a request does to a state: plain. -/
namespace Go.Proofs.YtjgnnobccecpeaaGreatDoor
open Go.Lib (hid)
structure ReqD where
 kind : Int
 job : JobD
 node : NodeD
 lease : LeaseD
 name : ByteArray
 n : Int
def stPutJ (st : StateD) (x : JobD) : StateD := ⟨st.rev, putK JobD.name st.jobs x, st.nodes, st.leases⟩
def stPutN (st : StateD) (x : NodeD) : StateD := ⟨st.rev, st.jobs, putK NodeD.name st.nodes x, st.leases⟩
def stDelJ (st : StateD) (s : ByteArray) : StateD := ⟨st.rev, st.jobs.filter fun a => !decide (a.name = s), st.nodes, st.leases.filter fun l => !decide (l.job = s)⟩
def stDelN (st : StateD) (s : ByteArray) : StateD := ⟨st.rev, st.jobs, st.nodes.filter fun a => !decide (a.name = s), st.leases.filter fun l => !decide (l.node = s)⟩
def stFree (st : StateD) (s : ByteArray) : StateD := ⟨st.rev, st.jobs, st.nodes, st.leases.filter fun l => !decide (l.job = s)⟩
def stTick (st : StateD) (t : Int) : StateD := ⟨st.rev, st.jobs, st.nodes, st.leases.filter fun l => !decide (l.till ≤ t)⟩
def tryJ (j : JobD) : JobD := ⟨j.name, j.prio, j.need, j.tries + 1, j.tag⟩
def stGrant (st : StateD) (j : JobD) (l : LeaseD) : StateD := ⟨st.rev, putK JobD.name st.jobs (tryJ j), st.nodes, putK LeaseD.job st.leases l⟩
def grantR (st : StateD) (now : Int) (l : LeaseD) : Int × StateD × Int :=
 match jobOf st.jobs l.job with
 | none => (6, st, now)
 | some j => if (nodeOf st.nodes l.node).isSome = false then (6, st, now)
  else if (leaseOf st.leases l.job).isSome = true then (7, st, now)
  else if l.till ≤ now then (1, st, now)
  else if j.tries = 100 then (2, st, now)
  else (checkE (stGrant st j l), stGrant st j l, now)
def doR (st : StateD) (now : Int) (q : ReqD) : Int × StateD × Int :=
 if q.kind = 1 then (checkE (stPutJ st q.job), stPutJ st q.job, now)
 else if q.kind = 2 then (checkE (stPutN st q.node), stPutN st q.node, now)
 else if q.kind = 3 then (if (jobOf st.jobs q.name).isSome = true then 0 else 6, stDelJ st q.name, now)
 else if q.kind = 4 then (if (nodeOf st.nodes q.name).isSome = true then 0 else 6, stDelN st q.name, now)
 else if q.kind = 5 then grantR st now q.lease
 else if q.kind = 6 then (if (leaseOf st.leases q.name).isSome = true then 0 else 6, stFree st q.name, now)
 else if q.kind = 7 then (if 1099511627776 - now < q.n then (1, st, now) else (0, stTick st (now + q.n), now + q.n))
 else (0, st, now)
def partE (q : ReqD) : Int :=
 if q.kind = 1 then jobE q.job else if q.kind = 2 then nodeE q.node
 else if q.kind = 3 ∨ q.kind = 4 ∨ q.kind = 6 then (if nameOk q.name then 0 else 4)
 else if q.kind = 5 then lsE q.lease
 else if q.kind = 7 then (if ranged q.n 0 1099511627776 then 0 else 1) else 0
def noJob : JobD := ⟨⟨#[]⟩, 0, 0, 0, ⟨#[]⟩⟩
def noNode : NodeD := ⟨⟨#[]⟩, 0, ⟨#[]⟩⟩
def noLease : LeaseD := ⟨⟨#[]⟩, ⟨#[]⟩, 0⟩
def ownQ (q : ReqD) : ReqD :=
 ⟨q.kind, if q.kind = 1 then q.job else noJob, if q.kind = 2 then q.node else noNode, if q.kind = 5 then q.lease else noLease, if q.kind = 3 ∨ q.kind = 4 ∨ q.kind = 6 then q.name else ⟨#[]⟩, if q.kind = 7 then q.n else 0⟩
open Classical in
noncomputable def reqE (q : ReqD) : Int := if ranged q.kind 1 9 = false then 1 else if ownQ q ≠ q then 4 else partE q
theorem rows_sorted {α : Type} {E : α → Int} {key : α → ByteArray} {l : List α} (h : rowsE E key l = 0) : KSorted key l := (rows_all none l h).2
end Go.Proofs.YtjgnnobccecpeaaGreatDoor
/- The walks of state.Check and of the law's bad state. -/
namespace Go.Proofs.YtjgnnobccecpeaaGreatDoor
open Go.Lib (hid)
open Go.RowKit
theorem scheck_any (st : StateD) (x : StA) (w : World) (hS : StAt w w.heap.size st x) (hT : Tabs w) :
 Calls Tryz.prog 27 #[.agg (stC st x)] w fun e w' => e = .returned (.int .i64 (checkE st)) ∧ Below w.heap.size w w' := by
 have hb1 : Below w.heap.size w (w.alloc (.cells (stC st x) 26)) := (Below.refl _ _).alloc (Nat.le_refl _) _
 have hC := hid (check_any st x _ ((hS.below hb1).more hb1.size) (hT.below hb1))
 have Hb1 := hid hb1
 clear hb1 hS hT
 obtain ⟨E, hE⟩ : ∃ E, checkE st = E := ⟨_, rfl⟩
 rw [hE]
 have HE := hid hE
 clear hE
 obtain ⟨rev, jobs, nodes, leases⟩ := st
 obtain ⟨aj, nj, cj, an, nn, cn, al, nl, cl⟩ := x
 simp only [stC] at *
 go_enter Tryz.func27, Tryz.ntmps27
 go_wp2_with fail
 refine Calls.mono hC.out ?_
 rintro e w1 ⟨hb, hcase⟩
 have Hb := hid (Hb1.out.trans (hb.mono Hb1.out.size))
 clear hb hC
 rw [HE.out] at hcase
 clear HE
 rcases hcase with ⟨hE, rfl⟩ | ⟨rfl, T, b1, b2, b3, n1, n2, n3, g3, rfl, -, -⟩
 · go_wp2
   refine bodyPost_ret (v := .int .i64 E) (by simp [results, Tryz.results27, go_sem]) rfl ⟨rfl, Hb.out⟩
 · go_wp2
   refine bodyPost_ret (v := .int .i64 0) (by simp [results, Tryz.results27, go_sem]) rfl ⟨rfl, Hb.out⟩
theorem bad_any (w : World) : Calls Tryz.prog 9 #[] w fun e w' => e = .returned (.agg #[.int .i64 (-1), .slice none 0 0, .slice none 0 0, .slice none 0 0]) ∧ Below w.heap.size w w' := by
 go_enter Tryz.func9, Tryz.ntmps9
 go_wp2
 refine bodyPost_ret (v := .agg #[.int .i64 (-1), .slice none 0 0, .slice none 0 0, .slice none 0 0]) (by simp [results, Tryz.results9, go_sem]) rfl ⟨rfl, ?_⟩
 exact (Below.refl _ _).alloc (Nat.le_refl _) _
def badSt : StateD := ⟨-1, [], [], []⟩
def badA : StA := ⟨none, 0, 0, none, 0, 0, none, 0, 0⟩
theorem badAt (w : World) (B : Nat) : StAt w B badSt badA :=
 ⟨SlAt.nil, SlAt.nil, SlAt.nil, rfl, rfl, rfl, by decide, by decide, by decide, (fun _ h => by cases h), (fun _ h => by cases h), (fun _ h => by cases h)⟩
theorem bad_check : checkE badSt = 1 := ck_rev rfl
end Go.Proofs.YtjgnnobccecpeaaGreatDoor
/- What a server answers: plain. -/
namespace Go.Proofs.YtjgnnobccecpeaaGreatDoor
open Go.Lib (hid)
open Go.Op (bytesLess)
section
variable {α : Type} {E : α → Int} {key : α → ByteArray}
theorem rows_back : ∀ (p : Option ByteArray) (l : List α), (∀ x ∈ l, E x = 0 ∧ before p (key x) = true) → KSorted key l → rowsFrom E key p l = 0
 | _, [], _, _ => rfl
 | p, x :: l, h, hs => by
  obtain ⟨h1, h2⟩ := List.pairwise_cons.1 hs
  have h0 := h x List.mem_cons_self
  unfold rowsFrom
  rw [if_pos h0.1, if_pos h0.2]
  exact rows_back (some (key x)) l (fun y hy => ⟨(h y (List.mem_cons_of_mem _ hy)).1, h1 y hy⟩) h2
theorem rows_iff {l : List α} : rowsE E key l = 0 ↔ (∀ x ∈ l, E x = 0) ∧ KSorted key l :=
 ⟨fun h => ⟨fun x hx => rows_zero h hx, rows_sorted h⟩, fun h => rows_back none l (fun x hx => ⟨h.1 x hx, rfl⟩) h.2⟩
theorem rows_sub {E' : α → Int} {l l' : List α} (h : rowsE E key l = 0) (hs : l'.Sublist l) (he : ∀ x ∈ l', E x = 0 → E' x = 0) : rowsE E' key l' = 0 := by
 obtain ⟨h1, h2⟩ := rows_iff.1 h
 exact rows_iff.2 ⟨fun x hx => he x hx (h1 x (hs.subset hx)), List.Pairwise.sublist hs h2⟩
end
theorem check_iff {st : StateD} : checkE st = 0 ↔ ranged st.rev 0 1099511627776 = true ∧ sizesOk st = true ∧ rowsE jobE JobD.name st.jobs = 0 ∧ rowsE nodeE NodeD.name st.nodes = 0 ∧ rowsE (leaseE st) LeaseD.job st.leases = 0 ∧ roomOk st = true := by
 unfold checkE
 constructor
 · intro h
   split at h
   · omega
   split at h
   · omega
   split at h
   · omega
   split at h
   · omega
   split at h
   · omega
   split at h
   · rename_i h1 h2 h3 h4 h5 h6
     exact ⟨by simpa using h1, by simpa using h2, Decidable.not_not.1 h3, Decidable.not_not.1 h4, Decidable.not_not.1 h5, h6⟩
   · omega
 · rintro ⟨h1, h2, h3, h4, h5, h6⟩
   rw [if_neg (by rw [h1]; decide), if_neg (by rw [h2]; decide), if_neg (by rw [h3]; decide), if_neg (by rw [h4]; decide), if_neg (by rw [h5]; decide), if_pos h6]
theorem usedL_sub {st st' : StateD} (hn : NeedsOk st) (s : ByteArray) : ∀ {l' l : List LeaseD}, l'.Sublist l → (∀ x ∈ l', needOf st' x s = needOf st x s) → usedL st' s l' ≤ usedL st s l
 | _, _, .slnil, _ => Int.le_refl _
 | _, _, .cons a h, he => by
  have ih := usedL_sub hn s h he
  have := (needOf_bound hn a s).1
  show _ ≤ needOf st a s + usedL st s _
  omega
 | _, _, .cons_cons a h, he => by
  have ih := usedL_sub hn s h (fun x hx => he x (List.mem_cons_of_mem _ hx))
  have := he a List.mem_cons_self
  show needOf st' a s + usedL st' s _ ≤ needOf st a s + usedL st s _
  omega
theorem usedL_same {st st' : StateD} (h : st'.jobs = st.jobs) (s : ByteArray) : ∀ l : List LeaseD, usedL st' s l = usedL st s l
 | [] => rfl
 | a :: l => by
  show needOf st' a s + usedL st' s l = needOf st a s + usedL st s l
  rw [usedL_same h s l]
  unfold needOf
  rw [h]
theorem check_sub {st st' : StateD} (h : checkE st = 0) (hr : st'.rev = st.rev) (hj : st'.jobs.Sublist st.jobs) (hn : st'.nodes.Sublist st.nodes) (hl : st'.leases.Sublist st.leases)
 (ho : ∀ l ∈ st'.leases, jobOf st'.jobs l.job = jobOf st.jobs l.job ∧ nodeOf st'.nodes l.node = nodeOf st.nodes l.node) : checkE st' = 0 := by
 obtain ⟨h1, h2, h3, h4, h5, h6⟩ := check_iff.1 h
 refine check_iff.2 ⟨by rw [hr]; exact h1, ?_, rows_sub h3 hj (fun _ _ h => h), rows_sub h4 hn (fun _ _ h => h), rows_sub h5 hl (fun l hm he => ?_), ?_⟩
 · unfold sizesOk at h2 ⊢
   simp only [Bool.and_eq_true, decide_eq_true_eq] at h2 ⊢
   have e1 := hj.length_le
   have e2 := hn.length_le
   have e3 := hl.length_le
   omega
 · unfold leaseE at he ⊢
   rw [(ho l hm).1, (ho l hm).2]
   exact he
 · unfold roomOk at h6 ⊢
   rw [List.all_eq_true] at h6 ⊢
   intro n hm
   have h7 := h6 n (hn.subset hm)
   simp only [decide_eq_true_eq] at h7 ⊢
   refine Int.le_trans ?_ h7
   unfold usedE
   refine usedL_sub (needs_of h3) n.name hl fun x hx => ?_
   unfold needOf
   rw [(ho x hx).1]
theorem find_filter {α : Type} (key : α → ByteArray) (s q : ByteArray) (h : s ≠ q) : ∀ l : List α, (l.filter fun a => !decide (key a = q)).find? (fun a => decide (key a = s)) = l.find? fun a => decide (key a = s)
 | [] => rfl
 | a :: l => by
  have ih := find_filter key s q h l
  by_cases e : key a = q
  · have e2 : ¬ key a = s := fun e2 => h (e2.symm.trans e)
    rw [List.filter_cons, List.find?_cons, decide_eq_true e, decide_eq_false e2]
    simpa using ih
  · rw [List.filter_cons, decide_eq_false e]
    simp only [Bool.not_false, if_true]
    rw [List.find?_cons, List.find?_cons, ih]
theorem check_delJ {st : StateD} (h : checkE st = 0) (s : ByteArray) : checkE (stDelJ st s) = 0 := by
 refine check_sub h rfl List.filter_sublist (List.Sublist.refl _) List.filter_sublist fun l hl => ⟨?_, rfl⟩
 have := (List.mem_filter.1 hl).2
 exact find_filter JobD.name l.job s (by simpa using this) _
theorem check_delN {st : StateD} (h : checkE st = 0) (s : ByteArray) : checkE (stDelN st s) = 0 := by
 refine check_sub h rfl (List.Sublist.refl _) List.filter_sublist List.filter_sublist fun l hl => ⟨rfl, ?_⟩
 have := (List.mem_filter.1 hl).2
 exact find_filter NodeD.name l.node s (by simpa using this) _
theorem check_free {st : StateD} (h : checkE st = 0) (s : ByteArray) : checkE (stFree st s) = 0 :=
 check_sub h rfl (List.Sublist.refl _) (List.Sublist.refl _) List.filter_sublist fun _ _ => ⟨rfl, rfl⟩
theorem check_tick {st : StateD} (h : checkE st = 0) (t : Int) : checkE (stTick st t) = 0 :=
 check_sub h rfl (List.Sublist.refl _) (List.Sublist.refl _) List.filter_sublist fun _ _ => ⟨rfl, rfl⟩
def nextR (st : StateD) (now : Int) (q : ReqD) : Int × StateD × Int :=
 if q.kind = 1 then (checkE (stPutJ st q.job), stPutJ st q.job, now)
 else if q.kind = 2 then (checkE (stPutN st q.node), stPutN st q.node, now)
 else if q.kind = 3 then (if (jobOf st.jobs q.name).isSome = true then (checkE (stDelJ st q.name), stDelJ st q.name, now) else (6, st, now))
 else if q.kind = 4 then (if (nodeOf st.nodes q.name).isSome = true then (checkE (stDelN st q.name), stDelN st q.name, now) else (6, st, now))
 else if q.kind = 5 then (match jobOf st.jobs q.lease.job with
  | none => (6, st, now)
  | some j => if (nodeOf st.nodes q.lease.node).isSome = false then (6, st, now)
   else if (leaseOf st.leases q.lease.job).isSome = true then (7, st, now)
   else if q.lease.till ≤ now then (1, st, now)
   else if 100 < j.tries + 1 then (2, st, now)
   else (checkE (stGrant st j q.lease), stGrant st j q.lease, now))
 else if q.kind = 6 then (if (leaseOf st.leases q.name).isSome = true then (checkE (stFree st q.name), stFree st q.name, now) else (6, st, now))
 else if q.kind = 7 then (if 1099511627776 < now + q.n then (1, st, now + q.n) else (checkE (stTick st (now + q.n)), stTick st (now + q.n), now + q.n))
 else (checkE st, st, now)
theorem tries_of {st : StateD} (h : checkE st = 0) : ∀ j ∈ st.jobs, 0 ≤ j.tries ∧ j.tries ≤ 100 := fun _ hj => (jobE_zero (rows_zero (check_iff.1 h).2.2.1 hj)).2.2.2.2
theorem next_do {st : StateD} (h : checkE st = 0) (now : Int) (q : ReqD) : (nextR st now q).1 = (doR st now q).1 ∧ ((doR st now q).1 = 0 → nextR st now q = doR st now q) := by
 unfold nextR doR
 split
 · exact ⟨rfl, fun _ => rfl⟩
 split
 · exact ⟨rfl, fun _ => rfl⟩
 split
 · split
   · rw [check_delJ h]; exact ⟨rfl, fun _ => rfl⟩
   · exact ⟨rfl, fun h => by cases h⟩
 split
 · split
   · rw [check_delN h]; exact ⟨rfl, fun _ => rfl⟩
   · exact ⟨rfl, fun h => by cases h⟩
 split
 · unfold grantR
   cases hj : jobOf st.jobs q.lease.job with
   | none => exact ⟨rfl, fun _ => rfl⟩
   | some j =>
    dsimp only
    split
    · exact ⟨rfl, fun _ => rfl⟩
    split
    · exact ⟨rfl, fun _ => rfl⟩
    split
    · exact ⟨rfl, fun _ => rfl⟩
    have ht := tries_of h j (List.mem_of_find?_eq_some hj)
    by_cases h5 : j.tries = 100
    · rw [if_pos (by omega), if_pos h5]; exact ⟨rfl, fun _ => rfl⟩
    · rw [if_neg (by omega), if_neg h5]; exact ⟨rfl, fun _ => rfl⟩
 split
 · split
   · rw [check_free h]; exact ⟨rfl, fun _ => rfl⟩
   · exact ⟨rfl, fun h => by cases h⟩
 split
 · by_cases h7 : 1099511627776 < now + q.n
   · rw [if_pos h7, if_pos (by omega)]; exact ⟨rfl, fun h => by cases h⟩
   · rw [if_neg h7, if_neg (by omega), check_tick h]; exact ⟨rfl, fun _ => rfl⟩
 · rw [h]; exact ⟨rfl, fun _ => rfl⟩
def bumpS (st : StateD) : StateD := ⟨st.rev + 1, st.jobs, st.nodes, st.leases⟩
def rowsSame (a b : StateD) : Prop := a.jobs = b.jobs ∧ a.nodes = b.nodes ∧ a.leases = b.leases
noncomputable def askR (st : StateD) (now : Int) (q : ReqD) : Int × StateD × Int := if reqE q = 0 then doR st now q else (reqE q, st, now)
structure SrvR where
 e : Int
 ch : Bool
 st : StateD
 now : Int
open Classical in
noncomputable def srvR (st : StateD) (now : Int) (R : Int × StateD × Int) : SrvR :=
 if R.1 = 0 then (if rowsSame st R.2.1 then ⟨0, false, st, R.2.2⟩
  else if 1099511627776 < st.rev + 1 then ⟨2, false, st, now⟩ else ⟨0, true, bumpS R.2.1, R.2.2⟩)
 else ⟨R.1, false, st, now⟩
theorem doR_rev (st : StateD) (now : Int) (q : ReqD) : (doR st now q).2.1.rev = st.rev := by
 unfold doR grantR
 repeat' split
 all_goals rfl
theorem doR_check {st : StateD} (h : checkE st = 0) {now : Int} {q : ReqD} (h0 : (doR st now q).1 = 0) : checkE (doR st now q).2.1 = 0 := by
 have hn := next_do h now q
 rw [h0] at hn
 rw [← hn.2 rfl]
 have h1 := hn.1
 clear h0 hn
 unfold nextR at h1 ⊢
 split at h1
 · rename_i hk; rw [if_pos hk]; exact h1
 rename_i hk; rw [if_neg hk]
 split at h1
 · rename_i hk; rw [if_pos hk]; exact h1
 rename_i hk; rw [if_neg hk]
 split at h1
 · rename_i hk; rw [if_pos hk]
   split at h1
   · rename_i hi; rw [if_pos hi]; exact h1
   · cases h1
 rename_i hk; rw [if_neg hk]
 split at h1
 · rename_i hk; rw [if_pos hk]
   split at h1
   · rename_i hi; rw [if_pos hi]; exact h1
   · cases h1
 rename_i hk; rw [if_neg hk]
 split at h1
 · rename_i hk; rw [if_pos hk]
   cases hj : jobOf st.jobs q.lease.job with
   | none => rw [hj] at h1; cases h1
   | some j =>
    rw [hj] at h1
    dsimp only at h1 ⊢
    split at h1
    · cases h1
    rename_i h1'; rw [if_neg h1']
    split at h1
    · cases h1
    rename_i h1'; rw [if_neg h1']
    split at h1
    · cases h1
    rename_i h1'; rw [if_neg h1']
    split at h1
    · cases h1
    rename_i h1'; rw [if_neg h1']
    exact h1
 rename_i hk; rw [if_neg hk]
 split at h1
 · rename_i hk; rw [if_pos hk]
   split at h1
   · rename_i hi; rw [if_pos hi]; exact h1
   · cases h1
 rename_i hk; rw [if_neg hk]
 split at h1
 · rename_i hk; rw [if_pos hk]
   split at h1
   · cases h1
   · rename_i hi; rw [if_neg hi]; exact h1
 rename_i hk; rw [if_neg hk]
 exact h1
theorem bump_check {st : StateD} (h : checkE st = 0) (hr : ¬ 1099511627776 < st.rev + 1) : checkE (bumpS st) = 0 := by
 obtain ⟨h1, h2, h3, h4, h5, h6⟩ := check_iff.1 h
 have h7 := ranged_iff.1 h1
 refine check_iff.2 ⟨ranged_iff.2 ⟨by show 0 ≤ st.rev + 1; omega, by show st.rev + 1 ≤ 1099511627776; omega⟩, h2, h3, h4, h5, ?_⟩
 unfold roomOk usedE at h6 ⊢
 simp only [usedL_same (show (bumpS st).jobs = st.jobs from rfl)]
 exact h6
theorem srvR_ok {st : StateD} {now : Int} {q : ReqD} (h : checkE st = 0) (hn : 0 ≤ now ∧ now ≤ 1099511627776) : checkE (srvR st now (askR st now q)).st = 0 ∧ 0 ≤ (srvR st now (askR st now q)).now ∧ (srvR st now (askR st now q)).now ≤ 1099511627776 := by
 unfold srvR
 split
 · rename_i h0
   have hq : reqE q = 0 := by
    unfold askR at h0
    split at h0
    · assumption
    · exact h0
   have ha : askR st now q = doR st now q := by unfold askR; rw [if_pos hq]
   rw [ha] at h0 ⊢
   have hc := doR_check h h0
   have hv := doR_rev st now q
   have ht : 0 ≤ (doR st now q).2.2 ∧ (doR st now q).2.2 ≤ 1099511627776 := by
    by_cases hk : q.kind = 7
    · have hp : partE q = 0 := by
       unfold reqE at hq
       split at hq
       · cases hq
       split at hq
       · cases hq
       exact hq
      have hr : ranged q.n 0 1099511627776 = true := by
       unfold partE at hp
       rw [hk] at hp
       simp only [show ¬ (7 : Int) = 1 from by decide, show ¬ (7 : Int) = 2 from by decide, show ¬ (7 : Int) = 3 from by decide, show ¬ (7 : Int) = 4 from by decide, show ¬ (7 : Int) = 5 from by decide, show ¬ (7 : Int) = 6 from by decide, or_false, if_false, if_true] at hp
       by_cases hr : ranged q.n 0 1099511627776 = true
       · exact hr
       · rw [if_neg hr] at hp; cases hp
      have hr := ranged_iff.1 hr
      unfold doR at h0 ⊢
      simp only [hk, show ¬ (7 : Int) = 1 from by decide, show ¬ (7 : Int) = 2 from by decide, show ¬ (7 : Int) = 3 from by decide, show ¬ (7 : Int) = 4 from by decide, show ¬ (7 : Int) = 5 from by decide, show ¬ (7 : Int) = 6 from by decide, if_false, if_true] at h0 ⊢
      split at h0
      · cases h0
      · rename_i hlt
        rw [if_neg hlt]
        dsimp only
        omega
    · have : (doR st now q).2.2 = now := by
       unfold doR grantR
       repeat' split
       all_goals first | rfl | (exfalso; exact hk ‹_›)
      rw [this]; exact hn
   split
   · exact ⟨h, ht⟩
   split
   · exact ⟨h, hn⟩
   · rename_i hs hr
     exact ⟨bump_check hc (by rw [hv]; exact hr), ht⟩
 · exact ⟨h, hn⟩
end Go.Proofs.YtjgnnobccecpeaaGreatDoor
/- The zero delta. -/
namespace Go.Proofs.YtjgnnobccecpeaaGreatDoor
open Go.Lib (hid)
open Go.RowKit
def zeroD : DeltaD := ⟨0, 0, [], [], [], [], [], []⟩
def zeroDA : DelA := ⟨none, 0, 0, none, 0, 0, none, 0, 0, none, 0, 0, none, 0, 0, none, 0, 0⟩
theorem zeroDAt (w : World) (B : Nat) : DelAt w B zeroD zeroDA :=
 { j := SlAt.nil, n := SlAt.nil, l := SlAt.nil, gj := SlAt.nil, gn := SlAt.nil, gl := SlAt.nil, lj := rfl, ln := rfl, ll := rfl, lgj := rfl, lgn := rfl, lgl := rfl,
   bj := by decide, bn := by decide, bl := by decide, bgj := by decide, bgn := by decide, bgl := by decide,
   oj := (fun _ h => by cases h), on_ := (fun _ h => by cases h), ol := (fun _ h => by cases h), ogj := (fun _ h => by cases h), ogn := (fun _ h => by cases h), ogl := (fun _ h => by cases h) }
end Go.Proofs.YtjgnnobccecpeaaGreatDoor
/- The walk of delta.Decode. -/
namespace Go.Proofs.YtjgnnobccecpeaaGreatDoor
open Go.Lib (hid)
open Go.RowKit
structure DeOwn (w : World) (g : Nat) (d : DeltaD) (x : DelA) : Prop where
 j : ∃ b, g < b ∧ w.ownsRow b 38 5 (.slice x.aj x.nj x.cj) x.nj (rowsV jobV d.jobs)
 n : ∃ b, g < b ∧ w.ownsRow b 40 3 (.slice x.an x.nn x.cn) x.nn (rowsV nodeV d.nodes)
 l : ∃ b, g < b ∧ w.ownsRow b 42 3 (.slice x.al x.nl x.cl) x.nl (rowsV leaseV d.leases)
 gj : ∃ b, g < b ∧ w.ownsRow b 9 1 (.slice x.agj x.ngj x.cgj) x.ngj (rowsV strV d.gj)
 gn : ∃ b, g < b ∧ w.ownsRow b 9 1 (.slice x.agn x.ngn x.cgn) x.ngn (rowsV strV d.gn)
 gl : ∃ b, g < b ∧ w.ownsRow b 9 1 (.slice x.agl x.ngl x.cgl) x.ngl (rowsV strV d.gl)
 lj : d.jobs.length = x.nj
 ln : d.nodes.length = x.nn
 ll : d.leases.length = x.nl
 lgj : d.gj.length = x.ngj
 lgn : d.gn.length = x.ngn
 lgl : d.gl.length = x.ngl
theorem own_up {w w' : World} {g sz n : Nat} {e : TypeId} {v : Value} {xs : List Value} (h : ∃ b, g < b ∧ w.ownsRow b e sz v n xs) (hg : w.grownBy w' (some g)) : ∃ b, g < b ∧ w'.ownsRow b e sz v n xs := by
 obtain ⟨b, hb, ho⟩ := h; exact ⟨b, hb, ownT_grow ho hg hb⟩
theorem DeOwn.grow {w w' : World} {g : Nat} {d : DeltaD} {x : DelA} (h : DeOwn w g d x) (hg : w.grownBy w' (some g)) : DeOwn w' g d x :=
 ⟨own_up h.j hg, own_up h.n hg, own_up h.l hg, own_up h.gj hg, own_up h.gn hg, own_up h.gl hg, h.lj, h.ln, h.ll, h.lgj, h.lgn, h.lgl⟩
structure DeSizes (d : DeltaD) : Prop where
 j : d.jobs.length ≤ 40
 n : d.nodes.length ≤ 20
 l : d.leases.length ≤ 40
 gj : d.gj.length ≤ 40
 gn : d.gn.length ≤ 20
 gl : d.gl.length ≤ 40
 oj : JobsOk d.jobs
 on_ : NodesOk d.nodes
 ol : LeasesOk d.leases
 ogj : NamesOk d.gj
 ogn : NamesOk d.gn
 ogl : NamesOk d.gl
theorem own_slAt' {w : World} {g sz n c : Nat} {A : Option Addr} {e : TypeId} {xs : List Value} (h : ∃ b, g < b ∧ w.ownsRow b e sz (.slice A n c) n xs) : SlAt w w.heap.size sz A n xs := by
 obtain ⟨b, hb, ho⟩ := h; exact own_slAt ho
theorem DeOwn.at_ {w : World} {g : Nat} {d : DeltaD} {x : DelA} (h : DeOwn w g d x) (z : DeSizes d) : DelAt w w.heap.size d x :=
 ⟨own_slAt' h.j, own_slAt' h.n, own_slAt' h.l, own_slAt' h.gj, own_slAt' h.gn, own_slAt' h.gl, h.lj, h.ln, h.ll, h.lgj, h.lgn, h.lgl,
  by have := z.j; have := h.lj; omega, by have := z.n; have := h.ln; omega, by have := z.l; have := h.ll; omega, by have := z.gj; have := h.lgj; omega, by have := z.gn; have := h.lgn; omega, by have := z.gl; have := h.lgl; omega,
  z.oj, z.on_, z.ol, z.ogj, z.ogn, z.ogl⟩
end Go.Proofs.YtjgnnobccecpeaaGreatDoor
