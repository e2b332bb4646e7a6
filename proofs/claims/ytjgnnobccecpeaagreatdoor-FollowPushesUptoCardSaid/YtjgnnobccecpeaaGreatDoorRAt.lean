/- Of the proof of a statement: StAt, At, StChkR. -/
import Derived.Test.YtjgnnobccecpeaaGreatDoorRFrmEnc
import Derived.Test.YtjgnnobccecpeaaGreatDoorRRowsL
import Derived.Test.YtjgnnobccecpeaaGreatDoorRRowsP
set_option linter.unusedVariables false
set_option linter.unusedSimpArgs false
set_option maxRecDepth 100000
set_option maxHeartbeats 8000000
/- A state in memory. -/
namespace Go.Proofs.YtjgnnobccecpeaaGreatDoor
open Go.Lib (hid)
open Go.RowKit
structure StA where
 aj : Option Addr
 nj : Nat
 cj : Nat
 an : Option Addr
 nn : Nat
 cn : Nat
 al : Option Addr
 nl : Nat
 cl : Nat
def stC (st : StateD) (x : StA) : Array Value := #[.int .i64 st.rev, .slice x.aj x.nj x.cj, .slice x.an x.nn x.cn, .slice x.al x.nl x.cl]
structure StAt (w : World) (B : Nat) (st : StateD) (x : StA) : Prop where
 j : SlAt w B 5 x.aj x.nj (rowsV jobV st.jobs)
 n : SlAt w B 3 x.an x.nn (rowsV nodeV st.nodes)
 l : SlAt w B 3 x.al x.nl (rowsV leaseV st.leases)
 lj : st.jobs.length = x.nj
 ln : st.nodes.length = x.nn
 ll : st.leases.length = x.nl
 bj : x.nj ≤ 9223372036854775807
 bn : x.nn ≤ 9223372036854775807
 bl : x.nl ≤ 9223372036854775807
 oj : JobsOk st.jobs
 on_ : NodesOk st.nodes
 ol : LeasesOk st.leases
theorem StAt.below {w w' : World} {B : Nat} {st : StateD} {x : StA} (h : StAt w B st x) (hb : Below B w w') : StAt w' B st x :=
 ⟨h.j.below hb, h.n.below hb, h.l.below hb, h.lj, h.ln, h.ll, h.bj, h.bn, h.bl, h.oj, h.on_, h.ol⟩
theorem StAt.more {w : World} {B B' : Nat} {st : StateD} {x : StA} (h : StAt w B st x) (hB : B ≤ B') : StAt w B' st x :=
 ⟨h.j.more hB, h.n.more hB, h.l.more hB, h.lj, h.ln, h.ll, h.bj, h.bn, h.bl, h.oj, h.on_, h.ol⟩
theorem below_grown {w0 a b : World} {g : Nat} (hb : Below w0.heap.size w0 a) (hg : a.grownBy b (some g)) (h : w0.heap.size ≤ g) : Below w0.heap.size w0 b :=
 ⟨hg.os.trans hb.os, hg.tape.trans hb.tape, hg.output.trans hb.output, Nat.le_trans hb.size hg.size, fun k hk =>
  (hg.block k (Nat.lt_of_lt_of_le hk hb.size) (by simp; omega)).trans (hb.block k hk)⟩
section
variable {w w' : World} {T b1 b2 b3 n1 n2 n3 m : Nat} {g1 g2 g3 g : ByteArray → Option Value}
theorem TabsAt.setJobs (h : TabsAt w T b1 b2 b3 n1 n2 n3 g1 g2 g3) (hg : w.grownBy w' (some b1)) (h2 : b2 ≠ b1) (h3 : b3 ≠ b1) (hT : T ≠ b1) (hm : MapIs w' b1 m g) : TabsAt w' T b1 b2 b3 m n2 n3 g g2 g3 :=
 ⟨(hg.block T h.t.lt (by simp [hT])).trans h.t, hm, h.m2.but hg h2, h.m3.but hg h3⟩
theorem TabsAt.setNodes (h : TabsAt w T b1 b2 b3 n1 n2 n3 g1 g2 g3) (hg : w.grownBy w' (some b2)) (h1 : b1 ≠ b2) (h3 : b3 ≠ b2) (hT : T ≠ b2) (hm : MapIs w' b2 m g) : TabsAt w' T b1 b2 b3 n1 m n3 g1 g g3 :=
 ⟨(hg.block T h.t.lt (by simp [hT])).trans h.t, h.m1.but hg h1, hm, h.m3.but hg h3⟩
end
theorem jobG_step {l : List JobD} (h : rowsE jobE JobD.name l = 0) {k : Nat} {x : JobD} (hx : l[k]? = some x) (s : ByteArray) :
 jobG (l.take (k + 1)) s = if s = x.name then some (.agg (jobV x).toArray) else jobG (l.take k) s := by
 unfold jobG jobOf
 rw [find_take JobD.name (rows_apart h) hx s]
 split <;> rfl
theorem nodeG_step {l : List NodeD} (h : rowsE nodeE NodeD.name l = 0) {k : Nat} {x : NodeD} (hx : l[k]? = some x) (s : ByteArray) :
 nodeG (l.take (k + 1)) s = if s = x.name then some (.agg (nodeV x).toArray) else nodeG (l.take k) s := by
 unfold nodeG nodeOf
 rw [find_take NodeD.name (rows_apart h) hx s]
 split <;> rfl
structure CkAt (w0 wr : World) (st : StateD) (x : StA) (S T b1 b2 b3 n1 n2 n3 : Nat) (g1 g2 g3 : ByteArray → Option Value) : Prop where
 below : Below w0.heap.size w0 wr
 box : Blk wr S 26 (stC st x)
 tabs : TabsAt wr T b1 b2 b3 n1 n2 n3 g1 g2 g3
def noG : ByteArray → Option Value := fun _ => none
def madeW (w : World) : World := (((w.alloc (.map #[] 0)).alloc (.map #[] 0)).alloc (.map #[] 0)).alloc (.cells #[.map (some w.heap.size), .map (some (w.heap.size + 1)), .map (some (w.heap.size + 1 + 1))] 246)
theorem madeW_below (w : World) : Below w.heap.size w (madeW w) :=
 ((((Below.refl w.heap.size w).alloc (Nat.le_refl _) _).alloc (by simp) _).alloc (by simp; omega) _).alloc (by simp; omega) _
theorem madeW_tabs (w : World) : TabsAt (madeW w) (w.heap.size + 1 + 1 + 1) w.heap.size (w.heap.size + 1) (w.heap.size + 1 + 1) 0 0 0 noG noG noG := by
 have m1 := MapIs.made w
 have m2 := MapIs.made (w.alloc (.map #[] 0))
 have m3 := MapIs.made ((w.alloc (.map #[] 0)).alloc (.map #[] 0))
 have up : ∀ (W : World) (o : Obj), Below W.heap.size W (W.alloc o) := fun W o => (Below.refl _ _).alloc (Nat.le_refl _) o
 have e1 : (w.alloc (.map #[] 0)).heap.size = w.heap.size + 1 := by simp
 have e2 : ((w.alloc (.map #[] 0)).alloc (.map #[] 0)).heap.size = w.heap.size + 1 + 1 := by simp
 have e3 : (((w.alloc (.map #[] 0)).alloc (.map #[] 0)).alloc (.map #[] 0)).heap.size = w.heap.size + 1 + 1 + 1 := by simp
 have hB := heap_alloc_new (((w.alloc (.map #[] 0)).alloc (.map #[] 0)).alloc (.map #[] 0)) (.cells #[.map (some w.heap.size), .map (some (w.heap.size + 1)), .map (some (w.heap.size + 1 + 1))] 246)
 rw [e1] at m2
 rw [e2] at m3
 rw [e3] at hB
 refine ⟨hB, ?_, ?_, ?_⟩
 · exact ((m1.below (up _ _) m1.lt).below (up _ _) (by simp; omega)).below (up _ _) (by simp; omega)
 · exact (m2.below (up _ _) m2.lt).below (up _ _) (by simp)
 · exact m3.below (up _ _) m3.lt
def CkPost (st : StateD) (w : World) (e : Ending) (w' : World) : Prop :=
 Below w.heap.size w w' ∧ ((checkE st ≠ 0 ∧ e = .returned (.tuple #[.pointer none, .int .i64 (checkE st)])) ∨
  (checkE st = 0 ∧ ∃ T b1 b2 b3 n1 n2 n3 g3, e = .returned (.tuple #[.pointer (some ⟨T, 0, none⟩), .int .i64 0]) ∧ TabsAt w' T b1 b2 b3 n1 n2 n3 (jobG st.jobs) (nodeG st.nodes) g3 ∧ UsedIs g3 (usedE st)))
theorem CkPost.bad {st : StateD} {w w' : World} {E : Int} (h : checkE st = E) (hE : E ≠ 0) (hb : Below w.heap.size w w') : CkPost st w (.returned (.tuple #[.pointer none, .int .i64 E])) w' := ⟨hb, .inl ⟨by rw [h]; exact hE, by rw [h]⟩⟩
theorem ck_rev {st : StateD} (h : ranged st.rev 0 1099511627776 = false) : checkE st = 1 := by unfold checkE; rw [if_pos h]
theorem ck_large {st : StateD} (h : ranged st.rev 0 1099511627776 = true) (h2 : sizesOk st = false) : checkE st = 2 := by unfold checkE; rw [if_neg (by rw [h]; simp), if_pos h2]
theorem ck_jobs {st : StateD} (h : ranged st.rev 0 1099511627776 = true) (h2 : sizesOk st = true) (h3 : rowsE jobE JobD.name st.jobs ≠ 0) : checkE st = rowsE jobE JobD.name st.jobs := by
 unfold checkE; rw [if_neg (by rw [h]; simp), if_neg (by rw [h2]; simp), if_pos h3]
theorem ck_nodes {st : StateD} (h : ranged st.rev 0 1099511627776 = true) (h2 : sizesOk st = true) (h3 : rowsE jobE JobD.name st.jobs = 0) (h4 : rowsE nodeE NodeD.name st.nodes ≠ 0) : checkE st = rowsE nodeE NodeD.name st.nodes := by
 unfold checkE; rw [if_neg (by rw [h]; simp), if_neg (by rw [h2]; simp), if_neg (by simp [h3]), if_pos h4]
theorem ck_rest {st : StateD} (h : ranged st.rev 0 1099511627776 = true) (h2 : sizesOk st = true) (h3 : rowsE jobE JobD.name st.jobs = 0) (h4 : rowsE nodeE NodeD.name st.nodes = 0) :
 checkE st = if rowsE (leaseE st) LeaseD.job st.leases ≠ 0 then rowsE (leaseE st) LeaseD.job st.leases else if roomOk st = true then 0 else 9 := by
 unfold checkE; rw [if_neg (by rw [h]; simp), if_neg (by rw [h2]; simp), if_neg (by simp [h3]), if_neg (by simp [h4])]
def L1Inv (w0 wr : World) (st : StateD) (x : StA) (b nj : Nat) (i : Value) : Prop := ∃ k : Nat, k ≤ nj ∧ i = .int .i64 k ∧ CkAt w0 wr st x w0.heap.size (b + 1 + 1 + 1) b (b + 1) (b + 1 + 1) k 0 0 (jobG (st.jobs.take k)) noG noG
def L2Inv (w0 wr : World) (st : StateD) (x : StA) (b n1 nn : Nat) (i : Value) : Prop := ∃ k : Nat, k ≤ nn ∧ i = .int .i64 k ∧ CkAt w0 wr st x w0.heap.size (b + 1 + 1 + 1) b (b + 1) (b + 1 + 1) n1 k 0 (jobG st.jobs) (nodeG (st.nodes.take k)) noG
def roomFrom (st : StateD) (l : List NodeD) : Bool := l.all fun n => decide (usedE st n.name ≤ n.room)
theorem roomFrom_step {st : StateD} {l : List NodeD} {k : Nat} {x : NodeD} (h : l[k]? = some x) : roomFrom st (l.drop k) = (decide (usedE st x.name ≤ x.room) && roomFrom st (l.drop (k + 1))) := by
 rw [drop_cons h]; rfl
def L3Inv (w0 wr : World) (st : StateD) (x : StA) (b n1 n2 n3 : Nat) (g3 : ByteArray → Option Value) (nn : Nat) (i : Value) : Prop :=
 ∃ k : Nat, k ≤ nn ∧ i = .int .i64 k ∧ CkAt w0 wr st x w0.heap.size (b + 1 + 1 + 1) b (b + 1) (b + 1 + 1) n1 n2 n3 (jobG st.jobs) (nodeG st.nodes) g3 ∧ roomFrom st (st.nodes.drop k) = roomOk st
end Go.Proofs.YtjgnnobccecpeaaGreatDoor
/- The walks of JobAt and NodeAt. -/
namespace Go.Proofs.YtjgnnobccecpeaaGreatDoor
open Go.Lib (hid)
open Go.RowKit
section
variable {α : Type} {p : α → Bool} {l : List α} {k : Nat} {x : α}
theorem take_snoc (h : l[k]? = some x) : l.take (k + 1) = l.take k ++ [x] := by
 obtain ⟨hlt, rfl⟩ := List.getElem?_eq_some_iff.1 h
 exact (List.take_append_getElem hlt).symm
theorem find_hit (h0 : (l.take k).find? p = none) (h : l[k]? = some x) (hp : p x = true) : l.find? p = some x := by
 have e : l = l.take k ++ x :: l.drop (k + 1) := by rw [← drop_cons h, List.take_append_drop]
 rw [e, List.find?_append, h0, List.find?_cons, hp]; rfl
theorem find_miss (h0 : (l.take k).find? p = none) (h : l[k]? = some x) (hp : p x = false) : (l.take (k + 1)).find? p = none := by
 rw [take_snoc h, List.find?_append, h0, List.find?_cons, hp]; rfl
theorem find_out (h0 : (l.take k).find? p = none) (h : l.length ≤ k) : l.find? p = none := by rwa [List.take_of_length_le h] at h0
end
theorem beq_same (s : ByteArray) : (s.toList == s.toList) = true := beq_iff_eq.2 rfl
theorem beq_diff {s t : ByteArray} (h : s ≠ t) : (s.toList == t.toList) = false := by
 rw [beq_eq_false_iff_ne, ByteArray.toList_eq, ByteArray.toList_eq]
 exact fun e => h (ByteArray.ext (Array.toList_inj.1 e))
def JobAtPost (xs : List JobD) (s : ByteArray) (w : World) (e : Ending) (w' : World) : Prop :=
 ∃ i : Int, e = .returned (.int .i64 i) ∧ Below w.heap.size w w' ∧ ((i = -1 ∧ jobOf xs s = none) ∨ ∃ (k : Nat) (x : JobD), i = (k : Int) ∧ xs[k]? = some x ∧ jobOf xs s = some x)
def JobAtInv (xs : List JobD) (s : ByteArray) (n : Nat) (w : World) (i : Value) (wr : World) : Prop := ∃ k : Nat, k ≤ n ∧ i = .int .i64 k ∧ (xs.take k).find? (fun x => decide (x.name = s)) = none ∧ Below w.heap.size w wr
theorem jobAt_any (xs : List JobD) (s : ByteArray) (A : Option Addr) (n c : Nat) (w : World) (hx : SlAt w w.heap.size 5 A n (rowsV jobV xs)) (hl : xs.length = n) (hn : n ≤ 9223372036854775807) :
 Calls Tryz.prog 32 #[.slice A n c, .string s] w (JobAtPost xs s w) := by
 have Hl := hid hl
 clear hl
 go_enter Tryz.func32, Tryz.ntmps32
 go_wp2
 go_loopw [4, 5, 6, 9] (fun _ _ _ i wr => JobAtInv xs s n w i wr) (fun _ _ _ i _ => n - (intOf i).toNat)
 case atStart => exact ⟨0, Nat.zero_le _, rfl, by simp, Below.refl _ _⟩
 case round =>
  obtain ⟨k, hk, rfl, hnone, hb⟩ := hrel
  have Hnone := hid hnone
  have Hb := hid hb
  have hsz := hb.size
  clear hnone
  by_cases hlt : k < n
  · obtain ⟨x, hf⟩ : ∃ x, xs[k]? = some x := ⟨_, List.getElem?_eq_getElem (by rw [Hl.out]; exact hlt)⟩
    obtain ⟨b, off, rfl, hbB, hc⟩ := (hx.below hb).rec_ jobV_len Hl.out hf
    have Hf := hid hf
    obtain ⟨name, prio, need, tries, tag⟩ := x
    obtain ⟨c0, c1, c2, c3, c4⟩ := rc5 hc
    clear hc hf hx hb
    have hlb : b < wr.heap.size := by omega
    have hBa := hid (Hb.out.alloc Hb.out.size (.cells #[.string name, .int .i64 prio, .int .i64 need, .int .i64 tries, .string tag] 38))
    by_cases hs : name = s
    · subst hs
      have e1 := beq_same name
      have fin := hid (find_hit Hnone.out Hf.out (by simp))
      go_wp2
      go_ret
      exact ⟨_, rfl, hBa.out, .inr ⟨k, _, rfl, Hf.out, fin.out⟩⟩
    · have e1 := beq_diff hs
      have fin := hid (find_miss Hnone.out Hf.out (by simp [hs]))
      go_wp2
      go_roundw
      case rel => exact ⟨k + 1, by omega, by go_num, fin.out, hBa.out⟩
      case measure => simp [intOf]; omega
  · have fin := hid (find_out Hnone.out (by rw [Hl.out]; omega))
    clear hx
    go_wp2
    go_ret
    exact ⟨_, rfl, Hb.out, .inl ⟨rfl, fin.out⟩⟩
def NodeAtPost (xs : List NodeD) (s : ByteArray) (w : World) (e : Ending) (w' : World) : Prop :=
 ∃ i : Int, e = .returned (.int .i64 i) ∧ Below w.heap.size w w' ∧ ((i = -1 ∧ nodeOf xs s = none) ∨ ∃ (k : Nat) (x : NodeD), i = (k : Int) ∧ xs[k]? = some x ∧ nodeOf xs s = some x)
def NodeAtInv (xs : List NodeD) (s : ByteArray) (n : Nat) (w : World) (i : Value) (wr : World) : Prop := ∃ k : Nat, k ≤ n ∧ i = .int .i64 k ∧ (xs.take k).find? (fun x => decide (x.name = s)) = none ∧ Below w.heap.size w wr
theorem nodeAt_any (xs : List NodeD) (s : ByteArray) (A : Option Addr) (n c : Nat) (w : World) (hx : SlAt w w.heap.size 3 A n (rowsV nodeV xs)) (hl : xs.length = n) (hn : n ≤ 9223372036854775807) :
 Calls Tryz.prog 33 #[.slice A n c, .string s] w (NodeAtPost xs s w) := by
 have Hl := hid hl
 clear hl
 go_enter Tryz.func33, Tryz.ntmps33
 go_wp2
 go_loopw [4, 5, 6, 9] (fun _ _ _ i wr => NodeAtInv xs s n w i wr) (fun _ _ _ i _ => n - (intOf i).toNat)
 case atStart => exact ⟨0, Nat.zero_le _, rfl, by simp, Below.refl _ _⟩
 case round =>
  obtain ⟨k, hk, rfl, hnone, hb⟩ := hrel
  have Hnone := hid hnone
  have Hb := hid hb
  have hsz := hb.size
  clear hnone
  by_cases hlt : k < n
  · obtain ⟨x, hf⟩ : ∃ x, xs[k]? = some x := ⟨_, List.getElem?_eq_getElem (by rw [Hl.out]; exact hlt)⟩
    obtain ⟨b, off, rfl, hbB, hc⟩ := (hx.below hb).rec_ nodeV_len Hl.out hf
    have Hf := hid hf
    obtain ⟨name, room, zone⟩ := x
    obtain ⟨c0, c1, c2⟩ := rc3 hc
    clear hc hf hx hb
    have hlb : b < wr.heap.size := by omega
    have hBa := hid (Hb.out.alloc Hb.out.size (.cells #[.string name, .int .i64 room, .string zone] 40))
    by_cases hs : name = s
    · subst hs
      have e1 := beq_same name
      have fin := hid (find_hit Hnone.out Hf.out (by simp))
      go_wp2
      go_ret
      exact ⟨_, rfl, hBa.out, .inr ⟨k, _, rfl, Hf.out, fin.out⟩⟩
    · have e1 := beq_diff hs
      have fin := hid (find_miss Hnone.out Hf.out (by simp [hs]))
      go_wp2
      go_roundw
      case rel => exact ⟨k + 1, by omega, by go_num, fin.out, hBa.out⟩
      case measure => simp [intOf]; omega
  · have fin := hid (find_out Hnone.out (by rw [Hl.out]; omega))
    clear hx
    go_wp2
    go_ret
    exact ⟨_, rfl, Hb.out, .inl ⟨rfl, fin.out⟩⟩
end Go.Proofs.YtjgnnobccecpeaaGreatDoor
/- The walks of Used and Check in the reference. -/
namespace Go.Proofs.YtjgnnobccecpeaaGreatDoor
open Go.Lib (hid)
open Go.RowKit
def UInv (st : StateD) (x : StA) (s : ByteArray) (w : World) (n : Nat) (sum i : Value) (wr : World) : Prop :=
 ∃ k : Nat, k ≤ n ∧ i = .int .i64 k ∧ sum = .int .i64 (usedL st s (st.leases.take k)) ∧ Below w.heap.size w wr ∧ Blk wr w.heap.size 26 (stC st x)
theorem needOf_other {st : StateD} {l : LeaseD} {s : ByteArray} (h : l.node ≠ s) : needOf st l s = 0 := by unfold needOf; rw [if_neg h]
theorem needOf_none {st : StateD} {l : LeaseD} {s : ByteArray} (h : jobOf st.jobs l.job = none) : needOf st l s = 0 := by unfold needOf; rw [h]; split <;> rfl
theorem needOf_some {st : StateD} {l : LeaseD} {s : ByteArray} {j : JobD} (hn : l.node = s) (h : jobOf st.jobs l.job = some j) : needOf st l s = j.need := by unfold needOf; rw [if_pos hn, h]
theorem rused_any (st : StateD) (x : StA) (s : ByteArray) (w : World) (hS : StAt w w.heap.size st x) (hneed : NeedsOk st) (h40 : x.nl ≤ 40) :
 Calls Tryz.prog 34 #[.agg (stC st x), .string s] w fun e w' => e = .returned (.int .i64 (usedE st s)) ∧ Below w.heap.size w w' := by
 have HS := hid hS
 have hb1 : Below w.heap.size w (w.alloc (.cells (stC st x) 26)) := (Below.refl _ _).alloc (Nat.le_refl _) _
 have hB1 : Blk (w.alloc (.cells (stC st x) 26)) w.heap.size 26 (stC st x) := heap_alloc_new w _
 have Hb1 := hid hb1
 have HB1 := hid hB1
 have Hneed := hid hneed
 clear hb1 hB1 hS hneed
 obtain ⟨rev, jobs, nodes, leases⟩ := st
 obtain ⟨aj, nj, cj, an, nn, cn, al, nl, cl⟩ := x
 simp only [stC] at *
 have hlj := HS.out.lj
 have hll := HS.out.ll
 have hbj := HS.out.bj
 simp only at hlj hll hbj
 go_enter Tryz.func34, Tryz.ntmps34
 go_wp2
 go_loopw [5, 7, 8, 12, 20] (fun sum _ _ i _ wr => UInv ⟨rev, jobs, nodes, leases⟩ ⟨aj, nj, cj, an, nn, cn, al, nl, cl⟩ s w nl sum i wr) (fun _ _ _ i _ _ => nl - (intOf i).toNat)
 case atStart => exact ⟨0, Nat.zero_le _, rfl, rfl, Hb1.out, HB1.out⟩
 case round =>
  obtain ⟨k, hk, rfl, rfl, hb, hB⟩ := hrel
  have Hb := hid hb
  have HB := hid hB
  have hsz := hb.size
  by_cases hlt : k < nl
  · obtain ⟨y, hf⟩ : ∃ y, leases[k]? = some y := ⟨_, List.getElem?_eq_getElem (by omega)⟩
    obtain ⟨b, off, rfl, hbB, hc⟩ := (HS.out.l.below hb).rec_ leaseV_len hll hf
    have hstep := hid (usedL_step ⟨rev, jobs, nodes, leases⟩ s hf)
    have hbnd := hid (usedL_bound Hneed.out s (leases.take k))
    have hbl : (leases.take k).length ≤ 40 := by rw [List.length_take]; omega
    obtain ⟨job, node, till⟩ := y
    obtain ⟨c0, c1, c2⟩ := rc3 hc
    have hlb : b < wr.heap.size := by omega
    have hb0 := (Below.refl wr.heap.size wr).alloc (Nat.le_refl _) (.cells #[.string job, .string node, .int .i64 till] 42)
    have HBa := hid (hB.below hb0 hB.lt)
    have y1 : (wr.alloc (.cells #[.string job, .string node, .int .i64 till] 42)).cell? ⟨w.heap.size, 1, none⟩ = some (.slice aj nj cj) := HBa.out.cell 1
    have Hba := hid (hb.trans (hb0.mono hsz))
    have hSj := hid ((HS.out.j.below Hba.out).more Hba.out.size)
    have hSl := hB.lt
    clear hc hf hb0 hb hB
    go_wp2_with fail
    refine Calls.mono (jobAt_any jobs job aj nj cj _ hSj.out hlj hbj) ?_
    rintro e w2 ⟨i, rfl, hb2, hcase⟩
    have z0 : w2.cell? ⟨wr.heap.size, 1, none⟩ = some (.string node) := by rw [(bcell hb2).1 _ _ (by simp)]; simp [go_sem]
    have hB2 := HBa.out.below hb2 HBa.out.lt
    have Hb2 := hid (Hba.out.trans (hb2.mono Hba.out.size))
    have HB2 := hid hB2
    have z1 : w2.cell? ⟨w.heap.size, 1, none⟩ = some (.slice aj nj cj) := hB2.cell 1
    generalize hu : usedL ⟨rev, jobs, nodes, leases⟩ s (leases.take k) = u at hstep hbnd ⊢
    have hu1 : 0 ≤ u ∧ u ≤ 40000000 := by have := hbnd.out; omega
    clear hu hbnd hb2 hB2 y1
    by_cases hs : node = s
    rotate_left
    · have e1 := beq_diff hs
      have hfin := hid (show usedL ⟨rev, jobs, nodes, leases⟩ s (leases.take (k + 1)) = u by rw [hstep.out, needOf_other hs, Int.add_zero])
      clear z1 hcase
      go_wp2
      go_roundw
      case rel => exact ⟨k + 1, by omega, by go_num, by rw [hfin.out], Hb2.out, HB2.out⟩
      case measure => simp [intOf]; omega
    have e1 := beq_same node
    rcases hcase with ⟨rfl, hjo⟩ | ⟨m, j, rfl, hjm, hjo⟩
    · have hfin := hid (show usedL ⟨rev, jobs, nodes, leases⟩ s (leases.take (k + 1)) = u by rw [hstep.out, needOf_none (l := ⟨job, node, till⟩) hjo, Int.add_zero])
      clear z1 hjo
      subst hs
      go_wp2
      go_roundw
      case rel => exact ⟨k + 1, by omega, by go_num, by rw [hfin.out], Hb2.out, HB2.out⟩
      case measure => simp [intOf]; omega
    · have hjn := Hneed.out j (List.mem_of_getElem? hjm)
      have hfin := hid (show usedL ⟨rev, jobs, nodes, leases⟩ s (leases.take (k + 1)) = u + j.need by rw [hstep.out, needOf_some (l := ⟨job, node, till⟩) hs hjo])
      obtain ⟨bj, oj, rfl, hbjB, hcj⟩ := (HS.out.j.below Hb2.out).rec_ jobV_len hlj hjm
      obtain ⟨hml, _⟩ := List.getElem?_eq_some_iff.1 hjm
      obtain ⟨name, prio, need, tries, tag⟩ := j
      have q2 : w2.cell? ⟨bj, oj + m * 5 + 2, none⟩ = some (.int .i64 need) := hcj 2 _ rfl
      simp only at hjn
      clear hjo hcj hjm
      subst hs
      have hm0 : decide ((0 : Int) ≤ (m : Int)) = true := decide_eq_true (by omega)
      go_wp2
      go_roundw
      case rel => exact ⟨k + 1, by omega, by go_num, by rw [hfin.out], Hb2.out, HB2.out⟩
      case measure => simp [intOf]; omega
  · have htk : leases.take k = leases := List.take_of_length_le (by omega)
    have fin := hid (show usedL ⟨rev, jobs, nodes, leases⟩ s (leases.take k) = usedE ⟨rev, jobs, nodes, leases⟩ s by rw [htk]; rfl)
    clear hb hB
    go_wp2
    go_ret
    exact ⟨ret_int fin.out, Hb.out⟩
end Go.Proofs.YtjgnnobccecpeaaGreatDoor
