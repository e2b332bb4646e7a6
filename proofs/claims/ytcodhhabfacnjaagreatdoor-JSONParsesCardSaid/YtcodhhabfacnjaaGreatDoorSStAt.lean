/- Of the proof of a statement: StAt. -/
import Derived.Test.YtcodhhabfacnjaaGreatDoorSRowsL
import Derived.Test.YtcodhhabfacnjaaGreatDoorSRowsP
set_option linter.unusedVariables false
set_option linter.unusedSimpArgs false
/- A state in memory. -/
namespace Go.Proofs.YtcodhhabfacnjaaGreatDoor
open Go.RowKit
/-- Where the three tables of a state lie. -/
structure StA where
  aj : Option Addr
  nj : Nat
  cj : Nat
  an : Option Addr
  nn : Nat
  cn : Nat
  al : Option Addr
  nl : Nat
  cl : Nat
def stC (st : StateD) (x : StA) : Array Value := #[.int .i64 st.rev, .slice x.aj x.nj x.cj, .slice x.an x.nn x.cn, .slice x.al x.nl x.cl]
structure StAt (w : World) (B : Nat) (st : StateD) (x : StA) : Prop where
  j : SlAt w B 5 x.aj x.nj (rowsV jobV st.jobs)
  n : SlAt w B 3 x.an x.nn (rowsV nodeV st.nodes)
  l : SlAt w B 3 x.al x.nl (rowsV leaseV st.leases)
  lj : st.jobs.length = x.nj
  ln : st.nodes.length = x.nn
  ll : st.leases.length = x.nl
  bj : x.nj ≤ 9223372036854775807
  bn : x.nn ≤ 9223372036854775807
  bl : x.nl ≤ 9223372036854775807
  oj : JobsOk st.jobs
  on_ : NodesOk st.nodes
  ol : LeasesOk st.leases
theorem StAt.below {w w' : World} {B : Nat} {st : StateD} {x : StA} (h : StAt w B st x) (hb : Below B w w') : StAt w' B st x :=
  ⟨h.j.below hb, h.n.below hb, h.l.below hb, h.lj, h.ln, h.ll, h.bj, h.bn, h.bl, h.oj, h.on_, h.ol⟩
theorem StAt.more {w : World} {B B' : Nat} {st : StateD} {x : StA} (h : StAt w B st x) (hB : B ≤ B') : StAt w B' st x :=
  ⟨h.j.more hB, h.n.more hB, h.l.more hB, h.lj, h.ln, h.ll, h.bj, h.bn, h.bl, h.oj, h.on_, h.ol⟩
theorem below_grown {w0 a b : World} {g : Nat} (hb : Below w0.heap.size w0 a) (hg : a.grownBy b (some g)) (h : w0.heap.size ≤ g) : Below w0.heap.size w0 b :=
  ⟨hg.os.trans hb.os, hg.tape.trans hb.tape, hg.output.trans hb.output, Nat.le_trans hb.size hg.size, fun k hk =>
    (hg.block k (Nat.lt_of_lt_of_le hk hb.size) (by simp; omega)).trans (hb.block k hk)⟩
section
variable {w w' : World} {T b1 b2 b3 n1 n2 n3 m : Nat} {g1 g2 g3 g : ByteArray → Option Value}
theorem TabsAt.setJobs (h : TabsAt w T b1 b2 b3 n1 n2 n3 g1 g2 g3) (hg : w.grownBy w' (some b1)) (h2 : b2 ≠ b1) (h3 : b3 ≠ b1) (hT : T ≠ b1) (hm : MapIs w' b1 m g) : TabsAt w' T b1 b2 b3 m n2 n3 g g2 g3 :=
  ⟨(hg.block T h.t.lt (by simp [hT])).trans h.t, hm, h.m2.but hg h2, h.m3.but hg h3⟩
theorem TabsAt.setNodes (h : TabsAt w T b1 b2 b3 n1 n2 n3 g1 g2 g3) (hg : w.grownBy w' (some b2)) (h1 : b1 ≠ b2) (h3 : b3 ≠ b2) (hT : T ≠ b2) (hm : MapIs w' b2 m g) : TabsAt w' T b1 b2 b3 n1 m n3 g1 g g3 :=
  ⟨(hg.block T h.t.lt (by simp [hT])).trans h.t, h.m1.but hg h1, hm, h.m3.but hg h3⟩
end
theorem jobG_step {l : List JobD} (h : rowsE jobE JobD.name l = 0) {k : Nat} {x : JobD} (hx : l[k]? = some x) (s : ByteArray) :
    jobG (l.take (k + 1)) s = if s = x.name then some (.agg (jobV x).toArray) else jobG (l.take k) s := by
  unfold jobG jobOf
  rw [find_take JobD.name (rows_apart h) hx s]
  split <;> rfl
theorem nodeG_step {l : List NodeD} (h : rowsE nodeE NodeD.name l = 0) {k : Nat} {x : NodeD} (hx : l[k]? = some x) (s : ByteArray) :
    nodeG (l.take (k + 1)) s = if s = x.name then some (.agg (nodeV x).toArray) else nodeG (l.take k) s := by
  unfold nodeG nodeOf
  rw [find_take NodeD.name (rows_apart h) hx s]
  split <;> rfl
/-- The loops of check: what stands at their head. -/
structure CkAt (w0 wr : World) (st : StateD) (x : StA) (S T b1 b2 b3 n1 n2 n3 : Nat) (g1 g2 g3 : ByteArray → Option Value) : Prop where
  below : Below w0.heap.size w0 wr
  box : Blk wr S 26 (stC st x)
  tabs : TabsAt wr T b1 b2 b3 n1 n2 n3 g1 g2 g3
def noG : ByteArray → Option Value := fun _ => none
def madeW (w : World) : World := (((w.alloc (.map #[] 0)).alloc (.map #[] 0)).alloc (.map #[] 0)).alloc (.cells #[.map (some w.heap.size), .map (some (w.heap.size + 1)), .map (some (w.heap.size + 1 + 1))] 108)
theorem madeW_below (w : World) : Below w.heap.size w (madeW w) :=
  ((((Below.refl w.heap.size w).alloc (Nat.le_refl _) _).alloc (by simp) _).alloc (by simp; omega) _).alloc (by simp; omega) _
theorem madeW_tabs (w : World) : TabsAt (madeW w) (w.heap.size + 1 + 1 + 1) w.heap.size (w.heap.size + 1) (w.heap.size + 1 + 1) 0 0 0 noG noG noG := by
  have m1 := MapIs.made w
  have m2 := MapIs.made (w.alloc (.map #[] 0))
  have m3 := MapIs.made ((w.alloc (.map #[] 0)).alloc (.map #[] 0))
  have up : ∀ (W : World) (o : Obj), Below W.heap.size W (W.alloc o) := fun W o => (Below.refl _ _).alloc (Nat.le_refl _) o
  have e1 : (w.alloc (.map #[] 0)).heap.size = w.heap.size + 1 := by simp
  have e2 : ((w.alloc (.map #[] 0)).alloc (.map #[] 0)).heap.size = w.heap.size + 1 + 1 := by simp
  have e3 : (((w.alloc (.map #[] 0)).alloc (.map #[] 0)).alloc (.map #[] 0)).heap.size = w.heap.size + 1 + 1 + 1 := by simp
  have hB := heap_alloc_new (((w.alloc (.map #[] 0)).alloc (.map #[] 0)).alloc (.map #[] 0)) (.cells #[.map (some w.heap.size), .map (some (w.heap.size + 1)), .map (some (w.heap.size + 1 + 1))] 108)
  rw [e1] at m2
  rw [e2] at m3
  rw [e3] at hB
  refine ⟨hB, ?_, ?_, ?_⟩
  · exact ((m1.below (up _ _) m1.lt).below (up _ _) (by simp; omega)).below (up _ _) (by simp; omega)
  · exact (m2.below (up _ _) m2.lt).below (up _ _) (by simp)
  · exact m3.below (up _ _) m3.lt
def CkPost (st : StateD) (w : World) (e : Ending) (w' : World) : Prop :=
  Below w.heap.size w w' ∧ ((checkE st ≠ 0 ∧ e = .returned (.tuple #[.pointer none, .int .i64 (checkE st)])) ∨
    (checkE st = 0 ∧ ∃ T b1 b2 b3 n1 n2 n3 g3, e = .returned (.tuple #[.pointer (some ⟨T, 0, none⟩), .int .i64 0]) ∧ TabsAt w' T b1 b2 b3 n1 n2 n3 (jobG st.jobs) (nodeG st.nodes) g3 ∧ UsedIs g3 (usedE st)))
theorem CkPost.bad {st : StateD} {w w' : World} {E : Int} (h : checkE st = E) (hE : E ≠ 0) (hb : Below w.heap.size w w') : CkPost st w (.returned (.tuple #[.pointer none, .int .i64 E])) w' := ⟨hb, .inl ⟨by rw [h]; exact hE, by rw [h]⟩⟩
theorem ck_rev {st : StateD} (h : ranged st.rev 0 1099511627776 = false) : checkE st = 1 := by unfold checkE; rw [if_pos h]
theorem ck_large {st : StateD} (h : ranged st.rev 0 1099511627776 = true) (h2 : sizesOk st = false) : checkE st = 2 := by unfold checkE; rw [if_neg (by rw [h]; simp), if_pos h2]
theorem ck_jobs {st : StateD} (h : ranged st.rev 0 1099511627776 = true) (h2 : sizesOk st = true) (h3 : rowsE jobE JobD.name st.jobs ≠ 0) : checkE st = rowsE jobE JobD.name st.jobs := by
  unfold checkE; rw [if_neg (by rw [h]; simp), if_neg (by rw [h2]; simp), if_pos h3]
theorem ck_nodes {st : StateD} (h : ranged st.rev 0 1099511627776 = true) (h2 : sizesOk st = true) (h3 : rowsE jobE JobD.name st.jobs = 0) (h4 : rowsE nodeE NodeD.name st.nodes ≠ 0) : checkE st = rowsE nodeE NodeD.name st.nodes := by
  unfold checkE; rw [if_neg (by rw [h]; simp), if_neg (by rw [h2]; simp), if_neg (by simp [h3]), if_pos h4]
theorem ck_rest {st : StateD} (h : ranged st.rev 0 1099511627776 = true) (h2 : sizesOk st = true) (h3 : rowsE jobE JobD.name st.jobs = 0) (h4 : rowsE nodeE NodeD.name st.nodes = 0) :
    checkE st = if rowsE (leaseE st) LeaseD.job st.leases ≠ 0 then rowsE (leaseE st) LeaseD.job st.leases else if roomOk st = true then 0 else 9 := by
  unfold checkE; rw [if_neg (by rw [h]; simp), if_neg (by rw [h2]; simp), if_neg (by simp [h3]), if_neg (by simp [h4])]
def L1Inv (w0 wr : World) (st : StateD) (x : StA) (b nj : Nat) (i : Value) : Prop := ∃ k : Nat, k ≤ nj ∧ i = .int .i64 k ∧ CkAt w0 wr st x w0.heap.size (b + 1 + 1 + 1) b (b + 1) (b + 1 + 1) k 0 0 (jobG (st.jobs.take k)) noG noG
def L2Inv (w0 wr : World) (st : StateD) (x : StA) (b n1 nn : Nat) (i : Value) : Prop := ∃ k : Nat, k ≤ nn ∧ i = .int .i64 k ∧ CkAt w0 wr st x w0.heap.size (b + 1 + 1 + 1) b (b + 1) (b + 1 + 1) n1 k 0 (jobG st.jobs) (nodeG (st.nodes.take k)) noG
/-- Where the room does not do, from the k-th node on. -/
def roomFrom (st : StateD) (l : List NodeD) : Bool := l.all fun n => decide (usedE st n.name ≤ n.room)
theorem roomFrom_step {st : StateD} {l : List NodeD} {k : Nat} {x : NodeD} (h : l[k]? = some x) : roomFrom st (l.drop k) = (decide (usedE st x.name ≤ x.room) && roomFrom st (l.drop (k + 1))) := by
  rw [drop_cons h]; rfl
def L3Inv (w0 wr : World) (st : StateD) (x : StA) (b n1 n2 n3 : Nat) (g3 : ByteArray → Option Value) (nn : Nat) (i : Value) : Prop :=
  ∃ k : Nat, k ≤ nn ∧ i = .int .i64 k ∧ CkAt w0 wr st x w0.heap.size (b + 1 + 1 + 1) b (b + 1) (b + 1 + 1) n1 n2 n3 (jobG st.jobs) (nodeG st.nodes) g3 ∧ roomFrom st (st.nodes.drop k) = roomOk st
end Go.Proofs.YtcodhhabfacnjaaGreatDoor
