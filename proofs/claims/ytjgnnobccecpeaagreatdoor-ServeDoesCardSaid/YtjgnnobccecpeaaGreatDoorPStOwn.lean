/- Of the proof of a statement: Rdr, RdRow, Take, OwnSet, StAt, StOwn, OwnMore. -/
import Derived.Laws.Bits64b
import Derived.Laws.BitsAllLaws
import Derived.Below
import Derived.Lib.ValidLaws
import Derived.Test.YtjgnnobccecpeaaGreatDoorRows
import Derived.Test.YtjgnnobccecpeaaGreatDoorPRowsL
import Derived.Test.YtjgnnobccecpeaaGreatDoorPRowsP
import Derived.Test.YtjgnnobccecpeaaGreatDoorPUtf
set_option linter.unusedVariables false
set_option linter.unusedSimpArgs false
set_option maxRecDepth 100000
set_option maxHeartbeats 8000000
/- The walks of a Reader. -/
namespace Go.Proofs.YtjgnnobccecpeaaGreatDoor
open Go.Lib (hid)
open Go.RowKit
theorem grow_refl (w : World) (g : Nat) : w.grownBy w (some g) := ⟨rfl, rfl, rfl, Nat.le_refl _, fun _ _ _ => rfl⟩
theorem grow_trans {w w' w'' : World} {g : Nat} (h : w.grownBy w' (some g)) (h' : w'.grownBy w'' (some g)) : w.grownBy w'' (some g) :=
 ⟨h'.os.trans h.os, h'.tape.trans h.tape, h'.output.trans h.output, Nat.le_trans h.size h'.size, fun k hk hne => (h'.block k (Nat.lt_of_lt_of_le hk h.size) hne).trans (h.block k hk hne)⟩
theorem grow_blk {w w' : World} {g k : Nat} {t : TypeId} {cs : Array Value} (h : w.grownBy w' (some g)) (hk : Blk w k t cs) (hne : k ≠ g) : Blk w' k t cs :=
 (h.block k hk.lt (by simp; exact hne)).trans hk
theorem grow_set (w : World) (g i : Nat) (v : Value) : w.grownBy (w.setCell ⟨g, i, none⟩ v) (some g) := bes_set (grow_refl w g) i v
end Go.Proofs.YtjgnnobccecpeaaGreatDoor
/- The walks of a Reader's rows: a job, a node, a lease. -/
namespace Go.Proofs.YtjgnnobccecpeaaGreatDoor
open Go.Lib (hid)
open Go.RowKit
theorem Tabs.grow {w w' : World} {b : Nat} (h : Tabs w) (h3 : ren.g 3 ≠ b) (h4 : ren.g 4 ≠ b) (hg : w.grownBy w' (some b)) : Tabs w' := by
 have cell : ∀ {a : Addr} {v : Value}, a.block ≠ b → w.cell? a = some v → w'.cell? a = some v := fun {a v} hne hc => by
  have hlt : a.block < w.heap.size := by
   rcases Nat.lt_or_ge a.block w.heap.size with h' | h'
   · exact h'
   · simp [World.cell?, Array.getElem?_eq_none h'] at hc
  have := hg.block a.block hlt (by simp; exact hne)
  rw [← hc]
  unfold World.cell?
  rw [this]
 exact ⟨fun c hc => cell h3 (h.1 c hc), fun i hi => ⟨cell h4 (h.2 i hi).1, cell h4 (h.2 i hi).2⟩⟩
end Go.Proofs.YtjgnnobccecpeaaGreatDoor
/- The walks of Take: the rows of a table, read one by one. -/
namespace Go.Proofs.YtjgnnobccecpeaaGreatDoor
open Go.Lib (hid)
open Go.RowKit
theorem infoJobT : (Tryz.prog.info? 38).map (fun i => (i.zero, i.size, i.bytes)) = some (some (.agg #[.string ⟨#[]⟩, .int .i64 0, .int .i64 0, .int .i64 0, .string ⟨#[]⟩]), 5, 56) := by kernel_rfl
theorem infoNodeT : (Tryz.prog.info? 40).map (fun i => (i.zero, i.size, i.bytes)) = some (some (.agg #[.string ⟨#[]⟩, .int .i64 0, .string ⟨#[]⟩]), 3, 40) := by kernel_rfl
theorem infoLeaseT : (Tryz.prog.info? 42).map (fun i => (i.zero, i.size, i.bytes)) = some (some (.agg #[.string ⟨#[]⟩, .string ⟨#[]⟩, .int .i64 0]), 3, 40) := by kernel_rfl
theorem infoStrT : (Tryz.prog.info? 9).map (fun i => (i.zero, i.size, i.bytes)) = some (some (.string ⟨#[]⟩), 1, 16) := by kernel_rfl
theorem jobV_oneT (x : JobD) : ∀ u ∈ jobV x, u.oneCell' = true := by intro u hu; simp [jobV] at hu; rcases hu with rfl | rfl | rfl | rfl | rfl <;> rfl
theorem nodeV_oneT (x : NodeD) : ∀ u ∈ nodeV x, u.oneCell' = true := by intro u hu; simp [nodeV] at hu; rcases hu with rfl | rfl | rfl <;> rfl
theorem leaseV_oneT (x : LeaseD) : ∀ u ∈ leaseV x, u.oneCell' = true := by intro u hu; simp [leaseV] at hu; rcases hu with rfl | rfl | rfl <;> rfl
theorem strV_oneT (x : ByteArray) : ∀ u ∈ strV x, u.oneCell' = true := by intro u hu; simp [strV] at hu; subst hu; rfl
theorem ownT_grow {w w' : World} {base g n sz : Nat} {e : TypeId} {v : Value} {xs : List Value} (ho : w.ownsRow base e sz v n xs) (hg : w.grownBy w' (some g)) (hgb : g < base) : w'.ownsRow base e sz v n xs := by
 rcases ho with ⟨h1, h | ⟨q, cap, cur, hv, hq, hgq, r⟩⟩
 · exact ⟨h1, .inl h⟩
 · have hlt : q < w.heap.size := (Array.getElem?_eq_some_iff.1 hgq).1
   exact ⟨h1, .inr ⟨q, cap, cur, hv, hq, (hg.block q hlt (by simp; omega)).trans hgq, r⟩⟩
end Go.Proofs.YtjgnnobccecpeaaGreatDoor
/- A cell of a row of the call's own is set. -/
namespace Go.Proofs.YtjgnnobccecpeaaGreatDoor
open Go.Lib (hid)
open Go.RowKit
theorem ownT_set {w : World} {base sz n g c : Nat} {e : TypeId} {xs : List Value} (ho : w.ownsRow base e sz (.slice (some ⟨g, 0, none⟩) n c) n xs) (j : Nat) (hj : j < n * sz) (u : Value) :
 (w.setCell ⟨g, j, none⟩ u).ownsRow base e sz (.slice (some ⟨g, 0, none⟩) n c) n (xs.set j u) ∧ w.frozen? ⟨g, j, none⟩ = false ∧ g < w.heap.size ∧ base ≤ g := by
 obtain ⟨h1, h | ⟨q, cap, cur, hv, hq, hgq, h2, h3, h4, h5⟩⟩ := ho
 · cases h.1
 · injection hv with e1 e2 e3
   injection e1 with e1
   injection e1 with e1
   subst e1
   subst e3
   have hB : Blk w g e cur := hgq
   refine ⟨⟨by simpa using h1, .inr ⟨g, c, cur.setIfInBounds j u, rfl, hq, hB.set j u, h2, h3, by simpa using h4, ?_⟩⟩, hB.thaw j, hB.lt, hq⟩
   rw [Array.toList_setIfInBounds, List.take_set, h5]
theorem rowsV_set {α : Type} {enc : α → List Value} {sz : Nat} (h : ∀ a, (enc a).length = sz) : ∀ (l : List α) (i k : Nat) (a a' : α) (u : Value), l[i]? = some a → k < sz → (enc a).set k u = enc a' → (rowsV enc l).set (i * sz + k) u = rowsV enc (l.set i a')
 | [], i, k, a, a', u, hi, _, _ => by simp at hi
 | b :: l, 0, k, a, a', u, hi, hk, he => by
  simp only [List.getElem?_cons_zero, Option.some.injEq] at hi
  subst hi
  unfold rowsV
  rw [List.set_cons_zero, List.flatMap_cons, List.flatMap_cons, Nat.zero_mul, Nat.zero_add, List.set_append_left _ _ (by rw [h]; exact hk), he]
 | b :: l, i + 1, k, a, a', u, hi, hk, he => by
  have ih := rowsV_set h l i k a a' u (by simpa using hi) hk he
  unfold rowsV at ih ⊢
  rw [List.set_cons_succ, List.flatMap_cons, List.flatMap_cons, List.set_append_right _ _ (by rw [h, Nat.add_mul]; omega), h, show (i + 1) * sz + k - sz = i * sz + k from by rw [Nat.add_mul]; omega, ih]
end Go.Proofs.YtjgnnobccecpeaaGreatDoor
/- A state in memory. -/
namespace Go.Proofs.YtjgnnobccecpeaaGreatDoor
open Go.Lib (hid)
open Go.RowKit
structure StA where
 aj : Option Addr
 nj : Nat
 cj : Nat
 an : Option Addr
 nn : Nat
 cn : Nat
 al : Option Addr
 nl : Nat
 cl : Nat
def stC (st : StateD) (x : StA) : Array Value := #[.int .i64 st.rev, .slice x.aj x.nj x.cj, .slice x.an x.nn x.cn, .slice x.al x.nl x.cl]
structure StAt (w : World) (B : Nat) (st : StateD) (x : StA) : Prop where
 j : SlAt w B 5 x.aj x.nj (rowsV jobV st.jobs)
 n : SlAt w B 3 x.an x.nn (rowsV nodeV st.nodes)
 l : SlAt w B 3 x.al x.nl (rowsV leaseV st.leases)
 lj : st.jobs.length = x.nj
 ln : st.nodes.length = x.nn
 ll : st.leases.length = x.nl
 bj : x.nj ≤ 9223372036854775807
 bn : x.nn ≤ 9223372036854775807
 bl : x.nl ≤ 9223372036854775807
 oj : JobsOk st.jobs
 on_ : NodesOk st.nodes
 ol : LeasesOk st.leases
theorem StAt.below {w w' : World} {B : Nat} {st : StateD} {x : StA} (h : StAt w B st x) (hb : Below B w w') : StAt w' B st x :=
 ⟨h.j.below hb, h.n.below hb, h.l.below hb, h.lj, h.ln, h.ll, h.bj, h.bn, h.bl, h.oj, h.on_, h.ol⟩
theorem StAt.more {w : World} {B B' : Nat} {st : StateD} {x : StA} (h : StAt w B st x) (hB : B ≤ B') : StAt w B' st x :=
 ⟨h.j.more hB, h.n.more hB, h.l.more hB, h.lj, h.ln, h.ll, h.bj, h.bn, h.bl, h.oj, h.on_, h.ol⟩
theorem below_grown {w0 a b : World} {g : Nat} (hb : Below w0.heap.size w0 a) (hg : a.grownBy b (some g)) (h : w0.heap.size ≤ g) : Below w0.heap.size w0 b :=
 ⟨hg.os.trans hb.os, hg.tape.trans hb.tape, hg.output.trans hb.output, Nat.le_trans hb.size hg.size, fun k hk =>
  (hg.block k (Nat.lt_of_lt_of_le hk hb.size) (by simp; omega)).trans (hb.block k hk)⟩
section
variable {w w' : World} {T b1 b2 b3 n1 n2 n3 m : Nat} {g1 g2 g3 g : ByteArray → Option Value}
theorem TabsAt.setJobs (h : TabsAt w T b1 b2 b3 n1 n2 n3 g1 g2 g3) (hg : w.grownBy w' (some b1)) (h2 : b2 ≠ b1) (h3 : b3 ≠ b1) (hT : T ≠ b1) (hm : MapIs w' b1 m g) : TabsAt w' T b1 b2 b3 m n2 n3 g g2 g3 :=
 ⟨(hg.block T h.t.lt (by simp [hT])).trans h.t, hm, h.m2.but hg h2, h.m3.but hg h3⟩
theorem TabsAt.setNodes (h : TabsAt w T b1 b2 b3 n1 n2 n3 g1 g2 g3) (hg : w.grownBy w' (some b2)) (h1 : b1 ≠ b2) (h3 : b3 ≠ b2) (hT : T ≠ b2) (hm : MapIs w' b2 m g) : TabsAt w' T b1 b2 b3 n1 m n3 g1 g g3 :=
 ⟨(hg.block T h.t.lt (by simp [hT])).trans h.t, h.m1.but hg h1, hm, h.m3.but hg h3⟩
end
theorem jobG_step {l : List JobD} (h : rowsE jobE JobD.name l = 0) {k : Nat} {x : JobD} (hx : l[k]? = some x) (s : ByteArray) :
 jobG (l.take (k + 1)) s = if s = x.name then some (.agg (jobV x).toArray) else jobG (l.take k) s := by
 unfold jobG jobOf
 rw [find_take JobD.name (rows_apart h) hx s]
 split <;> rfl
theorem nodeG_step {l : List NodeD} (h : rowsE nodeE NodeD.name l = 0) {k : Nat} {x : NodeD} (hx : l[k]? = some x) (s : ByteArray) :
 nodeG (l.take (k + 1)) s = if s = x.name then some (.agg (nodeV x).toArray) else nodeG (l.take k) s := by
 unfold nodeG nodeOf
 rw [find_take NodeD.name (rows_apart h) hx s]
 split <;> rfl
structure CkAt (w0 wr : World) (st : StateD) (x : StA) (S T b1 b2 b3 n1 n2 n3 : Nat) (g1 g2 g3 : ByteArray → Option Value) : Prop where
 below : Below w0.heap.size w0 wr
 box : Blk wr S 26 (stC st x)
 tabs : TabsAt wr T b1 b2 b3 n1 n2 n3 g1 g2 g3
def noG : ByteArray → Option Value := fun _ => none
def madeW (w : World) : World := (((w.alloc (.map #[] 0)).alloc (.map #[] 0)).alloc (.map #[] 0)).alloc (.cells #[.map (some w.heap.size), .map (some (w.heap.size + 1)), .map (some (w.heap.size + 1 + 1))] 246)
theorem madeW_below (w : World) : Below w.heap.size w (madeW w) :=
 ((((Below.refl w.heap.size w).alloc (Nat.le_refl _) _).alloc (by simp) _).alloc (by simp; omega) _).alloc (by simp; omega) _
theorem madeW_tabs (w : World) : TabsAt (madeW w) (w.heap.size + 1 + 1 + 1) w.heap.size (w.heap.size + 1) (w.heap.size + 1 + 1) 0 0 0 noG noG noG := by
 have m1 := MapIs.made w
 have m2 := MapIs.made (w.alloc (.map #[] 0))
 have m3 := MapIs.made ((w.alloc (.map #[] 0)).alloc (.map #[] 0))
 have up : ∀ (W : World) (o : Obj), Below W.heap.size W (W.alloc o) := fun W o => (Below.refl _ _).alloc (Nat.le_refl _) o
 have e1 : (w.alloc (.map #[] 0)).heap.size = w.heap.size + 1 := by simp
 have e2 : ((w.alloc (.map #[] 0)).alloc (.map #[] 0)).heap.size = w.heap.size + 1 + 1 := by simp
 have e3 : (((w.alloc (.map #[] 0)).alloc (.map #[] 0)).alloc (.map #[] 0)).heap.size = w.heap.size + 1 + 1 + 1 := by simp
 have hB := heap_alloc_new (((w.alloc (.map #[] 0)).alloc (.map #[] 0)).alloc (.map #[] 0)) (.cells #[.map (some w.heap.size), .map (some (w.heap.size + 1)), .map (some (w.heap.size + 1 + 1))] 246)
 rw [e1] at m2
 rw [e2] at m3
 rw [e3] at hB
 refine ⟨hB, ?_, ?_, ?_⟩
 · exact ((m1.below (up _ _) m1.lt).below (up _ _) (by simp; omega)).below (up _ _) (by simp; omega)
 · exact (m2.below (up _ _) m2.lt).below (up _ _) (by simp)
 · exact m3.below (up _ _) m3.lt
def CkPost (st : StateD) (w : World) (e : Ending) (w' : World) : Prop :=
 Below w.heap.size w w' ∧ ((checkE st ≠ 0 ∧ e = .returned (.tuple #[.pointer none, .int .i64 (checkE st)])) ∨
  (checkE st = 0 ∧ ∃ T b1 b2 b3 n1 n2 n3 g3, e = .returned (.tuple #[.pointer (some ⟨T, 0, none⟩), .int .i64 0]) ∧ TabsAt w' T b1 b2 b3 n1 n2 n3 (jobG st.jobs) (nodeG st.nodes) g3 ∧ UsedIs g3 (usedE st)))
theorem CkPost.bad {st : StateD} {w w' : World} {E : Int} (h : checkE st = E) (hE : E ≠ 0) (hb : Below w.heap.size w w') : CkPost st w (.returned (.tuple #[.pointer none, .int .i64 E])) w' := ⟨hb, .inl ⟨by rw [h]; exact hE, by rw [h]⟩⟩
theorem ck_rev {st : StateD} (h : ranged st.rev 0 1099511627776 = false) : checkE st = 1 := by unfold checkE; rw [if_pos h]
theorem ck_large {st : StateD} (h : ranged st.rev 0 1099511627776 = true) (h2 : sizesOk st = false) : checkE st = 2 := by unfold checkE; rw [if_neg (by rw [h]; simp), if_pos h2]
theorem ck_jobs {st : StateD} (h : ranged st.rev 0 1099511627776 = true) (h2 : sizesOk st = true) (h3 : rowsE jobE JobD.name st.jobs ≠ 0) : checkE st = rowsE jobE JobD.name st.jobs := by
 unfold checkE; rw [if_neg (by rw [h]; simp), if_neg (by rw [h2]; simp), if_pos h3]
theorem ck_nodes {st : StateD} (h : ranged st.rev 0 1099511627776 = true) (h2 : sizesOk st = true) (h3 : rowsE jobE JobD.name st.jobs = 0) (h4 : rowsE nodeE NodeD.name st.nodes ≠ 0) : checkE st = rowsE nodeE NodeD.name st.nodes := by
 unfold checkE; rw [if_neg (by rw [h]; simp), if_neg (by rw [h2]; simp), if_neg (by simp [h3]), if_pos h4]
theorem ck_rest {st : StateD} (h : ranged st.rev 0 1099511627776 = true) (h2 : sizesOk st = true) (h3 : rowsE jobE JobD.name st.jobs = 0) (h4 : rowsE nodeE NodeD.name st.nodes = 0) :
 checkE st = if rowsE (leaseE st) LeaseD.job st.leases ≠ 0 then rowsE (leaseE st) LeaseD.job st.leases else if roomOk st = true then 0 else 9 := by
 unfold checkE; rw [if_neg (by rw [h]; simp), if_neg (by rw [h2]; simp), if_neg (by simp [h3]), if_neg (by simp [h4])]
def L1Inv (w0 wr : World) (st : StateD) (x : StA) (b nj : Nat) (i : Value) : Prop := ∃ k : Nat, k ≤ nj ∧ i = .int .i64 k ∧ CkAt w0 wr st x w0.heap.size (b + 1 + 1 + 1) b (b + 1) (b + 1 + 1) k 0 0 (jobG (st.jobs.take k)) noG noG
def L2Inv (w0 wr : World) (st : StateD) (x : StA) (b n1 nn : Nat) (i : Value) : Prop := ∃ k : Nat, k ≤ nn ∧ i = .int .i64 k ∧ CkAt w0 wr st x w0.heap.size (b + 1 + 1 + 1) b (b + 1) (b + 1 + 1) n1 k 0 (jobG st.jobs) (nodeG (st.nodes.take k)) noG
def roomFrom (st : StateD) (l : List NodeD) : Bool := l.all fun n => decide (usedE st n.name ≤ n.room)
theorem roomFrom_step {st : StateD} {l : List NodeD} {k : Nat} {x : NodeD} (h : l[k]? = some x) : roomFrom st (l.drop k) = (decide (usedE st x.name ≤ x.room) && roomFrom st (l.drop (k + 1))) := by
 rw [drop_cons h]; rfl
def L3Inv (w0 wr : World) (st : StateD) (x : StA) (b n1 n2 n3 : Nat) (g3 : ByteArray → Option Value) (nn : Nat) (i : Value) : Prop :=
 ∃ k : Nat, k ≤ nn ∧ i = .int .i64 k ∧ CkAt w0 wr st x w0.heap.size (b + 1 + 1 + 1) b (b + 1) (b + 1 + 1) n1 n2 n3 (jobG st.jobs) (nodeG st.nodes) g3 ∧ roomFrom st (st.nodes.drop k) = roomOk st
end Go.Proofs.YtjgnnobccecpeaaGreatDoor
/- Worlds of whose old blocks only two have turned; the rows of a state in blocks of the call's own. -/
namespace Go.Proofs.YtjgnnobccecpeaaGreatDoor
open Go.Lib (hid)
open Go.RowKit
structure StOwn (w : World) (base : Nat) (st : StateD) (x : StA) : Prop where
 j : w.ownsRow base 38 5 (.slice x.aj x.nj x.cj) x.nj (rowsV jobV st.jobs)
 n : w.ownsRow base 40 3 (.slice x.an x.nn x.cn) x.nn (rowsV nodeV st.nodes)
 l : w.ownsRow base 42 3 (.slice x.al x.nl x.cl) x.nl (rowsV leaseV st.leases)
 lj : st.jobs.length = x.nj
 ln : st.nodes.length = x.nn
 ll : st.leases.length = x.nl
theorem StOwn.grow {w w' : World} {base g : Nat} {st : StateD} {x : StA} (h : StOwn w base st x) (hg : w.grownBy w' (some g)) (hb : g < base) : StOwn w' base st x :=
 ⟨ownT_grow h.j hg hb, ownT_grow h.n hg hb, ownT_grow h.l hg hb, h.lj, h.ln, h.ll⟩
theorem StOwn.at_ {w : World} {base : Nat} {st : StateD} {x : StA} (h : StOwn w base st x) (bj : x.nj ≤ 40) (bn : x.nn ≤ 20) (bl : x.nl ≤ 40) (oj : JobsOk st.jobs) (on_ : NodesOk st.nodes) (ol : LeasesOk st.leases) : StAt w w.heap.size st x :=
 ⟨own_slAt h.j, own_slAt h.n, own_slAt h.l, h.lj, h.ln, h.ll, by omega, by omega, by omega, oj, on_, ol⟩
theorem ownT_base {w : World} {base b n sz : Nat} {e : TypeId} {v : Value} {xs : List Value} (ho : w.ownsRow base e sz v n xs) (hb : b ≤ base) : w.ownsRow b e sz v n xs := by
 rcases ho with ⟨h1, h | ⟨q, cap, cur, hv, hq, hgq, r⟩⟩
 · exact ⟨h1, .inl h⟩
 · exact ⟨h1, .inr ⟨q, cap, cur, hv, Nat.le_trans hb hq, hgq, r⟩⟩
theorem grow_keep {w0 w w' : World} {b : Nat} (h : Below w0.heap.size w0 w) (hg : w.grownBy w' (some b)) (hb : w0.heap.size ≤ b) : Below w0.heap.size w0 w' :=
 ⟨hg.os.trans h.os, hg.tape.trans h.tape, hg.output.trans h.output, Nat.le_trans h.size hg.size, fun k hk => (hg.block k (Nat.lt_of_lt_of_le hk h.size) (by simp; omega)).trans (h.block k hk)⟩
end Go.Proofs.YtjgnnobccecpeaaGreatDoor
/- Rows of the call's own: what becomes of them where something else turns. -/
namespace Go.Proofs.YtjgnnobccecpeaaGreatDoor
open Go.Lib (hid)
open Go.RowKit
theorem ownU_below {w w' : World} {base n sz : Nat} {e : TypeId} {v : Value} {xs : List Value} (ho : w.ownsRow base e sz v n xs) (hb : Below w.heap.size w w') : w'.ownsRow base e sz v n xs := by
 rcases ho with ⟨h1, h | ⟨q, cap, cur, hv, hq, hgq, r⟩⟩
 · exact ⟨h1, .inl h⟩
 · have hlt : q < w.heap.size := (Array.getElem?_eq_some_iff.1 hgq).1
   exact ⟨h1, .inr ⟨q, cap, cur, hv, hq, (hb.block q hlt).trans hgq, r⟩⟩
theorem own_setAt {w : World} {base sz n b off c : Nat} {e : TypeId} {xs : List Value} (ho : w.ownsRow base e sz (.slice (some ⟨b, off, none⟩) n c) n xs) (j : Nat) (hj : j < n * sz) (u : Value) :
 (w.setCell ⟨b, off + j, none⟩ u).ownsRow base e sz (.slice (some ⟨b, off, none⟩) n c) n (xs.set j u) ∧ w.frozen? ⟨b, off + j, none⟩ = false ∧ b < w.heap.size ∧ base ≤ b ∧ ∃ cs, w.heap[b]? = some (.cells cs e (0, 0)) := by
 have h0 : off = 0 := by
  rcases ho.2 with ⟨h, _⟩ | ⟨q, cap, cur, hv, _⟩
  · cases h
  · injection hv with e1 e2 e3
    injection e1 with e1
    injection e1
 subst h0
 obtain ⟨h1, h2, h3, h4⟩ := ownT_set ho j hj u
 refine ⟨by rw [Nat.zero_add]; exact h1, by rw [Nat.zero_add]; exact h2, h3, h4, ?_⟩
 rcases ho.2 with ⟨h, _⟩ | ⟨q, cap, cur, hv, _, hg, _⟩
 · cases h
 · injection hv with e1 e2 e3
   injection e1 with e1
   injection e1 with e1
   subst e1
   exact ⟨_, hg⟩
theorem own_setOther {w : World} {base sz n b i : Nat} {e e' : TypeId} {v u : Value} {xs : List Value} {cs : Array Value} (ho : w.ownsRow base e sz v n xs) (hb : w.heap[b]? = some (.cells cs e' (0, 0))) (hne : e ≠ e') : (w.setCell ⟨b, i, none⟩ u).ownsRow base e sz v n xs := by
 rcases ho with ⟨h1, h | ⟨q, cap, cur, hv, hq, hgq, r⟩⟩
 · exact ⟨h1, .inl h⟩
 · refine ⟨h1, .inr ⟨q, cap, cur, hv, hq, ?_, r⟩⟩
   rw [Below.heap_setCell w ⟨b, i, none⟩ u q (fun e1 => ?_)]
   · exact hgq
   · have e1 : q = b := e1
     rw [e1, hb] at hgq
     simp only [Option.some.injEq, Obj.cells.injEq] at hgq
     exact hne hgq.2.1.symm
theorem own_rec {α : Type} {enc : α → List Value} {w : World} {base sz n c : Nat} {T : TypeId} {A : Option Addr} {l : List α} (hz : ∀ a, (enc a).length = sz) (h : w.ownsRow base T sz (.slice A n c) n (rowsV enc l)) (hl : l.length = n) {i : Nat} {a : α} (hi : l[i]? = some a) :
 ∃ b off, A = some ⟨b, off, none⟩ ∧ base ≤ b ∧ b < w.heap.size ∧ ∀ j u, (enc a)[j]? = some u → w.cell? ⟨b, off + i * sz + j, none⟩ = some u := by
 obtain ⟨b, off, e, hb, hc⟩ := (own_slAt h).rec_ hz hl hi
 refine ⟨b, off, e, ?_, hb, hc⟩
 subst e
 rcases h.2 with ⟨h', _⟩ | ⟨q, cap, cur, hv, hq, _⟩
 · cases h'
 · injection hv with e1
   injection e1 with e1
   injection e1 with e1
   omega
theorem blk_setOther {w : World} {S b i : Nat} {T e : TypeId} {u : Value} {cs cs' : Array Value} (h : Blk w S T cs) (hb : w.heap[b]? = some (.cells cs' e (0, 0))) (hne : T ≠ e) : Blk (w.setCell ⟨b, i, none⟩ u) S T cs := by
 unfold Blk at h ⊢
 rw [Below.heap_setCell w ⟨b, i, none⟩ u S (fun e1 => ?_)]
 · exact h
 · have e1 : S = b := e1
   rw [e1, hb] at h
   simp only [Option.some.injEq, Obj.cells.injEq] at h
   exact hne h.2.1.symm
theorem below_setB {w0 w : World} {base b i : Nat} {u : Value} (h : Below base w0 w) (hb : base ≤ b) : Below base w0 (w.setCell ⟨b, i, none⟩ u) :=
 ⟨h.os, h.tape, h.output, by have := h.size; simpa [World.setCell] using this, fun k hk => (Below.heap_setCell w ⟨b, i, none⟩ u k (by show k ≠ b; omega)).trans (h.block k hk)⟩
theorem own_grewOther {w w' : World} {base b' sz sz' n n' : Nat} {e e' : TypeId} {v u u' : Value} {xs ys : List Value} (ho : w.ownsRow base e sz v n xs) (hg : Grew w w' u u') (hu : w.ownsRow b' e' sz' u n' ys) (hne : e ≠ e') : w'.ownsRow base e sz v n xs := by
 rcases ho with ⟨h1, h | ⟨q, cap, cur, hv, hq, hgq, r⟩⟩
 · exact ⟨h1, .inl h⟩
 · have hlt : q < w.heap.size := (Array.getElem?_eq_some_iff.1 hgq).1
   refine ⟨h1, .inr ⟨q, cap, cur, hv, hq, (hg.grown.block q hlt ?_).trans hgq, r⟩⟩
   intro e1
   rcases hu.2 with ⟨rfl, _⟩ | ⟨q', cap', cur', rfl, _, hgq', _⟩
   · simp [Value.ownBlock] at e1
   · simp [Value.ownBlock] at e1
     subst e1
     rw [hgq] at hgq'
     simp only [Option.some.injEq, Obj.cells.injEq] at hgq'
     exact hne hgq'.2.1
theorem Blk.grewE {w w' : World} {base n g sz : Nat} {e t : TypeId} {v v' : Value} {xs : List Value} {cs : Array Value} (h : Blk w g t cs) (hg : Grew w w' v v') (ho : w.ownsRow base e sz v n xs) (hne : t ≠ e) : Blk w' g t cs := by
 refine (hg.grown.block g h.lt fun hb => ?_).trans h
 rcases ho.2 with ⟨h1, _⟩ | ⟨q, cap, cur, hv, _, hgq, _⟩
 · rw [h1] at hb; cases hb
 · rw [hv] at hb
   have : q = g := by simpa [Value.ownBlock] using hb.symm
   subst this
   unfold Blk at h
   rw [h] at hgq
   injection hgq with hgq
   injection hgq with _ h2
   exact hne h2
end Go.Proofs.YtjgnnobccecpeaaGreatDoor
