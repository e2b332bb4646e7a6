/- Of the proof of a statement: StChkR, PlDiff, Gone, DChk, AtL, GoneR, CkSz, SlEq, SvSame, Frm. -/
import Derived.Laws.Bits64b
import Derived.Laws.BitsAllLaws
import Derived.Below
import Derived.Lib.ValidLaws
import Derived.Test.YtjgnnobccecpeaaGreatDoorRows
import Derived.Lib.QuietBelow
import Derived.Deep.QuietTactic
import Derived.BigQuiet
import Derived.WalkKit
import Derived.ProofKit
import Derived.OpenShut
import Derived.ShutString
import Derived.ChangeOld
import Derived.Lib.SmallJoins
import Derived.Test.YtjgnnobccecpeaaGreatDoorPClone
import Derived.Test.YtjgnnobccecpeaaGreatDoorPHas
set_option linter.unusedVariables false
set_option linter.unusedSimpArgs false
set_option maxRecDepth 100000
set_option maxHeartbeats 8000000
/- The walks of Used and Check in the reference. -/
namespace Go.Proofs.YtjgnnobccecpeaaGreatDoor
open Go.Lib (hid)
open Go.RowKit
def UInv (st : StateD) (x : StA) (s : ByteArray) (w : World) (n : Nat) (sum i : Value) (wr : World) : Prop :=
 ∃ k : Nat, k ≤ n ∧ i = .int .i64 k ∧ sum = .int .i64 (usedL st s (st.leases.take k)) ∧ Below w.heap.size w wr ∧ Blk wr w.heap.size 26 (stC st x)
theorem needOf_other {st : StateD} {l : LeaseD} {s : ByteArray} (h : l.node ≠ s) : needOf st l s = 0 := by unfold needOf; rw [if_neg h]
theorem needOf_none {st : StateD} {l : LeaseD} {s : ByteArray} (h : jobOf st.jobs l.job = none) : needOf st l s = 0 := by unfold needOf; rw [h]; split <;> rfl
theorem needOf_some {st : StateD} {l : LeaseD} {s : ByteArray} {j : JobD} (hn : l.node = s) (h : jobOf st.jobs l.job = some j) : needOf st l s = j.need := by unfold needOf; rw [if_pos hn, h]
theorem rused_any (st : StateD) (x : StA) (s : ByteArray) (w : World) (hS : StAt w w.heap.size st x) (hneed : NeedsOk st) (h40 : x.nl ≤ 40) :
 Calls Tryz.prog 34 #[.agg (stC st x), .string s] w fun e w' => e = .returned (.int .i64 (usedE st s)) ∧ Below w.heap.size w w' := by
 have HS := hid hS
 have hb1 : Below w.heap.size w (w.alloc (.cells (stC st x) 26)) := (Below.refl _ _).alloc (Nat.le_refl _) _
 have hB1 : Blk (w.alloc (.cells (stC st x) 26)) w.heap.size 26 (stC st x) := heap_alloc_new w _
 have Hb1 := hid hb1
 have HB1 := hid hB1
 have Hneed := hid hneed
 clear hb1 hB1 hS hneed
 obtain ⟨rev, jobs, nodes, leases⟩ := st
 obtain ⟨aj, nj, cj, an, nn, cn, al, nl, cl⟩ := x
 simp only [stC] at *
 have hlj := HS.out.lj
 have hll := HS.out.ll
 have hbj := HS.out.bj
 simp only at hlj hll hbj
 go_enter Tryz.func34, Tryz.ntmps34
 go_wp2
 go_loopw [5, 7, 8, 12, 20] (fun sum _ _ i _ wr => UInv ⟨rev, jobs, nodes, leases⟩ ⟨aj, nj, cj, an, nn, cn, al, nl, cl⟩ s w nl sum i wr) (fun _ _ _ i _ _ => nl - (intOf i).toNat)
 case atStart => exact ⟨0, Nat.zero_le _, rfl, rfl, Hb1.out, HB1.out⟩
 case round =>
  obtain ⟨k, hk, rfl, rfl, hb, hB⟩ := hrel
  have Hb := hid hb
  have HB := hid hB
  have hsz := hb.size
  by_cases hlt : k < nl
  · obtain ⟨y, hf⟩ : ∃ y, leases[k]? = some y := ⟨_, List.getElem?_eq_getElem (by omega)⟩
    obtain ⟨b, off, rfl, hbB, hc⟩ := (HS.out.l.below hb).rec_ leaseV_len hll hf
    have hstep := hid (usedL_step ⟨rev, jobs, nodes, leases⟩ s hf)
    have hbnd := hid (usedL_bound Hneed.out s (leases.take k))
    have hbl : (leases.take k).length ≤ 40 := by rw [List.length_take]; omega
    obtain ⟨job, node, till⟩ := y
    obtain ⟨c0, c1, c2⟩ := rc3 hc
    have hlb : b < wr.heap.size := by omega
    have hb0 := (Below.refl wr.heap.size wr).alloc (Nat.le_refl _) (.cells #[.string job, .string node, .int .i64 till] 42)
    have HBa := hid (hB.below hb0 hB.lt)
    have y1 : (wr.alloc (.cells #[.string job, .string node, .int .i64 till] 42)).cell? ⟨w.heap.size, 1, none⟩ = some (.slice aj nj cj) := HBa.out.cell 1
    have Hba := hid (hb.trans (hb0.mono hsz))
    have hSj := hid ((HS.out.j.below Hba.out).more Hba.out.size)
    have hSl := hB.lt
    clear hc hf hb0 hb hB
    go_wp2_with fail
    refine Calls.mono (jobAt_any jobs job aj nj cj _ hSj.out hlj hbj) ?_
    rintro e w2 ⟨i, rfl, hb2, hcase⟩
    have z0 : w2.cell? ⟨wr.heap.size, 1, none⟩ = some (.string node) := by rw [(bcell hb2).1 _ _ (by simp)]; simp [go_sem]
    have hB2 := HBa.out.below hb2 HBa.out.lt
    have Hb2 := hid (Hba.out.trans (hb2.mono Hba.out.size))
    have HB2 := hid hB2
    have z1 : w2.cell? ⟨w.heap.size, 1, none⟩ = some (.slice aj nj cj) := hB2.cell 1
    generalize hu : usedL ⟨rev, jobs, nodes, leases⟩ s (leases.take k) = u at hstep hbnd ⊢
    have hu1 : 0 ≤ u ∧ u ≤ 40000000 := by have := hbnd.out; omega
    clear hu hbnd hb2 hB2 y1
    by_cases hs : node = s
    rotate_left
    · have e1 := beq_diff hs
      have hfin := hid (show usedL ⟨rev, jobs, nodes, leases⟩ s (leases.take (k + 1)) = u by rw [hstep.out, needOf_other hs, Int.add_zero])
      clear z1 hcase
      go_wp2
      go_roundw
      case rel => exact ⟨k + 1, by omega, by go_num, by rw [hfin.out], Hb2.out, HB2.out⟩
      case measure => simp [intOf]; omega
    have e1 := beq_same node
    rcases hcase with ⟨rfl, hjo⟩ | ⟨m, j, rfl, hjm, hjo⟩
    · have hfin := hid (show usedL ⟨rev, jobs, nodes, leases⟩ s (leases.take (k + 1)) = u by rw [hstep.out, needOf_none (l := ⟨job, node, till⟩) hjo, Int.add_zero])
      clear z1 hjo
      subst hs
      go_wp2
      go_roundw
      case rel => exact ⟨k + 1, by omega, by go_num, by rw [hfin.out], Hb2.out, HB2.out⟩
      case measure => simp [intOf]; omega
    · have hjn := Hneed.out j (List.mem_of_getElem? hjm)
      have hfin := hid (show usedL ⟨rev, jobs, nodes, leases⟩ s (leases.take (k + 1)) = u + j.need by rw [hstep.out, needOf_some (l := ⟨job, node, till⟩) hs hjo])
      obtain ⟨bj, oj, rfl, hbjB, hcj⟩ := (HS.out.j.below Hb2.out).rec_ jobV_len hlj hjm
      obtain ⟨hml, _⟩ := List.getElem?_eq_some_iff.1 hjm
      obtain ⟨name, prio, need, tries, tag⟩ := j
      have q2 : w2.cell? ⟨bj, oj + m * 5 + 2, none⟩ = some (.int .i64 need) := hcj 2 _ rfl
      simp only at hjn
      clear hjo hcj hjm
      subst hs
      have hm0 : decide ((0 : Int) ≤ (m : Int)) = true := decide_eq_true (by omega)
      go_wp2
      go_roundw
      case rel => exact ⟨k + 1, by omega, by go_num, by rw [hfin.out], Hb2.out, HB2.out⟩
      case measure => simp [intOf]; omega
  · have htk : leases.take k = leases := List.take_of_length_le (by omega)
    have fin := hid (show usedL ⟨rev, jobs, nodes, leases⟩ s (leases.take k) = usedE ⟨rev, jobs, nodes, leases⟩ s by rw [htk]; rfl)
    clear hb hB
    go_wp2
    go_ret
    exact ⟨ret_int fin.out, Hb.out⟩
end Go.Proofs.YtjgnnobccecpeaaGreatDoor
/- What Diff of two states says: plain. -/
namespace Go.Proofs.YtjgnnobccecpeaaGreatDoor
open Go.Lib (hid)
noncomputable def newL {α : Type} (a b : List α) : List α := b.filter fun x => !a.any (eqB x)
def goneL {α : Type} (key : α → ByteArray) (a b : List α) : List ByteArray := (a.filter fun x => !b.any fun y => decide (key y = key x)).map key
noncomputable def betweenD (a b : StateD) : DeltaD := ⟨a.rev, b.rev, newL a.jobs b.jobs, newL a.nodes b.nodes, newL a.leases b.leases, goneL JobD.name a.jobs b.jobs, goneL NodeD.name a.nodes b.nodes, goneL LeaseD.job a.leases b.leases⟩
section
variable {α : Type} {p : α → Bool} {l : List α} {k : Nat} {x : α}
theorem filter_yes (h : l[k]? = some x) (hp : p x = true) : (l.take (k + 1)).filter p = (l.take k).filter p ++ [x] := by
 rw [List.take_add_one, h, List.filter_append]; simp [hp]
theorem filter_no (h : l[k]? = some x) (hp : p x = false) : (l.take (k + 1)).filter p = (l.take k).filter p := by
 rw [List.take_add_one, h, List.filter_append]; simp [hp]
theorem filter_len (p : α → Bool) (l : List α) (k : Nat) : ((l.take k).filter p).length ≤ k := Nat.le_trans (List.length_filter_le _ _) (by rw [List.length_take]; omega)
theorem filter_all (p : α → Bool) {l : List α} {k : Nat} (h : l.length ≤ k) : (l.take k).filter p = l.filter p := by rw [List.take_of_length_le h]
end
theorem newL_len {α : Type} (a b : List α) : (newL a b).length ≤ b.length := List.length_filter_le _ _
theorem goneL_len {α : Type} (key : α → ByteArray) (a b : List α) : (goneL key a b).length ≤ a.length := by unfold goneL; rw [List.length_map]; exact List.length_filter_le _ _
end Go.Proofs.YtjgnnobccecpeaaGreatDoor
/- The walks of gone (the program), at jobs, nodes and leases. -/
namespace Go.Proofs.YtjgnnobccecpeaaGreatDoor
open Go.Lib (hid)
open Go.RowKit
def NamesOk (xs : List ByteArray) : Prop := ∀ x ∈ xs, x.size ≤ 9223372036854775807
end Go.Proofs.YtjgnnobccecpeaaGreatDoor
/- A delta in memory; the walk of delta.Check. -/
namespace Go.Proofs.YtjgnnobccecpeaaGreatDoor
open Go.Lib (hid)
open Go.RowKit
structure DelA where
 aj : Option Addr
 nj : Nat
 cj : Nat
 an : Option Addr
 nn : Nat
 cn : Nat
 al : Option Addr
 nl : Nat
 cl : Nat
 agj : Option Addr
 ngj : Nat
 cgj : Nat
 agn : Option Addr
 ngn : Nat
 cgn : Nat
 agl : Option Addr
 ngl : Nat
 cgl : Nat
def dC (d : DeltaD) (x : DelA) : Array Value := #[.int .i64 d.from_, .int .i64 d.to_, .slice x.aj x.nj x.cj, .slice x.an x.nn x.cn, .slice x.al x.nl x.cl, .slice x.agj x.ngj x.cgj, .slice x.agn x.ngn x.cgn, .slice x.agl x.ngl x.cgl]
structure DelAt (w : World) (B : Nat) (d : DeltaD) (x : DelA) : Prop where
 j : SlAt w B 5 x.aj x.nj (rowsV jobV d.jobs)
 n : SlAt w B 3 x.an x.nn (rowsV nodeV d.nodes)
 l : SlAt w B 3 x.al x.nl (rowsV leaseV d.leases)
 gj : SlAt w B 1 x.agj x.ngj (rowsV strV d.gj)
 gn : SlAt w B 1 x.agn x.ngn (rowsV strV d.gn)
 gl : SlAt w B 1 x.agl x.ngl (rowsV strV d.gl)
 lj : d.jobs.length = x.nj
 ln : d.nodes.length = x.nn
 ll : d.leases.length = x.nl
 lgj : d.gj.length = x.ngj
 lgn : d.gn.length = x.ngn
 lgl : d.gl.length = x.ngl
 bj : x.nj ≤ 9223372036854775807
 bn : x.nn ≤ 9223372036854775807
 bl : x.nl ≤ 9223372036854775807
 bgj : x.ngj ≤ 9223372036854775807
 bgn : x.ngn ≤ 9223372036854775807
 bgl : x.ngl ≤ 9223372036854775807
 oj : JobsOk d.jobs
 on_ : NodesOk d.nodes
 ol : LeasesOk d.leases
 ogj : NamesOk d.gj
 ogn : NamesOk d.gn
 ogl : NamesOk d.gl
theorem DelAt.below {w w' : World} {B : Nat} {d : DeltaD} {x : DelA} (h : DelAt w B d x) (hb : Below B w w') : DelAt w' B d x :=
 { h with j := h.j.below hb, n := h.n.below hb, l := h.l.below hb, gj := h.gj.below hb, gn := h.gn.below hb, gl := h.gl.below hb }
theorem DelAt.more {w : World} {B B' : Nat} {d : DeltaD} {x : DelA} (h : DelAt w B d x) (hB : B ≤ B') : DelAt w B' d x :=
 { h with j := h.j.more hB, n := h.n.more hB, l := h.l.more hB, gj := h.gj.more hB, gn := h.gn.more hB, gl := h.gl.more hB }
theorem DelAt.up {w w' : World} {d : DeltaD} {x : DelA} (h : DelAt w w.heap.size d x) (hb : Below w.heap.size w w') : DelAt w' w'.heap.size d x := (h.below hb).more hb.size
end Go.Proofs.YtjgnnobccecpeaaGreatDoor
/- The walk of LeaseAt in the reference. -/
namespace Go.Proofs.YtjgnnobccecpeaaGreatDoor
open Go.Lib (hid)
open Go.RowKit
def LeaseAtPost (xs : List LeaseD) (s : ByteArray) (w : World) (e : Ending) (w' : World) : Prop :=
 ∃ i : Int, e = .returned (.int .i64 i) ∧ Below w.heap.size w w' ∧ ((i = -1 ∧ leaseOf xs s = none) ∨ ∃ (k : Nat) (x : LeaseD), i = (k : Int) ∧ xs[k]? = some x ∧ leaseOf xs s = some x)
def LeaseAtInv (xs : List LeaseD) (s : ByteArray) (n : Nat) (w : World) (i : Value) (wr : World) : Prop := ∃ k : Nat, k ≤ n ∧ i = .int .i64 k ∧ (xs.take k).find? (fun x => decide (x.job = s)) = none ∧ Below w.heap.size w wr
theorem leaseAt_any (xs : List LeaseD) (s : ByteArray) (A : Option Addr) (n c : Nat) (w : World) (hx : SlAt w w.heap.size 3 A n (rowsV leaseV xs)) (hl : xs.length = n) (hn : n ≤ 9223372036854775807) :
 Calls Tryz.prog 52 #[.slice A n c, .string s] w (LeaseAtPost xs s w) := by
 have Hl := hid hl
 clear hl
 go_enter Tryz.func52, Tryz.ntmps52
 go_wp2
 go_loopw [4, 5, 6, 9] (fun _ _ _ i wr => LeaseAtInv xs s n w i wr) (fun _ _ _ i _ => n - (intOf i).toNat)
 case atStart => exact ⟨0, Nat.zero_le _, rfl, by simp, Below.refl _ _⟩
 case round =>
  obtain ⟨k, hk, rfl, hnone, hb⟩ := hrel
  have Hnone := hid hnone
  have Hb := hid hb
  have hsz := hb.size
  clear hnone
  by_cases hlt : k < n
  · obtain ⟨x, hf⟩ : ∃ x, xs[k]? = some x := ⟨_, List.getElem?_eq_getElem (by rw [Hl.out]; exact hlt)⟩
    obtain ⟨b, off, rfl, hbB, hc⟩ := (hx.below hb).rec_ leaseV_len Hl.out hf
    have Hf := hid hf
    obtain ⟨job, node, till⟩ := x
    obtain ⟨c0, c1, c2⟩ := rc3 hc
    clear hc hf hx hb
    have hlb : b < wr.heap.size := by omega
    have hBa := hid (Hb.out.alloc Hb.out.size (.cells #[.string job, .string node, .int .i64 till] 42))
    by_cases hs : job = s
    · subst hs
      have e1 := beq_same job
      have fin := hid (find_hit Hnone.out Hf.out (by simp))
      go_wp2
      go_ret
      exact ⟨_, rfl, hBa.out, .inr ⟨k, _, rfl, Hf.out, fin.out⟩⟩
    · have e1 := beq_diff hs
      have fin := hid (find_miss Hnone.out Hf.out (by simp [hs]))
      go_wp2
      go_roundw
      case rel => exact ⟨k + 1, by omega, by go_num, fin.out, hBa.out⟩
      case measure => simp [intOf]; omega
  · have fin := hid (find_out Hnone.out (by rw [Hl.out]; omega))
    clear hx
    go_wp2
    go_ret
    exact ⟨_, rfl, Hb.out, .inl ⟨rfl, fin.out⟩⟩
end Go.Proofs.YtjgnnobccecpeaaGreatDoor
/- The walks of goneCheck and its closures, LeaseAt and LeaseCheck, in the reference. -/
namespace Go.Proofs.YtjgnnobccecpeaaGreatDoor
open Go.Lib (hid)
open Go.RowKit
theorem leaseCheck_any (l : LeaseD) (w : World) (h1 : l.job.size ≤ 9223372036854775807) (h2 : l.node.size ≤ 9223372036854775807) :
 Calls Tryz.prog 144 #[.agg (leaseV l).toArray] w fun e w' => e = .returned (.int .i64 (lsE l)) ∧ Below w.heap.size w w' := by
 obtain ⟨E, hE⟩ : ∃ E, lsE l = E := ⟨_, rfl⟩
 rw [hE]
 have HE := hid hE
 clear hE
 obtain ⟨job, node, till⟩ := l
 unfold leaseV
 simp only at h1 h2 ⊢
 have HB := hid ((Below.refl w.heap.size w).alloc (Nat.le_refl _) (.cells #[.string job, .string node, .int .i64 till] 42))
 go_enter Tryz.func144, Tryz.ntmps144
 go_wp2_with fail
 refine Calls.mono (rIsName_any _ _ h1) ?_
 rintro e w1 ⟨rfl, rfl⟩
 cases hn : nameOk job
 · go_wp2
   go_ret
   exact ⟨ret_int (by rw [← HE.out]; simp [lsE, hn]), HB.out⟩
 go_wp2_with fail
 refine Calls.mono (rIsName_any _ _ h2) ?_
 rintro e w1 ⟨rfl, rfl⟩
 cases ht : nameOk node
 · go_wp2
   go_ret
   exact ⟨ret_int (by rw [← HE.out]; simp [lsE, hn, ht]), HB.out⟩
 go_wp2_with fail
 refine Calls.mono (outside_any _ _ _ _) ?_
 rintro e w1 ⟨rfl, rfl⟩
 cases hr : ranged till 0 1099511627776
 · go_wp2
   go_ret
   exact ⟨ret_int (by rw [← HE.out]; simp [lsE, hn, ht, hr]), HB.out⟩
 go_wp2
 go_ret
 exact ⟨ret_int (by rw [← HE.out]; simp [lsE, hn, ht, hr]), HB.out⟩
end Go.Proofs.YtjgnnobccecpeaaGreatDoor
/- How many rows a state that may be has. -/
namespace Go.Proofs.YtjgnnobccecpeaaGreatDoor
open Go.Lib (hid)
open Go.RowKit
theorem ck_sizes {st : StateD} (h : checkE st = 0) : st.jobs.length ≤ 40 ∧ st.nodes.length ≤ 20 ∧ st.leases.length ≤ 40 := by
 have hz : sizesOk st = true := by
  cases hr : ranged st.rev 0 1099511627776 with
  | false => rw [ck_rev hr] at h; exact absurd h (by decide)
  | true =>
   cases hs : sizesOk st with
   | true => rfl
   | false => rw [ck_large hr hs] at h; exact absurd h (by decide)
 unfold sizesOk at hz
 simp at hz
 omega
end Go.Proofs.YtjgnnobccecpeaaGreatDoor
/- slices.Equal at rows of records: true just where the lists are the same. -/
namespace Go.Proofs.YtjgnnobccecpeaaGreatDoor
open Go.Lib (hid)
open Go.RowKit
theorem sleq_job (xs ys : List JobD) (A A' : Option Addr) (n m c c' : Nat) (w : World) (hx : SlAt w w.heap.size 5 A n (rowsV jobV xs)) (hy : SlAt w w.heap.size 5 A' m (rowsV jobV ys)) (lx : xs.length = n) (ly : ys.length = m) (hn : n ≤ 9223372036854775807) (hm : m ≤ 9223372036854775807) :
 Calls Tryz.prog 117 #[.slice A n c, .slice A' m c'] w (EqPost xs ys w) := by
 by_cases h : n = m
 · subst h
   have h0 : ((n : Int) != n) = false := by simp
   have Lx := hid lx
   have Ly := hid ly
   clear lx ly
   go_enter Tryz.func117, Tryz.ntmps117
   go_wp2
   go_loopw [13] (fun i wr => EqInv xs ys n w i wr) (fun i _ => n - (intOf i).toNat)
   case atStart => exact ⟨0, Nat.zero_le _, rfl, rfl, Below.refl _ _⟩
   case round =>
    obtain ⟨k, hk, rfl, he, hb⟩ := hrel
    have He := hid he
    clear he
    by_cases hlt : k < n
    · obtain ⟨x, hxk⟩ : ∃ x, xs[k]? = some x := ⟨_, List.getElem?_eq_getElem (by rw [Lx.out]; exact hlt)⟩
      obtain ⟨y, hyk⟩ : ∃ y, ys[k]? = some y := ⟨_, List.getElem?_eq_getElem (by rw [Ly.out]; exact hlt)⟩
      obtain ⟨b, off, rfl, hbB, hc⟩ := (hx.below hb).rec_ jobV_len Lx.out hxk
      obtain ⟨b', off', rfl, hbB', hc'⟩ := (hy.below hb).rec_ jobV_len Ly.out hyk
      obtain ⟨x_name, x_prio, x_need, x_tries, x_tag⟩ := x
      obtain ⟨y_name, y_prio, y_need, y_tries, y_tag⟩ := y
      have c0 : wr.cell? ⟨b, off + k * 5, none⟩ = some (.string x_name) := hc 0 _ rfl
      have d0 : wr.cell? ⟨b', off' + k * 5, none⟩ = some (.string y_name) := hc' 0 _ rfl
      have c1 : wr.cell? ⟨b, off + k * 5 + 1, none⟩ = some (.int .i64 x_prio) := hc 1 _ rfl
      have d1 : wr.cell? ⟨b', off' + k * 5 + 1, none⟩ = some (.int .i64 y_prio) := hc' 1 _ rfl
      have c2 : wr.cell? ⟨b, off + k * 5 + 2, none⟩ = some (.int .i64 x_need) := hc 2 _ rfl
      have d2 : wr.cell? ⟨b', off' + k * 5 + 2, none⟩ = some (.int .i64 y_need) := hc' 2 _ rfl
      have c3 : wr.cell? ⟨b, off + k * 5 + 3, none⟩ = some (.int .i64 x_tries) := hc 3 _ rfl
      have d3 : wr.cell? ⟨b', off' + k * 5 + 3, none⟩ = some (.int .i64 y_tries) := hc' 3 _ rfl
      have c4 : wr.cell? ⟨b, off + k * 5 + 4, none⟩ = some (.string x_tag) := hc 4 _ rfl
      have d4 : wr.cell? ⟨b', off' + k * 5 + 4, none⟩ = some (.string y_tag) := hc' 4 _ rfl
      have hsz := hb.size
      have hlt1 : b < wr.heap.size := by omega
      have hlt2 : b' < wr.heap.size := by omega
      have Hb := hid hb
      have Hxk := hid hxk
      have Hyk := hid hyk
      have fin := hid Hb.out.drew
      have step := hid (fun (h : (⟨x_name, x_prio, x_need, x_tries, x_tag⟩ : JobD) = ⟨y_name, y_prio, y_need, y_tries, y_tag⟩) => take_eq_stepE (hxk.trans (congrArg some h)) hyk He.out)
      have stop := hid (fun (h : (⟨x_name, x_prio, x_need, x_tries, x_tag⟩ : JobD) ≠ ⟨y_name, y_prio, y_need, y_tries, y_tag⟩) => ne_of_atE hxk hyk h)
      clear hc hc' hx hy hxk hyk hb
      obtain ⟨t, ht, hrun, -⟩ := neqv_job x_name y_name x_tag y_tag x_prio y_prio x_need y_need x_tries y_tries
      have HT := hid ht
      cases t
      · have stop2 := hid (stop.out (fun h => absurd (HT.out.2 h) (by decide)))
        have hrun' : ∀ W, (binOp .neq 38 (.agg #[.string x_name, .int .i64 x_prio, .int .i64 x_need, .int .i64 x_tries, .string x_tag]) (.agg #[.string y_name, .int .i64 y_prio, .int .i64 y_need, .int .i64 y_tries, .string y_tag])).run Tryz.prog W = .ok (.bool true) W := hrun
        clear ht hrun step
        go_wp2
        go_region
        go_wp2
        go_ret
        exact ⟨false, rfl, ⟨fun h => (by cases h), fun h => absurd h stop2.out⟩, fin.out⟩
      · have step2 := hid (step.out (HT.out.1 rfl))
        have hrun' : ∀ W, (binOp .neq 38 (.agg #[.string x_name, .int .i64 x_prio, .int .i64 x_need, .int .i64 x_tries, .string x_tag]) (.agg #[.string y_name, .int .i64 y_prio, .int .i64 y_need, .int .i64 y_tries, .string y_tag])).run Tryz.prog W = .ok (.bool false) W := hrun
        clear ht hrun stop
        go_wp2
        go_region
        go_wp2
        go_roundw
        case rel => exact ⟨k + 1, by omega, by go_num, step2.out, fin.out⟩
        case measure => simp [intOf]; omega
    · have fin := hid hb
      have same := hid (show xs = ys by
       have e := He.out
       rwa [List.take_of_length_le (by rw [Lx.out]; omega), List.take_of_length_le (by rw [Ly.out]; omega)] at e)
      clear hb hx hy
      go_wp2
      go_ret
      exact ⟨true, rfl, ⟨fun _ => same.out, fun _ => rfl⟩, fin.out⟩
 · have h0 : ((n : Int) != m) = true := by simp; omega
   have fin := hid (show xs ≠ ys by rintro rfl; omega)
   clear lx ly hx hy
   go_enter Tryz.func117, Tryz.ntmps117
   go_wp2
   go_ret
   exact ⟨false, rfl, ⟨fun h => (by cases h), fun h => absurd h fin.out⟩, Below.refl _ _⟩
theorem sleq_node (xs ys : List NodeD) (A A' : Option Addr) (n m c c' : Nat) (w : World) (hx : SlAt w w.heap.size 3 A n (rowsV nodeV xs)) (hy : SlAt w w.heap.size 3 A' m (rowsV nodeV ys)) (lx : xs.length = n) (ly : ys.length = m) (hn : n ≤ 9223372036854775807) (hm : m ≤ 9223372036854775807) :
 Calls Tryz.prog 118 #[.slice A n c, .slice A' m c'] w (EqPost xs ys w) := by
 by_cases h : n = m
 · subst h
   have h0 : ((n : Int) != n) = false := by simp
   have Lx := hid lx
   have Ly := hid ly
   clear lx ly
   go_enter Tryz.func118, Tryz.ntmps118
   go_wp2
   go_loopw [13] (fun i wr => EqInv xs ys n w i wr) (fun i _ => n - (intOf i).toNat)
   case atStart => exact ⟨0, Nat.zero_le _, rfl, rfl, Below.refl _ _⟩
   case round =>
    obtain ⟨k, hk, rfl, he, hb⟩ := hrel
    have He := hid he
    clear he
    by_cases hlt : k < n
    · obtain ⟨x, hxk⟩ : ∃ x, xs[k]? = some x := ⟨_, List.getElem?_eq_getElem (by rw [Lx.out]; exact hlt)⟩
      obtain ⟨y, hyk⟩ : ∃ y, ys[k]? = some y := ⟨_, List.getElem?_eq_getElem (by rw [Ly.out]; exact hlt)⟩
      obtain ⟨b, off, rfl, hbB, hc⟩ := (hx.below hb).rec_ nodeV_len Lx.out hxk
      obtain ⟨b', off', rfl, hbB', hc'⟩ := (hy.below hb).rec_ nodeV_len Ly.out hyk
      obtain ⟨x_name, x_room, x_zone⟩ := x
      obtain ⟨y_name, y_room, y_zone⟩ := y
      have c0 : wr.cell? ⟨b, off + k * 3, none⟩ = some (.string x_name) := hc 0 _ rfl
      have d0 : wr.cell? ⟨b', off' + k * 3, none⟩ = some (.string y_name) := hc' 0 _ rfl
      have c1 : wr.cell? ⟨b, off + k * 3 + 1, none⟩ = some (.int .i64 x_room) := hc 1 _ rfl
      have d1 : wr.cell? ⟨b', off' + k * 3 + 1, none⟩ = some (.int .i64 y_room) := hc' 1 _ rfl
      have c2 : wr.cell? ⟨b, off + k * 3 + 2, none⟩ = some (.string x_zone) := hc 2 _ rfl
      have d2 : wr.cell? ⟨b', off' + k * 3 + 2, none⟩ = some (.string y_zone) := hc' 2 _ rfl
      have hsz := hb.size
      have hlt1 : b < wr.heap.size := by omega
      have hlt2 : b' < wr.heap.size := by omega
      have Hb := hid hb
      have Hxk := hid hxk
      have Hyk := hid hyk
      have fin := hid Hb.out.drew
      have step := hid (fun (h : (⟨x_name, x_room, x_zone⟩ : NodeD) = ⟨y_name, y_room, y_zone⟩) => take_eq_stepE (hxk.trans (congrArg some h)) hyk He.out)
      have stop := hid (fun (h : (⟨x_name, x_room, x_zone⟩ : NodeD) ≠ ⟨y_name, y_room, y_zone⟩) => ne_of_atE hxk hyk h)
      clear hc hc' hx hy hxk hyk hb
      obtain ⟨t, ht, hrun, -⟩ := neqv_node x_name y_name x_zone y_zone x_room y_room
      have HT := hid ht
      cases t
      · have stop2 := hid (stop.out (fun h => absurd (HT.out.2 h) (by decide)))
        have hrun' : ∀ W, (binOp .neq 40 (.agg #[.string x_name, .int .i64 x_room, .string x_zone]) (.agg #[.string y_name, .int .i64 y_room, .string y_zone])).run Tryz.prog W = .ok (.bool true) W := hrun
        clear ht hrun step
        go_wp2
        go_region
        go_wp2
        go_ret
        exact ⟨false, rfl, ⟨fun h => (by cases h), fun h => absurd h stop2.out⟩, fin.out⟩
      · have step2 := hid (step.out (HT.out.1 rfl))
        have hrun' : ∀ W, (binOp .neq 40 (.agg #[.string x_name, .int .i64 x_room, .string x_zone]) (.agg #[.string y_name, .int .i64 y_room, .string y_zone])).run Tryz.prog W = .ok (.bool false) W := hrun
        clear ht hrun stop
        go_wp2
        go_region
        go_wp2
        go_roundw
        case rel => exact ⟨k + 1, by omega, by go_num, step2.out, fin.out⟩
        case measure => simp [intOf]; omega
    · have fin := hid hb
      have same := hid (show xs = ys by
       have e := He.out
       rwa [List.take_of_length_le (by rw [Lx.out]; omega), List.take_of_length_le (by rw [Ly.out]; omega)] at e)
      clear hb hx hy
      go_wp2
      go_ret
      exact ⟨true, rfl, ⟨fun _ => same.out, fun _ => rfl⟩, fin.out⟩
 · have h0 : ((n : Int) != m) = true := by simp; omega
   have fin := hid (show xs ≠ ys by rintro rfl; omega)
   clear lx ly hx hy
   go_enter Tryz.func118, Tryz.ntmps118
   go_wp2
   go_ret
   exact ⟨false, rfl, ⟨fun h => (by cases h), fun h => absurd h fin.out⟩, Below.refl _ _⟩
end Go.Proofs.YtjgnnobccecpeaaGreatDoor
/- serve.same: do two states hold the same rows? -/
namespace Go.Proofs.YtjgnnobccecpeaaGreatDoor
open Go.Lib (hid)
open Go.RowKit
def SSamePost (a b : StateD) (w : World) (e : Ending) (w' : World) : Prop :=
 ∃ t : Bool, e = .returned (.bool t) ∧ (t = true ↔ a.jobs = b.jobs ∧ a.nodes = b.nodes ∧ a.leases = b.leases) ∧ Below w.heap.size w w'
structure SSameAt (w : World) (a b : StateD) (x y : StA) (wx : World) : Prop where
 below : Below w.heap.size w wx
 b1 : Blk wx w.heap.size 26 (stC a x)
 b2 : Blk wx (w.heap.size + 1) 26 (stC b y)
theorem SSameAt.next {w w' wx : World} {a b : StateD} {x y : StA} (h : SSameAt w a b x y wx) (hb : Below wx.heap.size wx w') : SSameAt w a b x y w' :=
 ⟨h.below.trans (hb.mono h.below.size), h.b1.below hb h.b1.lt, h.b2.below hb h.b2.lt⟩
theorem sl_up {w wx : World} {sz n : Nat} {A : Option Addr} {xs : List Value} (h : SlAt w w.heap.size sz A n xs) (hb : Below w.heap.size w wx) : SlAt wx wx.heap.size sz A n xs := (h.below hb).more hb.size
theorem ssame_any (a b : StateD) (x y : StA) (w : World) (hA : StAt w w.heap.size a x) (hB : StAt w w.heap.size b y) :
 Calls Tryz.prog 37 #[.agg (stC a x), .agg (stC b y)] w (SSamePost a b w) := by
 obtain ⟨W, hW⟩ : ∃ W, (w.alloc (.cells (stC a x) 26)).alloc (.cells (stC b y) 26) = W := ⟨_, rfl⟩
 have H0 := hid (show SSameAt w a b x y W from by
  rw [← hW]
  refine ⟨((Below.refl _ _).alloc (Nat.le_refl _) _).alloc (by simp) _, Blk.alloc (show Blk _ _ _ _ from heap_alloc_new w _) _, ?_⟩
  have := heap_alloc_new (w.alloc (.cells (stC a x) 26)) (.cells (stC b y) 26)
  rwa [show (w.alloc (.cells (stC a x) 26)).heap.size = w.heap.size + 1 by simp] at this)
 have HA := hid hA
 have HB := hid hB
 clear hA hB
 have x1 : W.cell? ⟨w.heap.size, 1, none⟩ = some (.slice x.aj x.nj x.cj) := H0.out.b1.cell 1
 have y1 : W.cell? ⟨w.heap.size + 1, 1, none⟩ = some (.slice y.aj y.nj y.cj) := H0.out.b2.cell 1
 have HJ := hid (sleq_job a.jobs b.jobs x.aj y.aj x.nj y.nj x.cj y.cj W (sl_up HA.out.j H0.out.below) (sl_up HB.out.j H0.out.below) HA.out.lj HB.out.lj HA.out.bj HB.out.bj)
 unfold stC at hW ⊢
 go_enter Tryz.func37, Tryz.ntmps37
 go_wp2_with fail
 try rw [hW]
 clear hW
 refine Calls.mono HJ.out ?_
 rintro e w1 ⟨t1, rfl, ht1, hb1⟩
 have H1 := hid (H0.out.next hb1)
 have Ht1 := hid ht1
 clear hb1 ht1 HJ x1 y1 H0
 cases t1
 · have fin := hid (show SSamePost a b w (.returned (.bool false)) w1 from ⟨false, rfl, ⟨fun h => (by cases h), fun h => absurd (Ht1.out.2 h.1) (by decide)⟩, H1.out.below⟩)
   go_wp2
   go_ret
   exact fin.out
 have x2 : w1.cell? ⟨w.heap.size, 2, none⟩ = some (.slice x.an x.nn x.cn) := H1.out.b1.cell 2
 have y2 : w1.cell? ⟨w.heap.size + 1, 2, none⟩ = some (.slice y.an y.nn y.cn) := H1.out.b2.cell 2
 have HN := hid (sleq_node a.nodes b.nodes x.an y.an x.nn y.nn x.cn y.cn w1 (sl_up HA.out.n H1.out.below) (sl_up HB.out.n H1.out.below) HA.out.ln HB.out.ln HA.out.bn HB.out.bn)
 go_wp2_with fail
 refine Calls.mono HN.out ?_
 rintro e w2 ⟨t2, rfl, ht2, hb2⟩
 have H2 := hid (H1.out.next hb2)
 have Ht2 := hid ht2
 clear hb2 ht2 HN x2 y2 H1
 cases t2
 · have fin := hid (show SSamePost a b w (.returned (.bool false)) w2 from ⟨false, rfl, ⟨fun h => (by cases h), fun h => absurd (Ht2.out.2 h.2.1) (by decide)⟩, H2.out.below⟩)
   go_wp2
   go_ret
   exact fin.out
 have x3 : w2.cell? ⟨w.heap.size, 3, none⟩ = some (.slice x.al x.nl x.cl) := H2.out.b1.cell 3
 have y3 : w2.cell? ⟨w.heap.size + 1, 3, none⟩ = some (.slice y.al y.nl y.cl) := H2.out.b2.cell 3
 have HL := hid (sleq_lease a.leases b.leases x.al y.al x.nl y.nl x.cl y.cl w2 (sl_up HA.out.l H2.out.below) (sl_up HB.out.l H2.out.below) HA.out.ll HB.out.ll HA.out.bl HB.out.bl)
 go_wp2_with fail
 refine Calls.mono HL.out ?_
 rintro e w3 ⟨t3, rfl, ht3, hb3⟩
 have H3 := hid (H2.out.next hb3)
 have Ht3 := hid ht3
 clear hb3 ht3 HL x3 y3 H2
 have fin := hid (show SSamePost a b w (.returned (.bool t3)) w3 from ⟨t3, rfl, ⟨fun h => ⟨Ht1.out.1 (by trivial), Ht2.out.1 (by trivial), Ht3.out.1 h⟩, fun h => Ht3.out.2 h.2.2⟩, H3.out.below⟩)
 cases t3
 · go_wp2
   go_ret
   exact fin.out
 · go_wp2
   go_ret
   exact fin.out
end Go.Proofs.YtjgnnobccecpeaaGreatDoor
/- What every law's frame uses: the program's fixed facts, and bounds out of well-formed integers. -/
namespace Go.Proofs.YtjgnnobccecpeaaGreatDoor
open Go.Lib (hid)
theorem own : ownKnob Tryz.prog.godebug = none := by kernel_rfl
theorem laidOut : laidOutB Tryz.prog = true := by kernel_rfl
theorem wf_bounds_i64 {n : Int} (h : (Lit.int .i64 n).wf = true) : -9223372036854775808 ≤ n ∧ n ≤ 9223372036854775807 := by
 simp only [Lit.wf, IntKind.min, IntKind.max, IntKind.signed, IntKind.bits, Bool.and_eq_true, decide_eq_true_eq, if_true] at h
 omega
end Go.Proofs.YtjgnnobccecpeaaGreatDoor
