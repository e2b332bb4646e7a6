/- Of the proof of a statement: EqFrm, StOwn, StTop, RdAll, HasFL, PlDiff, Frm. -/
import Derived.Deep.QuietTactic
import Derived.BigQuiet
import Derived.Recover
import Derived.Laws.Pointers
import Derived.Test.YtjgnnobccecpeaaGreatDoorRows
import Derived.WalkKit
import Derived.ProofKit
import Derived.OpenShut
import Derived.ShutString
import Derived.ChangeOld
import Derived.Below
import Derived.Lib.SmallJoins
import Derived.Test.YtjgnnobccecpeaaGreatDoorREqRows
import Derived.Test.YtjgnnobccecpeaaGreatDoorRPlDDec
import Derived.Test.YtjgnnobccecpeaaGreatDoorRStChk
import Derived.Test.YtjgnnobccecpeaaGreatDoorRStChkS
import Derived.Test.YtjgnnobccecpeaaGreatDoorRTake
set_option linter.unusedVariables false
set_option linter.unusedSimpArgs false
set_option maxRecDepth 100000
set_option maxHeartbeats 8000000
/- Eq at Frame, of the same frames. -/
namespace Go.Proofs.YtjgnnobccecpeaaGreatDoor
open Go.Lib (hid)
open Go.RowKit
def frmC (f : FrameM) : List Value := [.int .i64 f.ver, .int .i64 f.kind, .string f.pay]
theorem frmC_len (f : FrameM) : (frmC f).length = 3 := rfl
end Go.Proofs.YtjgnnobccecpeaaGreatDoor
/- Worlds of whose old blocks only two have turned; the rows of a state in blocks of the call's own. -/
namespace Go.Proofs.YtjgnnobccecpeaaGreatDoor
open Go.Lib (hid)
open Go.RowKit
structure Two (w w' : World) (a b : Nat) : Prop where
 os : w'.os = w.os
 tape : w'.tape = w.tape
 output : w'.output = w.output
 size : w.heap.size ≤ w'.heap.size
 block : ∀ k, k < w.heap.size → k ≠ a → k ≠ b → w'.heap[k]? = w.heap[k]?
theorem Two.refl (w : World) (a b : Nat) : Two w w a b := ⟨rfl, rfl, rfl, Nat.le_refl _, fun _ _ _ _ => rfl⟩
theorem Two.fst {w u v : World} {a b : Nat} (h : Two w u a b) (hg : u.grownBy v (some a)) : Two w v a b :=
 ⟨hg.os.trans h.os, hg.tape.trans h.tape, hg.output.trans h.output, Nat.le_trans h.size hg.size, fun k hk h1 h2 => (hg.block k (Nat.lt_of_lt_of_le hk h.size) (by simp; exact h1)).trans (h.block k hk h1 h2)⟩
theorem Two.snd {w u v : World} {a b : Nat} (h : Two w u a b) (hg : u.grownBy v (some b)) : Two w v a b :=
 ⟨hg.os.trans h.os, hg.tape.trans h.tape, hg.output.trans h.output, Nat.le_trans h.size hg.size, fun k hk h1 h2 => (hg.block k (Nat.lt_of_lt_of_le hk h.size) (by simp; exact h2)).trans (h.block k hk h1 h2)⟩
theorem Two.blk {w u : World} {a b k : Nat} {t : TypeId} {cs : Array Value} (h : Two w u a b) (hk : Blk w k t cs) (h1 : k ≠ a) (h2 : k ≠ b) : Blk u k t cs := (h.block k hk.lt h1 h2).trans hk
theorem Two.below {w0 w u : World} {a b : Nat} (h : Two w u a b) (hb : Below w0.heap.size w0 w) (h1 : w0.heap.size ≤ a) (h2 : w0.heap.size ≤ b) : Below w0.heap.size w0 u :=
 ⟨h.os.trans hb.os, h.tape.trans hb.tape, h.output.trans hb.output, Nat.le_trans hb.size h.size, fun k hk => (h.block k (Nat.lt_of_lt_of_le hk hb.size) (by omega) (by omega)).trans (hb.block k hk)⟩
structure StOwn (w : World) (base : Nat) (st : StateD) (x : StA) : Prop where
 j : w.ownsRow base 38 5 (.slice x.aj x.nj x.cj) x.nj (rowsV jobV st.jobs)
 n : w.ownsRow base 40 3 (.slice x.an x.nn x.cn) x.nn (rowsV nodeV st.nodes)
 l : w.ownsRow base 42 3 (.slice x.al x.nl x.cl) x.nl (rowsV leaseV st.leases)
 lj : st.jobs.length = x.nj
 ln : st.nodes.length = x.nn
 ll : st.leases.length = x.nl
theorem StOwn.grow {w w' : World} {base g : Nat} {st : StateD} {x : StA} (h : StOwn w base st x) (hg : w.grownBy w' (some g)) (hb : g < base) : StOwn w' base st x :=
 ⟨ownT_grow h.j hg hb, ownT_grow h.n hg hb, ownT_grow h.l hg hb, h.lj, h.ln, h.ll⟩
theorem StOwn.at_ {w : World} {base : Nat} {st : StateD} {x : StA} (h : StOwn w base st x) (bj : x.nj ≤ 40) (bn : x.nn ≤ 20) (bl : x.nl ≤ 40) (oj : JobsOk st.jobs) (on_ : NodesOk st.nodes) (ol : LeasesOk st.leases) : StAt w w.heap.size st x :=
 ⟨own_slAt h.j, own_slAt h.n, own_slAt h.l, h.lj, h.ln, h.ll, by omega, by omega, by omega, oj, on_, ol⟩
theorem ownT_base {w : World} {base b n sz : Nat} {e : TypeId} {v : Value} {xs : List Value} (ho : w.ownsRow base e sz v n xs) (hb : b ≤ base) : w.ownsRow b e sz v n xs := by
 rcases ho with ⟨h1, h | ⟨q, cap, cur, hv, hq, hgq, r⟩⟩
 · exact ⟨h1, .inl h⟩
 · exact ⟨h1, .inr ⟨q, cap, cur, hv, Nat.le_trans hb hq, hgq, r⟩⟩
theorem grow_keep {w0 w w' : World} {b : Nat} (h : Below w0.heap.size w0 w) (hg : w.grownBy w' (some b)) (hb : w0.heap.size ≤ b) : Below w0.heap.size w0 w' :=
 ⟨hg.os.trans h.os, hg.tape.trans h.tape, hg.output.trans h.output, Nat.le_trans h.size hg.size, fun k hk => (hg.block k (Nat.lt_of_lt_of_le hk h.size) (by simp; omega)).trans (h.block k hk)⟩
end Go.Proofs.YtjgnnobccecpeaaGreatDoor
/- The walks of state.Check and of the law's bad state. -/
namespace Go.Proofs.YtjgnnobccecpeaaGreatDoor
open Go.Lib (hid)
open Go.RowKit
theorem scheck_any (st : StateD) (x : StA) (w : World) (hS : StAt w w.heap.size st x) (hT : Tabs w) :
 Calls Tryz.prog 27 #[.agg (stC st x)] w fun e w' => e = .returned (.int .i64 (checkE st)) ∧ Below w.heap.size w w' := by
 have hb1 : Below w.heap.size w (w.alloc (.cells (stC st x) 26)) := (Below.refl _ _).alloc (Nat.le_refl _) _
 have hC := hid (check_any st x _ ((hS.below hb1).more hb1.size) (hT.below hb1))
 have Hb1 := hid hb1
 clear hb1 hS hT
 obtain ⟨E, hE⟩ : ∃ E, checkE st = E := ⟨_, rfl⟩
 rw [hE]
 have HE := hid hE
 clear hE
 obtain ⟨rev, jobs, nodes, leases⟩ := st
 obtain ⟨aj, nj, cj, an, nn, cn, al, nl, cl⟩ := x
 simp only [stC] at *
 go_enter Tryz.func27, Tryz.ntmps27
 go_wp2_with fail
 refine Calls.mono hC.out ?_
 rintro e w1 ⟨hb, hcase⟩
 have Hb := hid (Hb1.out.trans (hb.mono Hb1.out.size))
 clear hb hC
 rw [HE.out] at hcase
 clear HE
 rcases hcase with ⟨hE, rfl⟩ | ⟨rfl, T, b1, b2, b3, n1, n2, n3, g3, rfl, -, -⟩
 · go_wp2
   refine bodyPost_ret (v := .int .i64 E) (by simp [results, Tryz.results27, go_sem]) rfl ⟨rfl, Hb.out⟩
 · go_wp2
   refine bodyPost_ret (v := .int .i64 0) (by simp [results, Tryz.results27, go_sem]) rfl ⟨rfl, Hb.out⟩
end Go.Proofs.YtjgnnobccecpeaaGreatDoor
/- The walk of the reference's read: what a closure reads of a source, the panics caught. -/
namespace Go.Proofs.YtjgnnobccecpeaaGreatDoor
open Go.Lib (hid)
open Go.RowKit
theorem assert_taken (W : World) (y : Int) : (Instr.typeAssert (.iface 227 (.agg #[.int .i64 y])) 20 227 true).run Tryz.prog W = .ok (.tuple #[.agg #[.int .i64 y], .bool true]) W := by kernel_rfl
theorem catch_thrown (E : Nat) (n : Int) (y : Nat) (w : World) (hE : Blk w E 29 #[.int .i64 n]) :
 CallsD Tryz.prog 166 #[.pointer (some ⟨E, 0, none⟩)] (.panicking [{ v := .iface 227 (.agg #[.int .i64 (y : Int)]), recovered := false }]) w fun e u' w' =>
  e = .returned (.tuple #[]) ∧ u' = .panicking [{ v := .iface 227 (.agg #[.int .i64 (y : Int)]), recovered := true }] ∧ w.grownBy w' (some E) ∧ Blk w' E 29 #[.int .i64 (y : Int)] := by
 have hc : w.cell? ⟨E, 0, none⟩ = some (.int .i64 n) := hE.cell 0
 have hz : w.frozen? ⟨E, 0, none⟩ = false := hE.thaw 0
 have hl := hE.lt
 have HE := hid hE
 have hta := assert_taken
 clear hE
 refine callsD_of_wpS Tryz.func166 rfl fun c₀ cs hu => ?_
 rw [show (#[Value.pointer (some ⟨E, 0, none⟩)] ++ Array.replicate (Tryz.f166.ntmps - (#[Value.pointer (some ⟨E, 0, none⟩)] : Array Value).size) undef) = #[.pointer (some ⟨E, 0, none⟩), undef, undef, undef, undef, undef, undef, undef, undef, undef, undef, undef, undef, undef, undef, undef, undef] from by rw [Tryz.ntmps166]; rfl]
 apply wpS_seq
 apply wpS_region
 simp [wpOpsS, go_sem, recoverD, hu, Tryz.ntmps166, Exit.thenS]
 refine wpS_of_wp ?_
 have HW := hid (show w.grownBy ((w.setCell ⟨E, 0, none⟩ (.int .i64 (y : Int))).alloc (.cells #[.int .i64 (y : Int)] 227)) (some E) ∧ Blk ((w.setCell ⟨E, 0, none⟩ (.int .i64 (y : Int))).alloc (.cells #[.int .i64 (y : Int)] 227)) E 29 #[.int .i64 (y : Int)] from
  ⟨bes_below (grow_set w E 0 _) ((Below.refl _ _).alloc (Nat.le_refl _) _), (Blk.eq (HE.out.set 0 _) rfl).alloc _⟩)
 go_wp2
 exact ⟨rfl, _, rfl, _, by simp [results, Tryz.results166, go_sem], rfl, rfl, HW.out⟩
theorem catch_none (E : Nat) (w : World) :
 CallsD Tryz.prog 166 #[.pointer (some ⟨E, 0, none⟩)] .returning w fun e u' w' => e = .returned (.tuple #[]) ∧ u' = .returning ∧ w' = w := by
 refine callsD_of_wpS Tryz.func166 rfl fun c₀ cs hu => ?_
 rw [show (#[Value.pointer (some ⟨E, 0, none⟩)] ++ Array.replicate (Tryz.f166.ntmps - (#[Value.pointer (some ⟨E, 0, none⟩)] : Array Value).size) undef) = #[.pointer (some ⟨E, 0, none⟩), undef, undef, undef, undef, undef, undef, undef, undef, undef, undef, undef, undef, undef, undef, undef, undef] from by rw [Tryz.ntmps166]; rfl]
 apply wpS_seq
 apply wpS_region
 simp [wpOpsS, go_sem, recoverD, hu, Tryz.ntmps166, Exit.thenS]
 refine wpS_of_wp ?_
 go_wp2
 exact ⟨rfl, .returning, by cases c₀; simp_all, _, by simp [results, Tryz.results166, go_sem], rfl, rfl, rfl⟩
def AllPost (R : RR Unit) (Kept : World → Prop) (e : Ending) (w' : World) : Prop := e = .returned (.int .i64 (endE R : Int)) ∧ Kept w'
theorem readAll (F : FuncId) (caps : Array Value) (b : ByteArray) (w : World) (hs : b.size ≤ 9223372036854775807) (hent : ∀ args w, (callFunc F args).run Tryz.prog w = .ok (.enter F args) w) (R : RR Unit) (Kept : World → Prop)
 (hK : ∀ W v, Kept W → Kept (W.setCell ⟨w.heap.size, 0, none⟩ v)) (hK2 : ∀ W W', Kept W → w.heap.size < W.heap.size → W.grownBy W' (some w.heap.size) → Kept W')
 (hf : ∀ W, Below w.heap.size w W → W.heap.size = w.heap.size + 2 → SxAt W (w.heap.size + 1) b → Calls Tryz.prog F (#[.pointer (some ⟨w.heap.size + 1, 0, none⟩)] ++ caps) W fun e W' =>
  (match R with | .ok _ s => e = .returned (.tuple #[]) ∧ SxAt W' (w.heap.size + 1) s | .bad x => e = thrown x) ∧ W'.heap[w.heap.size]? = W.heap[w.heap.size]? ∧ Kept W') :
 Calls Tryz.prog 85 #[.string b, .func (.func F) #[] caps] w (AllPost R Kept) := by
 have hmf : ∀ (fn : Fn) (first cap : Array Value) (w : World), (Instr.makeFunc fn first cap).run Tryz.prog w = .ok (.func fn first cap) w := fun _ _ _ _ => rfl
 have hb1 : Below w.heap.size w (w.alloc (.cells #[.int .i64 0] 29)) := (Below.refl _ _).alloc (Nat.le_refl _) _
 have hb2 := hb1.alloc hb1.size (.cells #[.string b] 230)
 have HB := hid (show Blk ((w.alloc (.cells #[.int .i64 0] 29)).alloc (.cells #[.string b] 230)) w.heap.size 29 #[.int .i64 0] from Blk.alloc (show Blk _ _ _ _ from heap_alloc_new w _) _)
 have h2 : ((w.alloc (.cells #[.int .i64 0] 29)).alloc (.cells #[.string b] 230)).heap.size = w.heap.size + 2 := by simp
 have HC := hid (hf _ hb2 h2 ⟨by
  have h := heap_alloc_new (w.alloc (.cells #[.int .i64 0] 29)) (.cells #[.string b] 230)
  rw [show (w.alloc (.cells #[.int .i64 0] 29)).heap.size = w.heap.size + 1 by simp] at h
  exact h, hs⟩)
 have HK2 := hid hK2
 have HK := hid hK
 have Hent := hent
 clear hf hb1 hb2 h2 hK hK2
 go_enter_defers Tryz.func85, Tryz.ntmps85
 go_wp2_with fail
 refine Calls.mono HC.out ?_
 rintro e w1 ⟨hp, hk, hkept⟩
 have hE : Blk w1 w.heap.size 29 #[.int .i64 0] := hk.trans HB.out
 have Hkept := hid hkept
 have x0 : w1.cell? ⟨w.heap.size, 0, none⟩ = some (.int .i64 0) := hE.cell 0
 have z0 : w1.frozen? ⟨w.heap.size, 0, none⟩ = false := hE.thaw 0
 have hEl := hE.lt
 have HE := hid hE
 clear hk hkept HC hE
 cases R with
 | bad x =>
  have hp : e = thrown x := hp
  subst hp
  unfold thrown
  go_wp2
  refine leaves_cons (f := 166) (args := #[.pointer (some ⟨w.heap.size, 0, none⟩)]) (by simp) (by simp [go_sem]) ?_
  refine (catch_thrown w.heap.size 0 x w1 HE.out).mono ?_
  rintro e u' w2 ⟨rfl, rfl, hg, hB⟩
  have hc := hB.cell 0
  have hfin : AllPost (.bad x) Kept (.returned (.int .i64 (x : Int))) w2 := ⟨rfl, HK2.out _ _ Hkept.out HE.out.lt hg⟩
  have hc' : w2.cell? ⟨w.heap.size, 0, none⟩ = some (.int .i64 (x : Int)) := hc
  simp [Leaves, settle, results, Tryz.results85, go_sem, hc', hfin]
 | ok u s =>
  obtain ⟨rfl, hs1⟩ : e = .returned (.tuple #[]) ∧ SxAt w1 (w.heap.size + 1) s := hp
  have y0 : w1.cell? ⟨w.heap.size + 1, 0, none⟩ = some (.string s) := hs1.1.cell 0
  have hlt := hs1.1.lt
  clear hs1
  by_cases hz : s.size = 0
  · obtain rfl := empty_of hz
    have hq := (show _ = (some (.int .i64 0) : Option Value) from (HE.out.set 0 (.int .i64 0)).cell 0)
    have hfin : AllPost (.ok u ⟨#[]⟩) Kept (.returned (.int .i64 0)) (w1.setCell ⟨w.heap.size, 0, none⟩ (.int .i64 0)) := ⟨rfl, HK.out _ _ Hkept.out⟩
    have Hfin := hid hfin
    clear hfin
    go_wp2
    refine leaves_cons (f := 166) (args := #[.pointer (some ⟨w.heap.size, 0, none⟩)]) (by simp) (by simp [go_sem]) ?_
    refine (catch_none w.heap.size _).mono ?_
    rintro e u' w2 ⟨rfl, rfl, rfl⟩
    simp [Leaves, settle, results, Tryz.results85, go_sem, hq, Hfin.out]
  · have e3 := isEmpty_no hz
    have hq := (show _ = (some (.int .i64 4) : Option Value) from (HE.out.set 0 (.int .i64 4)).cell 0)
    have hfin : AllPost (.ok u s) Kept (.returned (.int .i64 4)) (w1.setCell ⟨w.heap.size, 0, none⟩ (.int .i64 4)) := ⟨by rw [endE_ok4 hz]; rfl, HK.out _ _ Hkept.out⟩
    have Hfin := hid hfin
    clear hfin
    go_wp2
    refine leaves_cons (f := 166) (args := #[.pointer (some ⟨w.heap.size, 0, none⟩)]) (by simp) (by simp [go_sem]) ?_
    refine (catch_none w.heap.size _).mono ?_
    rintro e u' w2 ⟨rfl, rfl, rfl⟩
    simp [Leaves, settle, results, Tryz.results85, go_sem, hq, Hfin.out]
end Go.Proofs.YtjgnnobccecpeaaGreatDoor
/- The walks of slices.IndexFunc and ContainsFunc at rows of records, for any function value that answers a predicate. -/
namespace Go.Proofs.YtjgnnobccecpeaaGreatDoor
open Go.Lib (hid)
open Go.RowKit
def Answers {α : Type} (p : α → Bool) (F : FuncId) (caps : Array Value) (enc : α → List Value) (xs : List α) (w : World) : Prop :=
 ∀ W, Below w.heap.size w W → ∀ x ∈ xs, Calls Tryz.prog F (#[.agg (enc x).toArray] ++ caps) W fun e W' => e = .returned (.bool (p x)) ∧ Below W.heap.size W W'
theorem any_hit {α : Type} {p : α → Bool} {xs : List α} {k : Nat} {x : α} (h : xs[k]? = some x) (hp : p x = true) : xs.any p = true := List.any_eq_true.2 ⟨x, List.mem_of_getElem? h, hp⟩
theorem any_miss {α : Type} {p : α → Bool} {xs : List α} {k : Nat} {x : α} (h : xs[k]? = some x) (ht : (xs.take k).any p = false) (hp : p x = false) : (xs.take (k + 1)).any p = false := by
 rw [List.take_add_one, h, List.any_append, ht]; simp [hp]
theorem any_out {α : Type} {p : α → Bool} {xs : List α} {k : Nat} (ht : (xs.take k).any p = false) (hk : xs.length ≤ k) : xs.any p = false := by rwa [List.take_of_length_le hk] at ht
end Go.Proofs.YtjgnnobccecpeaaGreatDoor
/- What Diff of two states says: plain. -/
namespace Go.Proofs.YtjgnnobccecpeaaGreatDoor
open Go.Lib (hid)
section
variable {α : Type} {p : α → Bool} {l : List α} {k : Nat} {x : α}
theorem filter_yes (h : l[k]? = some x) (hp : p x = true) : (l.take (k + 1)).filter p = (l.take k).filter p ++ [x] := by
 rw [List.take_add_one, h, List.filter_append]; simp [hp]
theorem filter_no (h : l[k]? = some x) (hp : p x = false) : (l.take (k + 1)).filter p = (l.take k).filter p := by
 rw [List.take_add_one, h, List.filter_append]; simp [hp]
end
end Go.Proofs.YtjgnnobccecpeaaGreatDoor
/- What every law's frame uses: the program's fixed facts, and bounds out of well-formed integers. -/
namespace Go.Proofs.YtjgnnobccecpeaaGreatDoor
open Go.Lib (hid)
theorem own : ownKnob Tryz.prog.godebug = none := by kernel_rfl
theorem laidOut : laidOutB Tryz.prog = true := by kernel_rfl
end Go.Proofs.YtjgnnobccecpeaaGreatDoor
