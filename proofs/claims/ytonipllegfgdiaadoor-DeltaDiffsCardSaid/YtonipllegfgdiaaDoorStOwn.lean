/- Worlds of whose old blocks only two have turned; the rows of a state in blocks of the call's own. -/
import Derived.Test.YtonipllegfgdiaaDoorTake
import Derived.Test.YtonipllegfgdiaaDoorStAt
set_option linter.unusedVariables false
set_option linter.unusedSimpArgs false
namespace Go.Proofs.YtonipllegfgdiaaDoor
open Go.RowKit
/-- Of the old blocks only two may have turned. -/
structure Two (w w' : World) (a b : Nat) : Prop where
  os : w'.os = w.os
  tape : w'.tape = w.tape
  output : w'.output = w.output
  size : w.heap.size ≤ w'.heap.size
  block : ∀ k, k < w.heap.size → k ≠ a → k ≠ b → w'.heap[k]? = w.heap[k]?
theorem Two.refl (w : World) (a b : Nat) : Two w w a b := ⟨rfl, rfl, rfl, Nat.le_refl _, fun _ _ _ _ => rfl⟩
theorem Two.fst {w u v : World} {a b : Nat} (h : Two w u a b) (hg : u.grownBy v (some a)) : Two w v a b :=
  ⟨hg.os.trans h.os, hg.tape.trans h.tape, hg.output.trans h.output, Nat.le_trans h.size hg.size, fun k hk h1 h2 => (hg.block k (Nat.lt_of_lt_of_le hk h.size) (by simp; exact h1)).trans (h.block k hk h1 h2)⟩
theorem Two.snd {w u v : World} {a b : Nat} (h : Two w u a b) (hg : u.grownBy v (some b)) : Two w v a b :=
  ⟨hg.os.trans h.os, hg.tape.trans h.tape, hg.output.trans h.output, Nat.le_trans h.size hg.size, fun k hk h1 h2 => (hg.block k (Nat.lt_of_lt_of_le hk h.size) (by simp; exact h2)).trans (h.block k hk h1 h2)⟩
theorem Two.blk {w u : World} {a b k : Nat} {t : TypeId} {cs : Array Value} (h : Two w u a b) (hk : Blk w k t cs) (h1 : k ≠ a) (h2 : k ≠ b) : Blk u k t cs := (h.block k hk.lt h1 h2).trans hk
theorem Two.below {w0 w u : World} {a b : Nat} (h : Two w u a b) (hb : Below w0.heap.size w0 w) (h1 : w0.heap.size ≤ a) (h2 : w0.heap.size ≤ b) : Below w0.heap.size w0 u :=
  ⟨h.os.trans hb.os, h.tape.trans hb.tape, h.output.trans hb.output, Nat.le_trans hb.size h.size, fun k hk => (h.block k (Nat.lt_of_lt_of_le hk hb.size) (by omega) (by omega)).trans (hb.block k hk)⟩
/-- The rows of a state lie in blocks of the call's own. -/
structure StOwn (w : World) (base : Nat) (st : StateD) (x : StA) : Prop where
  j : w.ownsRow base 74 5 (.slice x.aj x.nj x.cj) x.nj (rowsV jobV st.jobs)
  n : w.ownsRow base 60 3 (.slice x.an x.nn x.cn) x.nn (rowsV nodeV st.nodes)
  l : w.ownsRow base 71 3 (.slice x.al x.nl x.cl) x.nl (rowsV leaseV st.leases)
  lj : st.jobs.length = x.nj
  ln : st.nodes.length = x.nn
  ll : st.leases.length = x.nl
theorem StOwn.grow {w w' : World} {base g : Nat} {st : StateD} {x : StA} (h : StOwn w base st x) (hg : w.grownBy w' (some g)) (hb : g < base) : StOwn w' base st x :=
  ⟨ownT_grow h.j hg hb, ownT_grow h.n hg hb, ownT_grow h.l hg hb, h.lj, h.ln, h.ll⟩
theorem StOwn.at_ {w : World} {base : Nat} {st : StateD} {x : StA} (h : StOwn w base st x) (bj : x.nj ≤ 40) (bn : x.nn ≤ 20) (bl : x.nl ≤ 40) (oj : JobsOk st.jobs) (on_ : NodesOk st.nodes) (ol : LeasesOk st.leases) : StAt w w.heap.size st x :=
  ⟨own_slAt h.j, own_slAt h.n, own_slAt h.l, h.lj, h.ln, h.ll, by omega, by omega, by omega, oj, on_, ol⟩
theorem ownT_base {w : World} {base b n sz : Nat} {e : TypeId} {v : Value} {xs : List Value} (ho : w.ownsRow base e sz v n xs) (hb : b ≤ base) : w.ownsRow b e sz v n xs := by
  rcases ho with ⟨h1, h | ⟨q, cap, cur, hv, hq, hgq, r⟩⟩
  · exact ⟨h1, .inl h⟩
  · exact ⟨h1, .inr ⟨q, cap, cur, hv, Nat.le_trans hb hq, hgq, r⟩⟩
theorem grow_keep {w0 w w' : World} {b : Nat} (h : Below w0.heap.size w0 w) (hg : w.grownBy w' (some b)) (hb : w0.heap.size ≤ b) : Below w0.heap.size w0 w' :=
  ⟨hg.os.trans h.os, hg.tape.trans h.tape, hg.output.trans h.output, Nat.le_trans h.size hg.size, fun k hk => (hg.block k (Nat.lt_of_lt_of_le hk h.size) (by simp; omega)).trans (h.block k hk)⟩
end Go.Proofs.YtonipllegfgdiaaDoor
