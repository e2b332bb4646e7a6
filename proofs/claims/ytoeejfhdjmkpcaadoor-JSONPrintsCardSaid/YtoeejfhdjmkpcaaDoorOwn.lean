/- Worlds of whose old blocks only two have turned; the rows of a state in blocks of the call's own. A cell of a row of the call's own is set. Rows of the call's own: what becomes of them where something else turns. The walks of slices.Clone and of Copy at rows of records: a row of the call's own that reads the same. -/
import Derived.Test.YtoeejfhdjmkpcaaDoorTake
import Derived.Test.YtoeejfhdjmkpcaaDoorStAt
set_option linter.unusedVariables false
set_option linter.unusedSimpArgs false
namespace Go.Proofs.YtoeejfhdjmkpcaaDoor
open Go.RowKit
/-- Of the old blocks only two may have turned. -/
structure Two (w w' : World) (a b : Nat) : Prop where
  os : w'.os = w.os
  tape : w'.tape = w.tape
  output : w'.output = w.output
  size : w.heap.size ≤ w'.heap.size
  block : ∀ k, k < w.heap.size → k ≠ a → k ≠ b → w'.heap[k]? = w.heap[k]?
theorem Two.refl (w : World) (a b : Nat) : Two w w a b := ⟨rfl, rfl, rfl, Nat.le_refl _, fun _ _ _ _ => rfl⟩
theorem Two.fst {w u v : World} {a b : Nat} (h : Two w u a b) (hg : u.grownBy v (some a)) : Two w v a b :=
  ⟨hg.os.trans h.os, hg.tape.trans h.tape, hg.output.trans h.output, Nat.le_trans h.size hg.size, fun k hk h1 h2 => (hg.block k (Nat.lt_of_lt_of_le hk h.size) (by simp; exact h1)).trans (h.block k hk h1 h2)⟩
theorem Two.snd {w u v : World} {a b : Nat} (h : Two w u a b) (hg : u.grownBy v (some b)) : Two w v a b :=
  ⟨hg.os.trans h.os, hg.tape.trans h.tape, hg.output.trans h.output, Nat.le_trans h.size hg.size, fun k hk h1 h2 => (hg.block k (Nat.lt_of_lt_of_le hk h.size) (by simp; exact h2)).trans (h.block k hk h1 h2)⟩
theorem Two.blk {w u : World} {a b k : Nat} {t : TypeId} {cs : Array Value} (h : Two w u a b) (hk : Blk w k t cs) (h1 : k ≠ a) (h2 : k ≠ b) : Blk u k t cs := (h.block k hk.lt h1 h2).trans hk
theorem Two.below {w0 w u : World} {a b : Nat} (h : Two w u a b) (hb : Below w0.heap.size w0 w) (h1 : w0.heap.size ≤ a) (h2 : w0.heap.size ≤ b) : Below w0.heap.size w0 u :=
  ⟨h.os.trans hb.os, h.tape.trans hb.tape, h.output.trans hb.output, Nat.le_trans hb.size h.size, fun k hk => (h.block k (Nat.lt_of_lt_of_le hk hb.size) (by omega) (by omega)).trans (hb.block k hk)⟩
/-- The rows of a state lie in blocks of the call's own. -/
structure StOwn (w : World) (base : Nat) (st : StateD) (x : StA) : Prop where
  j : w.ownsRow base 36 5 (.slice x.aj x.nj x.cj) x.nj (rowsV jobV st.jobs)
  n : w.ownsRow base 40 3 (.slice x.an x.nn x.cn) x.nn (rowsV nodeV st.nodes)
  l : w.ownsRow base 42 3 (.slice x.al x.nl x.cl) x.nl (rowsV leaseV st.leases)
  lj : st.jobs.length = x.nj
  ln : st.nodes.length = x.nn
  ll : st.leases.length = x.nl
theorem StOwn.grow {w w' : World} {base g : Nat} {st : StateD} {x : StA} (h : StOwn w base st x) (hg : w.grownBy w' (some g)) (hb : g < base) : StOwn w' base st x :=
  ⟨ownT_grow h.j hg hb, ownT_grow h.n hg hb, ownT_grow h.l hg hb, h.lj, h.ln, h.ll⟩
theorem StOwn.at_ {w : World} {base : Nat} {st : StateD} {x : StA} (h : StOwn w base st x) (bj : x.nj ≤ 40) (bn : x.nn ≤ 20) (bl : x.nl ≤ 40) (oj : JobsOk st.jobs) (on_ : NodesOk st.nodes) (ol : LeasesOk st.leases) : StAt w w.heap.size st x :=
  ⟨own_slAt h.j, own_slAt h.n, own_slAt h.l, h.lj, h.ln, h.ll, by omega, by omega, by omega, oj, on_, ol⟩
theorem ownT_base {w : World} {base b n sz : Nat} {e : TypeId} {v : Value} {xs : List Value} (ho : w.ownsRow base e sz v n xs) (hb : b ≤ base) : w.ownsRow b e sz v n xs := by
  rcases ho with ⟨h1, h | ⟨q, cap, cur, hv, hq, hgq, r⟩⟩
  · exact ⟨h1, .inl h⟩
  · exact ⟨h1, .inr ⟨q, cap, cur, hv, Nat.le_trans hb hq, hgq, r⟩⟩
theorem grow_keep {w0 w w' : World} {b : Nat} (h : Below w0.heap.size w0 w) (hg : w.grownBy w' (some b)) (hb : w0.heap.size ≤ b) : Below w0.heap.size w0 w' :=
  ⟨hg.os.trans h.os, hg.tape.trans h.tape, hg.output.trans h.output, Nat.le_trans h.size hg.size, fun k hk => (hg.block k (Nat.lt_of_lt_of_le hk h.size) (by simp; omega)).trans (h.block k hk)⟩
end Go.Proofs.YtoeejfhdjmkpcaaDoor
namespace Go.Proofs.YtoeejfhdjmkpcaaDoor
open Go.RowKit
theorem ownT_set {w : World} {base sz n g c : Nat} {e : TypeId} {xs : List Value} (ho : w.ownsRow base e sz (.slice (some ⟨g, 0, none⟩) n c) n xs) (j : Nat) (hj : j < n * sz) (u : Value) :
    (w.setCell ⟨g, j, none⟩ u).ownsRow base e sz (.slice (some ⟨g, 0, none⟩) n c) n (xs.set j u) ∧ w.frozen? ⟨g, j, none⟩ = false ∧ g < w.heap.size ∧ base ≤ g := by
  obtain ⟨h1, h | ⟨q, cap, cur, hv, hq, hgq, h2, h3, h4, h5⟩⟩ := ho
  · cases h.1
  · injection hv with e1 e2 e3
    injection e1 with e1
    injection e1 with e1
    subst e1
    subst e3
    have hB : Blk w g e cur := hgq
    refine ⟨⟨by simpa using h1, .inr ⟨g, c, cur.setIfInBounds j u, rfl, hq, hB.set j u, h2, h3, by simpa using h4, ?_⟩⟩, hB.thaw j, hB.lt, hq⟩
    rw [Array.toList_setIfInBounds, List.take_set, h5]
theorem rowsV_set {α : Type} {enc : α → List Value} {sz : Nat} (h : ∀ a, (enc a).length = sz) : ∀ (l : List α) (i k : Nat) (a a' : α) (u : Value), l[i]? = some a → k < sz → (enc a).set k u = enc a' → (rowsV enc l).set (i * sz + k) u = rowsV enc (l.set i a')
  | [], i, k, a, a', u, hi, _, _ => by simp at hi
  | b :: l, 0, k, a, a', u, hi, hk, he => by
    simp only [List.getElem?_cons_zero, Option.some.injEq] at hi
    subst hi
    unfold rowsV
    rw [List.set_cons_zero, List.flatMap_cons, List.flatMap_cons, Nat.zero_mul, Nat.zero_add, List.set_append_left _ _ (by rw [h]; exact hk), he]
  | b :: l, i + 1, k, a, a', u, hi, hk, he => by
    have ih := rowsV_set h l i k a a' u (by simpa using hi) hk he
    unfold rowsV at ih ⊢
    rw [List.set_cons_succ, List.flatMap_cons, List.flatMap_cons, List.set_append_right _ _ (by rw [h, Nat.add_mul]; omega), h, show (i + 1) * sz + k - sz = i * sz + k from by rw [Nat.add_mul]; omega, ih]
end Go.Proofs.YtoeejfhdjmkpcaaDoor
namespace Go.Proofs.YtoeejfhdjmkpcaaDoor
open Go.RowKit
theorem ownU_below {w w' : World} {base n sz : Nat} {e : TypeId} {v : Value} {xs : List Value} (ho : w.ownsRow base e sz v n xs) (hb : Below w.heap.size w w') : w'.ownsRow base e sz v n xs := by
  rcases ho with ⟨h1, h | ⟨q, cap, cur, hv, hq, hgq, r⟩⟩
  · exact ⟨h1, .inl h⟩
  · have hlt : q < w.heap.size := (Array.getElem?_eq_some_iff.1 hgq).1
    exact ⟨h1, .inr ⟨q, cap, cur, hv, hq, (hb.block q hlt).trans hgq, r⟩⟩
/-- A cell of a row of the call's own is set: by the address as it stands. -/
theorem own_setAt {w : World} {base sz n b off c : Nat} {e : TypeId} {xs : List Value} (ho : w.ownsRow base e sz (.slice (some ⟨b, off, none⟩) n c) n xs) (j : Nat) (hj : j < n * sz) (u : Value) :
    (w.setCell ⟨b, off + j, none⟩ u).ownsRow base e sz (.slice (some ⟨b, off, none⟩) n c) n (xs.set j u) ∧ w.frozen? ⟨b, off + j, none⟩ = false ∧ b < w.heap.size ∧ base ≤ b ∧ ∃ cs, w.heap[b]? = some (.cells cs e (0, 0)) := by
  have h0 : off = 0 := by
    rcases ho.2 with ⟨h, _⟩ | ⟨q, cap, cur, hv, _⟩
    · cases h
    · injection hv with e1 e2 e3
      injection e1 with e1
      injection e1
  subst h0
  obtain ⟨h1, h2, h3, h4⟩ := ownT_set ho j hj u
  refine ⟨by rw [Nat.zero_add]; exact h1, by rw [Nat.zero_add]; exact h2, h3, h4, ?_⟩
  rcases ho.2 with ⟨h, _⟩ | ⟨q, cap, cur, hv, _, hg, _⟩
  · cases h
  · injection hv with e1 e2 e3
    injection e1 with e1
    injection e1 with e1
    subst e1
    exact ⟨_, hg⟩
/-- Rows of another type, where a cell of a row is set. -/
theorem own_setOther {w : World} {base sz n b i : Nat} {e e' : TypeId} {v u : Value} {xs : List Value} {cs : Array Value} (ho : w.ownsRow base e sz v n xs) (hb : w.heap[b]? = some (.cells cs e' (0, 0))) (hne : e ≠ e') : (w.setCell ⟨b, i, none⟩ u).ownsRow base e sz v n xs := by
  rcases ho with ⟨h1, h | ⟨q, cap, cur, hv, hq, hgq, r⟩⟩
  · exact ⟨h1, .inl h⟩
  · refine ⟨h1, .inr ⟨q, cap, cur, hv, hq, ?_, r⟩⟩
    rw [Below.heap_setCell w ⟨b, i, none⟩ u q (fun e1 => ?_)]
    · exact hgq
    · have e1 : q = b := e1
      rw [e1, hb] at hgq
      simp only [Option.some.injEq, Obj.cells.injEq] at hgq
      exact hne hgq.2.1.symm
theorem own_rec {α : Type} {enc : α → List Value} {w : World} {base sz n c : Nat} {T : TypeId} {A : Option Addr} {l : List α} (hz : ∀ a, (enc a).length = sz) (h : w.ownsRow base T sz (.slice A n c) n (rowsV enc l)) (hl : l.length = n) {i : Nat} {a : α} (hi : l[i]? = some a) :
    ∃ b off, A = some ⟨b, off, none⟩ ∧ base ≤ b ∧ b < w.heap.size ∧ ∀ j u, (enc a)[j]? = some u → w.cell? ⟨b, off + i * sz + j, none⟩ = some u := by
  obtain ⟨b, off, e, hb, hc⟩ := (own_slAt h).rec_ hz hl hi
  refine ⟨b, off, e, ?_, hb, hc⟩
  subst e
  rcases h.2 with ⟨h', _⟩ | ⟨q, cap, cur, hv, hq, _⟩
  · cases h'
  · injection hv with e1
    injection e1 with e1
    injection e1 with e1
    omega
theorem blk_setOther {w : World} {S b i : Nat} {T e : TypeId} {u : Value} {cs cs' : Array Value} (h : Blk w S T cs) (hb : w.heap[b]? = some (.cells cs' e (0, 0))) (hne : T ≠ e) : Blk (w.setCell ⟨b, i, none⟩ u) S T cs := by
  unfold Blk at h ⊢
  rw [Below.heap_setCell w ⟨b, i, none⟩ u S (fun e1 => ?_)]
  · exact h
  · have e1 : S = b := e1
    rw [e1, hb] at h
    simp only [Option.some.injEq, Obj.cells.injEq] at h
    exact hne h.2.1.symm
theorem below_setB {w0 w : World} {base b i : Nat} {u : Value} (h : Below base w0 w) (hb : base ≤ b) : Below base w0 (w.setCell ⟨b, i, none⟩ u) :=
  ⟨h.os, h.tape, h.output, by have := h.size; simpa [World.setCell] using this, fun k hk => (Below.heap_setCell w ⟨b, i, none⟩ u k (by show k ≠ b; omega)).trans (h.block k hk)⟩
theorem own_grewOther {w w' : World} {base b' sz sz' n n' : Nat} {e e' : TypeId} {v u u' : Value} {xs ys : List Value} (ho : w.ownsRow base e sz v n xs) (hg : Grew w w' u u') (hu : w.ownsRow b' e' sz' u n' ys) (hne : e ≠ e') : w'.ownsRow base e sz v n xs := by
  rcases ho with ⟨h1, h | ⟨q, cap, cur, hv, hq, hgq, r⟩⟩
  · exact ⟨h1, .inl h⟩
  · have hlt : q < w.heap.size := (Array.getElem?_eq_some_iff.1 hgq).1
    refine ⟨h1, .inr ⟨q, cap, cur, hv, hq, (hg.grown.block q hlt ?_).trans hgq, r⟩⟩
    intro e1
    rcases hu.2 with ⟨rfl, _⟩ | ⟨q', cap', cur', rfl, _, hgq', _⟩
    · simp [Value.ownBlock] at e1
    · simp [Value.ownBlock] at e1
      subst e1
      rw [hgq] at hgq'
      simp only [Option.some.injEq, Obj.cells.injEq] at hgq'
      exact hne hgq'.2.1
theorem Blk.grewE {w w' : World} {base n g sz : Nat} {e t : TypeId} {v v' : Value} {xs : List Value} {cs : Array Value} (h : Blk w g t cs) (hg : Grew w w' v v') (ho : w.ownsRow base e sz v n xs) (hne : t ≠ e) : Blk w' g t cs := by
  refine (hg.grown.block g h.lt fun hb => ?_).trans h
  rcases ho.2 with ⟨h1, _⟩ | ⟨q, cap, cur, hv, _, hgq, _⟩
  · rw [h1] at hb; cases hb
  · rw [hv] at hb
    have : q = g := by simpa [Value.ownBlock] using hb.symm
    subst this
    unfold Blk at h
    rw [h] at hgq
    injection hgq with hgq
    injection hgq with _ h2
    exact hne h2
theorem own_setNe {w : World} {base sz n J i : Nat} {e : TypeId} {v u : Value} {xs : List Value} (ho : w.ownsRow base e sz v n xs) (hne : ∀ q, v.ownBlock = some q → q ≠ J) : (w.setCell ⟨J, i, none⟩ u).ownsRow base e sz v n xs := by
  rcases ho with ⟨h1, h | ⟨q, cap, cur, hv, hq, hgq, r⟩⟩
  · exact ⟨h1, .inl h⟩
  · refine ⟨h1, .inr ⟨q, cap, cur, hv, hq, ?_, r⟩⟩
    rw [Below.heap_setCell w ⟨J, i, none⟩ u q (hne q (by rw [hv]; simp [Value.ownBlock]))]
    exact hgq
theorem map_take_succ {α β : Type} (f : α → β) {l : List α} {k : Nat} {y : α} (h : l[k]? = some y) : (l.take (k + 1)).map f = (l.take k).map f ++ [f y] := by rw [List.take_add_one, h]; simp
theorem id_take_succ {α : Type} {l : List α} {k : Nat} {y : α} (h : l[k]? = some y) : l.take (k + 1) = l.take k ++ [y] := by rw [List.take_add_one, h]; rfl
end Go.Proofs.YtoeejfhdjmkpcaaDoor
namespace Go.Proofs.YtoeejfhdjmkpcaaDoor
open Go.RowKit
def ClPost {α : Type} (T : TypeId) (sz : Nat) (enc : α → List Value) (xs : List α) (w : World) (e : Ending) (w' : World) : Prop :=
  ∃ A' c', e = .returned (.slice A' xs.length c') ∧ w'.ownsRow w.heap.size T sz (.slice A' xs.length c') xs.length (rowsV enc xs) ∧ Below w.heap.size w w'
theorem ClPost.of_own {α : Type} {T : TypeId} {sz n : Nat} {enc : α → List Value} {xs : List α} {w w' : World} {v : Value} (hl : xs.length = n) (ho : w'.ownsRow w.heap.size T sz v n (rowsV enc xs)) (hb : Below w.heap.size w w') : ClPost T sz enc xs w (.returned v) w' := by
  subst hl
  rcases ho.2 with ⟨rfl, h0⟩ | ⟨g, cap, cur, rfl, _⟩
  · rw [h0] at ho
    exact ⟨none, 0, by rw [h0], by rw [h0]; exact ho, hb⟩
  · exact ⟨some ⟨g, 0, none⟩, cap, rfl, ho, hb⟩
/-- The cells of a slice, by the address as it stands. -/
theorem SlAt.adds {w : World} {B sz n : Nat} {ad : Addr} {xs : List Value} (h : SlAt w B sz (some ad) n xs) : ∀ j u, xs[j]? = some u → w.cell? (ad.add j) = some u := by
  intro j u hu
  have hn : 0 < n := by
    rcases Nat.eq_zero_or_pos n with h0 | h0
    · subst h0
      have : xs = [] := List.eq_nil_of_length_eq_zero (by rw [h.len]; omega)
      subst this; cases hu
    · exact h0
  obtain ⟨b, off, e, hB, hr⟩ := h.at_ hn
  injection e with e
  subst e
  have := hr j u hu
  unfold Addr.add
  split
  · rename_i hj; subst hj; simpa using this
  · exact this
theorem alloc_cell {w : World} {a : Addr} {v : Value} (o : Obj) (h : w.cell? a = some v) : (w.alloc o).cell? a = some v := by
  have hlt : a.block < w.heap.size := by
    rcases Nat.lt_or_ge a.block w.heap.size with h' | h'
    · exact h'
    · simp [World.cell?, Array.getElem?_eq_none h'] at h
  rw [← h]
  have := ((Below.refl w.heap.size w).alloc (Nat.le_refl _) o).block a.block hlt
  unfold World.cell?
  rw [this]

end Go.Proofs.YtoeejfhdjmkpcaaDoor
