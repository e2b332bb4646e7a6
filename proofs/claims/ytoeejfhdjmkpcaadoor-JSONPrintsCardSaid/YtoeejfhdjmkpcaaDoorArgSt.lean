/- An argument that is a state, opened. -/
import Derived.Test.YtoeejfhdjmkpcaaDoorStAt
import Derived.Test.YtoeejfhdjmkpcaaDoorFrm
import Derived.Deep.Slices
import Derived.Lib.SmallJoins
set_option linter.unusedVariables false
set_option linter.unusedSimpArgs false
namespace Go.Proofs.YtoeejfhdjmkpcaaDoor
open Go.ChangeShapes Go.WideShapes Go.ChangeAt Go.RowKit
def I64 (n : Int) : Prop := -9223372036854775808 ≤ n ∧ n ≤ 9223372036854775807
def Short (s : ByteArray) : Prop := s.size ≤ 9223372036854775807
def JobFull (j : JobD) : Prop := Short j.name ∧ I64 j.prio ∧ I64 j.need ∧ I64 j.tries ∧ Short j.tag
def NodeFull (n : NodeD) : Prop := Short n.name ∧ I64 n.room ∧ Short n.zone
def LeaseFull (l : LeaseD) : Prop := Short l.job ∧ Short l.node ∧ I64 l.till
/-- A slice of records, opened. -/
theorem open_rows {H α : Type} {enc : TypeId × Value → H} {W : World} {held : Bool} {fuel : Nat} {cs : List Value} {x : DataW H × List MemPlace} {t e : TypeId} {sz : Nat} (encA : α → List Value) (ok : α → Prop) (a0 : α)
    (ht : Tryd.prog.underlying t = some (.slice e)) (hc : Tryd.prog.cellsOf e = sz) (hsz : 0 < sz) (hlen : ∀ a, (encA a).length = sz)
    (each : ∀ n cs' y, DataW.trod enc Tryd.prog W 0 (fun _ => true) held n e cs' = some y → ∃ a : α, cs' = encA a ∧ ok a)
    (h : DataW.trod enc Tryd.prog W 0 (fun _ => true) held fuel t cs = some x) (hlt : ∀ z ∈ x.2, z.block < W.heap.size) :
    ∃ (xs : List α) (A : Option Addr) (n c : Nat), cs = [.slice A n c] ∧ xs.length = n ∧ n ≤ 9223372036854775807 ∧ SlAt W W.heap.size sz A n (rowsV encA xs) ∧ ∀ a ∈ xs, ok a := by
  haveI : Inhabited α := ⟨a0⟩
  rcases Go.Deep.open_slice ht h with ⟨rfl, -⟩ | ⟨a, len, cap, m, n, D, Pl, rfl, hb, hl, hm, hmm, rfl, hx⟩
  · exact ⟨[], none, 0, 0, rfl, rfl, by omega, SlAt.nil, by simp⟩
  · simp only [if_true] at hmm
    subst hmm
    rw [hc] at hx hlt
    obtain ⟨f, hf⟩ := Go.Deep.choose_lt (α := α) (p := fun i u => W.cells? 0 (a.add (i * sz)) sz = some (encA u) ∧ ok u) (fun i hi => by
      obtain ⟨cs', h1, h2⟩ := hx i hi
      obtain ⟨u, rfl, hu⟩ := each _ _ _ h2
      exact ⟨u, h1, hu⟩)
    have hcell : ∀ i, i < m → ∀ j, j < sz → W.cell? ((a.add (i * sz)).add j) = (encA (f i))[j]? := fun i hi j hj => (World.cells?_some (hf i hi).1).2.2 j hj
    refine ⟨(List.range len).map f, some a, len, m, rfl, by simp, by unfold maxLen at hm; omega, ⟨by rw [rowsV_length hlen]; simp, fun hn => ?_⟩, fun u hu => ?_⟩
    · have hfst : ∃ v, W.cell? ((a.add (0 * sz)).add 0) = some v := by
        rw [hcell 0 (by omega) 0 hsz]
        exact ⟨_, List.getElem?_eq_getElem (by rw [hlen]; exact hsz)⟩
      obtain ⟨v, hv⟩ := hfst
      obtain ⟨b, off, spot⟩ := a
      have hspot : spot = none := by simpa [Addr.add] using World.cell?_spot hv
      subst hspot
      refine ⟨b, off, rfl, ?_, fun j u hu => ?_⟩
      · refine hlt (.cell b off) (List.mem_append_left _ (MemPlace.mem_row.2 ⟨0, ?_, rfl⟩))
        exact Nat.mul_pos (by omega) hsz
      · have hj : j < len * sz := by
          rcases Nat.lt_or_ge j (len * sz) with h1 | h1
          · exact h1
          · rw [List.getElem?_eq_none (by rw [rowsV_length hlen]; simpa using h1)] at hu; cases hu
        have hq : j / sz < len := Nat.div_lt_of_lt_mul (by rw [Nat.mul_comm]; exact hj)
        have hr : j % sz < sz := Nat.mod_lt _ hsz
        have hjd : j = j / sz * sz + j % sz := by rw [Nat.mul_comm]; exact (Nat.div_add_mod j sz).symm
        have h1 := hcell (j / sz) (by omega) (j % sz) hr
        rw [add_plain, add_plain, Nat.add_assoc, ← hjd] at h1
        rw [h1, ← hu]
        conv => rhs; rw [hjd]
        rw [rowsV_get hlen _ _ _ (f (j / sz)) (by simp [hq]) hr]
    · obtain ⟨i, hi, rfl⟩ := List.mem_map.1 hu
      exact (hf i (by have := List.mem_range.1 hi; omega)).2
theorem cellsJob : Tryd.prog.cellsOf 36 = 5 := by kernel_rfl
theorem cellsNode : Tryd.prog.cellsOf 40 = 3 := by kernel_rfl
theorem cellsLease : Tryd.prog.cellsOf 42 = 3 := by kernel_rfl
theorem cellsState : Tryd.prog.cellsOf 26 = 4 := by kernel_rfl
theorem short_of {s : ByteArray} (h : s.size ≤ maxLen) : Short s := by unfold maxLen at h; unfold Short; omega
set_option maxRecDepth 100000 in
theorem eachJob {H : Type} {enc : TypeId × Value → H} {W : World} {held : Bool} (n : Nat) (cs : List Value) (y : DataW H × List MemPlace) (h : DataW.trod enc Tryd.prog W 0 (fun _ => true) held n 36 cs = some y) : ∃ a : JobD, cs = jobV a ∧ JobFull a := by
  obtain ⟨xs, m, -, -, hl, hxs, hall⟩ := DataW.trod_struct Tryd.underlying36 h
  have hl2 : cs.length = 5 := hl.trans cellsJob
  have hxs2 : xs.length = 5 := hxs
  match cs, hl2 with
  | [v0, v1, v2, v3, v4], _ =>
    have q0 := hall 0 _ rfl
    rw [List.getElem?_eq_getElem (by omega)] at q0
    obtain ⟨s0, e0, -, z0⟩ := DataW.trod_string Tryd.underlying9 q0
    replace e0 : [v0] = [_] := e0
    obtain rfl := (List.cons.inj e0).1
    have q1 := hall 1 _ rfl
    rw [List.getElem?_eq_getElem (by omega)] at q1
    obtain ⟨s1, e1, -, z1⟩ := DataW.trod_int Tryd.underlying3 q1
    replace e1 : [v1] = [_] := e1
    obtain rfl := (List.cons.inj e1).1
    have q2 := hall 2 _ rfl
    rw [List.getElem?_eq_getElem (by omega)] at q2
    obtain ⟨s2, e2, -, z2⟩ := DataW.trod_int Tryd.underlying3 q2
    replace e2 : [v2] = [_] := e2
    obtain rfl := (List.cons.inj e2).1
    have q3 := hall 3 _ rfl
    rw [List.getElem?_eq_getElem (by omega)] at q3
    obtain ⟨s3, e3, -, z3⟩ := DataW.trod_int Tryd.underlying3 q3
    replace e3 : [v3] = [_] := e3
    obtain rfl := (List.cons.inj e3).1
    have q4 := hall 4 _ rfl
    rw [List.getElem?_eq_getElem (by omega)] at q4
    obtain ⟨s4, e4, -, z4⟩ := DataW.trod_string Tryd.underlying9 q4
    replace e4 : [v4] = [_] := e4
    obtain rfl := (List.cons.inj e4).1
    exact ⟨⟨s0, s1, s2, s3, s4⟩, rfl, short_of z0, wf_bounds_i64 z1, wf_bounds_i64 z2, wf_bounds_i64 z3, short_of z4⟩
set_option maxRecDepth 100000 in
theorem eachNode {H : Type} {enc : TypeId × Value → H} {W : World} {held : Bool} (n : Nat) (cs : List Value) (y : DataW H × List MemPlace) (h : DataW.trod enc Tryd.prog W 0 (fun _ => true) held n 40 cs = some y) : ∃ a : NodeD, cs = nodeV a ∧ NodeFull a := by
  obtain ⟨xs, m, -, -, hl, hxs, hall⟩ := DataW.trod_struct Tryd.underlying40 h
  have hl2 : cs.length = 3 := hl.trans cellsNode
  have hxs2 : xs.length = 3 := hxs
  match cs, hl2 with
  | [v0, v1, v2], _ =>
    have q0 := hall 0 _ rfl
    rw [List.getElem?_eq_getElem (by omega)] at q0
    obtain ⟨s0, e0, -, z0⟩ := DataW.trod_string Tryd.underlying9 q0
    replace e0 : [v0] = [_] := e0
    obtain rfl := (List.cons.inj e0).1
    have q1 := hall 1 _ rfl
    rw [List.getElem?_eq_getElem (by omega)] at q1
    obtain ⟨s1, e1, -, z1⟩ := DataW.trod_int Tryd.underlying3 q1
    replace e1 : [v1] = [_] := e1
    obtain rfl := (List.cons.inj e1).1
    have q2 := hall 2 _ rfl
    rw [List.getElem?_eq_getElem (by omega)] at q2
    obtain ⟨s2, e2, -, z2⟩ := DataW.trod_string Tryd.underlying9 q2
    replace e2 : [v2] = [_] := e2
    obtain rfl := (List.cons.inj e2).1
    exact ⟨⟨s0, s1, s2⟩, rfl, short_of z0, wf_bounds_i64 z1, short_of z2⟩
set_option maxRecDepth 100000 in
theorem eachLease {H : Type} {enc : TypeId × Value → H} {W : World} {held : Bool} (n : Nat) (cs : List Value) (y : DataW H × List MemPlace) (h : DataW.trod enc Tryd.prog W 0 (fun _ => true) held n 42 cs = some y) : ∃ a : LeaseD, cs = leaseV a ∧ LeaseFull a := by
  obtain ⟨xs, m, -, -, hl, hxs, hall⟩ := DataW.trod_struct Tryd.underlying42 h
  have hl2 : cs.length = 3 := hl.trans cellsLease
  have hxs2 : xs.length = 3 := hxs
  match cs, hl2 with
  | [v0, v1, v2], _ =>
    have q0 := hall 0 _ rfl
    rw [List.getElem?_eq_getElem (by omega)] at q0
    obtain ⟨s0, e0, -, z0⟩ := DataW.trod_string Tryd.underlying9 q0
    replace e0 : [v0] = [_] := e0
    obtain rfl := (List.cons.inj e0).1
    have q1 := hall 1 _ rfl
    rw [List.getElem?_eq_getElem (by omega)] at q1
    obtain ⟨s1, e1, -, z1⟩ := DataW.trod_string Tryd.underlying9 q1
    replace e1 : [v1] = [_] := e1
    obtain rfl := (List.cons.inj e1).1
    have q2 := hall 2 _ rfl
    rw [List.getElem?_eq_getElem (by omega)] at q2
    obtain ⟨s2, e2, -, z2⟩ := DataW.trod_int Tryd.underlying3 q2
    replace e2 : [v2] = [_] := e2
    obtain rfl := (List.cons.inj e2).1
    exact ⟨⟨s0, s1, s2⟩, rfl, short_of z0, short_of z1, wf_bounds_i64 z2⟩
structure StFull (st : StateD) : Prop where
  rev : I64 st.rev
  jobs : ∀ j ∈ st.jobs, JobFull j
  nodes : ∀ n ∈ st.nodes, NodeFull n
  leases : ∀ l ∈ st.leases, LeaseFull l
set_option maxRecDepth 100000 in
theorem open_state {H : Type} {enc : TypeId × Value → H} {W : World} {r : Reach} {b0 : Nat} {held : Bool} {v : Value} {d : DataW H} {p : List MemPlace}
    (hval : Value.okWide Tryd.prog W r b0 26 v) (hd : DataW.Trod enc Tryd.prog W 0 (fun _ => true) held 26 v d p) (hlt : ∀ x ∈ p, x.block < W.heap.size) :
    ∃ (st : StateD) (x : StA), v = .agg (stC st x) ∧ StAt W W.heap.size st x ∧ StFull st := by
  obtain ⟨v0, v1, v2, v3, y0, y1, y2, y3, n, rfl, rfl, rfl, h0, h1, h2, h3⟩ := Joins.open_agg4 Tryd.underlying26 (by kernel_rfl) cellsState hval hd
  obtain ⟨rev, e0, -, zr⟩ := DataW.trod_int Tryd.underlying3 h0
  obtain ⟨js, aj, nj, cj, e1, lj, bj, hj, oj⟩ := open_rows jobV JobFull ⟨⟨#[]⟩, 0, 0, 0, ⟨#[]⟩⟩ Tryd.underlying22 cellsJob (by omega) jobV_len (fun n cs y h => eachJob n cs y h) h1 (fun z hz => hlt z (by simp [hz]))
  obtain ⟨ns, an, nn, cn, e2, ln, bn, hn, on_⟩ := open_rows nodeV NodeFull ⟨⟨#[]⟩, 0, ⟨#[]⟩⟩ Tryd.underlying23 cellsNode (by omega) nodeV_len (fun n cs y h => eachNode n cs y h) h2 (fun z hz => hlt z (by simp [hz]))
  obtain ⟨ls, al, nl, cl, e3, ll, bl, hl, ol⟩ := open_rows leaseV LeaseFull ⟨⟨#[]⟩, ⟨#[]⟩, 0⟩ Tryd.underlying24 cellsLease (by omega) leaseV_len (fun n cs y h => eachLease n cs y h) h3 (fun z hz => hlt z (by simp [hz]))
  obtain rfl := (List.cons.inj e0).1
  obtain rfl := (List.cons.inj e1).1
  obtain rfl := (List.cons.inj e2).1
  obtain rfl := (List.cons.inj e3).1
  exact ⟨⟨rev, js, ns, ls⟩, ⟨aj, nj, cj, an, nn, cn, al, nl, cl⟩, rfl, ⟨hj, hn, hl, lj, ln, ll, bj, bn, bl, fun x hx => ⟨(oj x hx).1, (oj x hx).2.2.2.2⟩, fun x hx => ⟨(on_ x hx).1, (on_ x hx).2.2⟩, fun x hx => ⟨(ol x hx).1, (ol x hx).2.1⟩⟩,
    ⟨wf_bounds_i64 zr, oj, on_, ol⟩⟩
end Go.Proofs.YtoeejfhdjmkpcaaDoor
