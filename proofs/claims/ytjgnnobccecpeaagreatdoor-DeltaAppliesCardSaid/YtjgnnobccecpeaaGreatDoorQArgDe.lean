/- Of the proof of a statement: ArgDe. -/
import Derived.Test.YtjgnnobccecpeaaGreatDoorQArgSt
import Derived.Test.YtjgnnobccecpeaaGreatDoorQDChk
set_option linter.unusedVariables false
set_option linter.unusedSimpArgs false
/- An argument that is a delta, opened. -/
namespace Go.Proofs.YtjgnnobccecpeaaGreatDoor
open Go.ChangeShapes Go.WideShapes Go.ChangeAt Go.RowKit
set_option maxRecDepth 100000 in
theorem eachStr {H : Type} {enc : TypeId × Value → H} {W : World} {held : Bool} (n : Nat) (cs : List Value) (y : DataW H × List MemPlace) (h : DataW.trod enc Tryz.prog W 0 (fun _ => true) held n 9 cs = some y) : ∃ a : ByteArray, cs = strV a ∧ Short a := by
  obtain ⟨s, e, -, z⟩ := DataW.trod_string Tryz.underlying9 h
  exact ⟨s, e, short_of z⟩
theorem cellsString : Tryz.prog.cellsOf 9 = 1 := by kernel_rfl
theorem cellsDelta : Tryz.prog.cellsOf 49 = 8 := by kernel_rfl
theorem array8 {cs : Array Value} (h : cs.size = 8) : ∃ a b c d e f g i, cs = #[a, b, c, d, e, f, g, i] := by
  obtain ⟨l⟩ := cs
  match l, h with
  | [a, b, c, d, e, f, g, i], _ => exact ⟨a, b, c, d, e, f, g, i, rfl⟩
structure DeFull (d : DeltaD) : Prop where
  from_ : I64 d.from_
  to_ : I64 d.to_
  jobs : ∀ j ∈ d.jobs, JobFull j
  nodes : ∀ n ∈ d.nodes, NodeFull n
  leases : ∀ l ∈ d.leases, LeaseFull l
  gj : ∀ s ∈ d.gj, Short s
  gn : ∀ s ∈ d.gn, Short s
  gl : ∀ s ∈ d.gl, Short s
set_option maxRecDepth 100000 in
theorem open_delta {H : Type} {enc : TypeId × Value → H} {W : World} {r : Reach} {b0 : Nat} {held : Bool} {v : Value} {d : DataW H} {p : List MemPlace}
    (hval : Value.okWide Tryz.prog W r b0 49 v) (hd : DataW.Trod enc Tryz.prog W 0 (fun _ => true) held 49 v d p) (hlt : ∀ x ∈ p, x.block < W.heap.size) :
    ∃ (st : DeltaD) (x : DelA), v = .agg (dC st x) ∧ DelAt W W.heap.size st x ∧ DeFull st := by
  obtain ⟨cs, rfl, hsz⟩ := okWide_struct Tryz.underlying49 hval
  obtain ⟨v0, v1, v2, v3, v4, v5, v6, v7, rfl⟩ := array8 (hsz.trans cellsDelta)
  obtain ⟨fuel, hf⟩ := hd
  obtain ⟨xs, n, -, hx, -, hxl, hall⟩ := DataW.trod_struct Tryz.underlying49 hf
  obtain ⟨-, rfl⟩ := Prod.mk.inj hx
  have hxl8 : xs.length = 8 := hxl
  have q0 := hall 0 _ rfl
  rw [List.getElem?_eq_getElem (show 0 < xs.length by omega)] at q0
  have m0 : ∀ z ∈ (xs[0]'(by omega)).2, z.block < W.heap.size := fun z hz => hlt z (List.mem_flatMap.2 ⟨_, List.getElem_mem (show 0 < xs.length by omega), hz⟩)
  have q1 := hall 1 _ rfl
  rw [List.getElem?_eq_getElem (show 1 < xs.length by omega)] at q1
  have m1 : ∀ z ∈ (xs[1]'(by omega)).2, z.block < W.heap.size := fun z hz => hlt z (List.mem_flatMap.2 ⟨_, List.getElem_mem (show 1 < xs.length by omega), hz⟩)
  have q2 := hall 2 _ rfl
  rw [List.getElem?_eq_getElem (show 2 < xs.length by omega)] at q2
  have m2 : ∀ z ∈ (xs[2]'(by omega)).2, z.block < W.heap.size := fun z hz => hlt z (List.mem_flatMap.2 ⟨_, List.getElem_mem (show 2 < xs.length by omega), hz⟩)
  have q3 := hall 3 _ rfl
  rw [List.getElem?_eq_getElem (show 3 < xs.length by omega)] at q3
  have m3 : ∀ z ∈ (xs[3]'(by omega)).2, z.block < W.heap.size := fun z hz => hlt z (List.mem_flatMap.2 ⟨_, List.getElem_mem (show 3 < xs.length by omega), hz⟩)
  have q4 := hall 4 _ rfl
  rw [List.getElem?_eq_getElem (show 4 < xs.length by omega)] at q4
  have m4 : ∀ z ∈ (xs[4]'(by omega)).2, z.block < W.heap.size := fun z hz => hlt z (List.mem_flatMap.2 ⟨_, List.getElem_mem (show 4 < xs.length by omega), hz⟩)
  have q5 := hall 5 _ rfl
  rw [List.getElem?_eq_getElem (show 5 < xs.length by omega)] at q5
  have m5 : ∀ z ∈ (xs[5]'(by omega)).2, z.block < W.heap.size := fun z hz => hlt z (List.mem_flatMap.2 ⟨_, List.getElem_mem (show 5 < xs.length by omega), hz⟩)
  have q6 := hall 6 _ rfl
  rw [List.getElem?_eq_getElem (show 6 < xs.length by omega)] at q6
  have m6 : ∀ z ∈ (xs[6]'(by omega)).2, z.block < W.heap.size := fun z hz => hlt z (List.mem_flatMap.2 ⟨_, List.getElem_mem (show 6 < xs.length by omega), hz⟩)
  have q7 := hall 7 _ rfl
  rw [List.getElem?_eq_getElem (show 7 < xs.length by omega)] at q7
  have m7 : ∀ z ∈ (xs[7]'(by omega)).2, z.block < W.heap.size := fun z hz => hlt z (List.mem_flatMap.2 ⟨_, List.getElem_mem (show 7 < xs.length by omega), hz⟩)
  obtain ⟨f0, e0, -, z0⟩ := DataW.trod_int Tryz.underlying3 q0
  obtain ⟨f1, e1, -, z1⟩ := DataW.trod_int Tryz.underlying3 q1
  obtain ⟨xj, aj, nj, cj, e2, lj, bj, hj, oj⟩ := open_rows jobV JobFull ⟨⟨#[]⟩, 0, 0, 0, ⟨#[]⟩⟩ Tryz.underlying22 cellsJob (by omega) jobV_len (fun n cs y h => eachJob n cs y h) q2 m2
  obtain ⟨xn, an, nn, cn, e3, ln, bn, hn, on⟩ := open_rows nodeV NodeFull ⟨⟨#[]⟩, 0, ⟨#[]⟩⟩ Tryz.underlying23 cellsNode (by omega) nodeV_len (fun n cs y h => eachNode n cs y h) q3 m3
  obtain ⟨xl, al, nl, cl, e4, ll, bl, hl, ol⟩ := open_rows leaseV LeaseFull ⟨⟨#[]⟩, ⟨#[]⟩, 0⟩ Tryz.underlying24 cellsLease (by omega) leaseV_len (fun n cs y h => eachLease n cs y h) q4 m4
  obtain ⟨xgj, agj, ngj, cgj, e5, lgj, bgj, hgj, ogj⟩ := open_rows strV Short ⟨#[]⟩ Tryz.underlying47 cellsString (by omega) strV_len (fun n cs y h => eachStr n cs y h) q5 m5
  obtain ⟨xgn, agn, ngn, cgn, e6, lgn, bgn, hgn, ogn⟩ := open_rows strV Short ⟨#[]⟩ Tryz.underlying47 cellsString (by omega) strV_len (fun n cs y h => eachStr n cs y h) q6 m6
  obtain ⟨xgl, agl, ngl, cgl, e7, lgl, bgl, hgl, ogl⟩ := open_rows strV Short ⟨#[]⟩ Tryz.underlying47 cellsString (by omega) strV_len (fun n cs y h => eachStr n cs y h) q7 m7
  replace e0 : [v0] = [_] := e0
  obtain rfl := (List.cons.inj e0).1
  replace e1 : [v1] = [_] := e1
  obtain rfl := (List.cons.inj e1).1
  replace e2 : [v2] = [_] := e2
  obtain rfl := (List.cons.inj e2).1
  replace e3 : [v3] = [_] := e3
  obtain rfl := (List.cons.inj e3).1
  replace e4 : [v4] = [_] := e4
  obtain rfl := (List.cons.inj e4).1
  replace e5 : [v5] = [_] := e5
  obtain rfl := (List.cons.inj e5).1
  replace e6 : [v6] = [_] := e6
  obtain rfl := (List.cons.inj e6).1
  replace e7 : [v7] = [_] := e7
  obtain rfl := (List.cons.inj e7).1
  exact ⟨⟨f0, f1, xj, xn, xl, xgj, xgn, xgl⟩, ⟨aj, nj, cj, an, nn, cn, al, nl, cl, agj, ngj, cgj, agn, ngn, cgn, agl, ngl, cgl⟩, rfl,
    { j := hj, n := hn, l := hl, gj := hgj, gn := hgn, gl := hgl, lj := lj, ln := ln, ll := ll, lgj := lgj, lgn := lgn, lgl := lgl, bj := bj, bn := bn, bl := bl, bgj := bgj, bgn := bgn, bgl := bgl,
      oj := fun x hx => ⟨(oj x hx).1, (oj x hx).2.2.2.2⟩, on_ := fun x hx => ⟨(on x hx).1, (on x hx).2.2⟩, ol := fun x hx => ⟨(ol x hx).1, (ol x hx).2.1⟩, ogj := ogj, ogn := ogn, ogl := ogl },
    ⟨wf_bounds_i64 z0, wf_bounds_i64 z1, oj, on, ol, ogj, ogn, ogl⟩⟩
end Go.Proofs.YtjgnnobccecpeaaGreatDoor
