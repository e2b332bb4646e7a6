/- Of the proof. -/
import Derived.Test.YtjgnnobccecpeaaGreatDoorPArgSt
import Derived.Test.YtjgnnobccecpeaaGreatDoorPRBetween
set_option linter.unusedVariables false
set_option linter.unusedSimpArgs false
set_option maxRecDepth 100000
set_option maxHeartbeats 8000000
namespace Go.Proofs.YtjgnnobccecpeaaGreatDoor
open Go.Lib (hid)
open Go.RowKit
def noStr (cs : Array Value) : Prop := ∀ (i : Nat) (s : ByteArray), cs[i]? ≠ some (.string s)
theorem noStr_of {cs : Array Value} (h : ∀ v ∈ cs, ∀ s, v ≠ .string s) : noStr cs := fun _ s e => h _ (Array.mem_of_getElem? e) s rfl
theorem noStr_st (st : StateD) (x : StA) : noStr (stC st x) := noStr_of (by
 intro v hv s
 simp only [stC, List.mem_toArray, List.mem_cons, List.not_mem_nil, or_false] at hv
 rcases hv with rfl | rfl | rfl | rfl <;> simp)
def srvC (st : StateD) (x : StA) (now : Int) : Array Value := #[.int .i64 st.rev, .slice x.aj x.nj x.cj, .slice x.an x.nn x.cn, .slice x.al x.nl x.cl, .int .i64 now]
theorem noStr_srv (st : StateD) (x : StA) (now : Int) : noStr (srvC st x now) := noStr_of (by
 intro v hv s
 simp only [srvC, List.mem_toArray, List.mem_cons, List.not_mem_nil, or_false] at hv
 rcases hv with rfl | rfl | rfl | rfl | rfl <;> simp)
theorem noStr_int (n : Int) : noStr #[.int .i64 n] := noStr_of (by
 intro v hv s
 simp only [List.mem_toArray, List.mem_cons, List.not_mem_nil, or_false] at hv
 rcases hv with rfl; simp)
theorem noStr_int2 (n m : Int) : noStr #[.int .i64 n, .int .i64 m] := noStr_of (by
 intro v hv s
 simp only [List.mem_toArray, List.mem_cons, List.not_mem_nil, or_false] at hv
 rcases hv with rfl | rfl <;> simp)
section
variable {w w' : World} {B sz n g : Nat} {A : Option Addr} {xs : List Value} {t : TypeId} {cs : Array Value}
theorem SlAt.butN (h : SlAt w B sz A n xs) (hb : Blk w g t cs) (hc : noStr cs) (h0 : 0 < n → ∃ s, xs[0]? = some (.string s)) (hg : w.grownBy w' (some g)) : SlAt w' B sz A n xs :=
 ⟨h.len, fun hn => by
  obtain ⟨b, off, e, hB, hr⟩ := h.at_ hn
  obtain ⟨s, hs⟩ := h0 hn
  refine ⟨b, off, e, hB, fun j u hu => hg.cell (hr j u hu) ?_⟩
  intro e1
  have e2 : b = g := by simpa using e1
  subst e2
  have h1 := hr 0 _ hs
  rw [Nat.add_zero, hb.cell off] at h1
  exact hc _ _ h1⟩
end
theorem first_job {l : List JobD} {n : Nat} (h : l.length = n) (hn : 0 < n) : ∃ s, (rowsV jobV l)[0]? = some (.string s) := by
 match l, h with
 | [], h => simp at h; omega
 | a :: l, _ => exact ⟨a.name, rfl⟩
theorem first_node {l : List NodeD} {n : Nat} (h : l.length = n) (hn : 0 < n) : ∃ s, (rowsV nodeV l)[0]? = some (.string s) := by
 match l, h with
 | [], h => simp at h; omega
 | a :: l, _ => exact ⟨a.name, rfl⟩
theorem first_lease {l : List LeaseD} {n : Nat} (h : l.length = n) (hn : 0 < n) : ∃ s, (rowsV leaseV l)[0]? = some (.string s) := by
 match l, h with
 | [], h => simp at h; omega
 | a :: l, _ => exact ⟨a.job, rfl⟩
theorem StAt.butN {w w' : World} {B g : Nat} {t : TypeId} {cs : Array Value} {st : StateD} {x : StA} (h : StAt w B st x) (hb : Blk w g t cs) (hc : noStr cs) (hg : w.grownBy w' (some g)) : StAt w' B st x :=
 ⟨h.j.butN hb hc (first_job h.lj) hg, h.n.butN hb hc (first_node h.ln) hg, h.l.butN hb hc (first_lease h.ll) hg, h.lj, h.ln, h.ll, h.bj, h.bn, h.bl, h.oj, h.on_, h.ol⟩
theorem StAt.drew {w : World} {B : Nat} {st : StateD} {x : StA} (h : StAt w B st x) : StAt w.drew B st x :=
 ⟨h.j.drew, h.n.drew, h.l.drew, h.lj, h.ln, h.ll, h.bj, h.bn, h.bl, h.oj, h.on_, h.ol⟩
theorem StAt.rev {w : World} {B : Nat} {st : StateD} {x : StA} (h : StAt w B st x) (r : Int) : StAt w B ⟨r, st.jobs, st.nodes, st.leases⟩ x :=
 ⟨h.j, h.n, h.l, h.lj, h.ln, h.ll, h.bj, h.bn, h.bl, h.oj, h.on_, h.ol⟩
theorem StAt.withJ {w : World} {B : Nat} {st : StateD} {x : StA} (h : StAt w B st x) {js : List JobD} {A : Option Addr} {m : Nat} (c : Nat) (hj : SlAt w B 5 A m (rowsV jobV js)) (hl : js.length = m) (hb : m ≤ 9223372036854775807) (ho : JobsOk js) : StAt w B ⟨st.rev, js, st.nodes, st.leases⟩ ⟨A, m, c, x.an, x.nn, x.cn, x.al, x.nl, x.cl⟩ :=
 ⟨hj, h.n, h.l, hl, h.ln, h.ll, hb, h.bn, h.bl, ho, h.on_, h.ol⟩
theorem StAt.withN {w : World} {B : Nat} {st : StateD} {x : StA} (h : StAt w B st x) {js : List NodeD} {A : Option Addr} {m : Nat} (c : Nat) (hj : SlAt w B 3 A m (rowsV nodeV js)) (hl : js.length = m) (hb : m ≤ 9223372036854775807) (ho : NodesOk js) : StAt w B ⟨st.rev, st.jobs, js, st.leases⟩ ⟨x.aj, x.nj, x.cj, A, m, c, x.al, x.nl, x.cl⟩ :=
 ⟨h.j, hj, h.l, h.lj, hl, h.ll, h.bj, hb, h.bl, h.oj, ho, h.ol⟩
theorem StAt.withL {w : World} {B : Nat} {st : StateD} {x : StA} (h : StAt w B st x) {js : List LeaseD} {A : Option Addr} {m : Nat} (c : Nat) (hj : SlAt w B 3 A m (rowsV leaseV js)) (hl : js.length = m) (hb : m ≤ 9223372036854775807) (ho : LeasesOk js) : StAt w B ⟨st.rev, st.jobs, st.nodes, js⟩ ⟨x.aj, x.nj, x.cj, x.an, x.nn, x.cn, A, m, c⟩ :=
 ⟨h.j, h.n, hj, h.lj, h.ln, hl, h.bj, h.bn, hb, h.oj, h.on_, ho⟩
theorem StAt.upS {w w' : World} {st : StateD} {x : StA} (h : StAt w w.heap.size st x) (hb : Below w.heap.size w w') : StAt w' w'.heap.size st x := (h.below hb).more hb.size
theorem sizes_of {w : World} {B : Nat} {st : StateD} {x : StA} (h : StAt w B st x) (hc : checkE st = 0) : x.nj ≤ 40 ∧ x.nn ≤ 40 ∧ x.nl ≤ 40 := by
 have h2 := (check_iff.1 hc).2.1
 unfold sizesOk at h2
 simp only [Bool.and_eq_true, decide_eq_true_eq] at h2
 have := h.lj; have := h.ln; have := h.ll
 omega
structure SrvAt (w : World) (T : TypeId) (B : Nat) (st : StateD) (x : StA) (now : Int) : Prop where
 blk : Blk w B T (srvC st x now)
 at_ : StAt w w.heap.size st x
 ok : checkE st = 0
 t : 0 ≤ now ∧ now ≤ 1099511627776
theorem SrvAt.below {w w' : World} {T : TypeId} {B : Nat} {st : StateD} {x : StA} {now : Int} (h : SrvAt w T B st x now) (hb : Below w.heap.size w w') : SrvAt w' T B st x now :=
 ⟨h.blk.below hb h.blk.lt, h.at_.upS hb, h.ok, h.t⟩
theorem SrvAt.other {w w' : World} {T T' : TypeId} {B B' : Nat} {st : StateD} {x : StA} {now : Int} {cs : Array Value} (h : SrvAt w T B st x now) (hb : Blk w B' T' cs) (hc : noStr cs) (hg : w.grownBy w' (some B')) (hne : B ≠ B') : SrvAt w' T B st x now :=
 ⟨grow_blk hg h.blk hne, (h.at_.butN hb hc hg).more hg.size, h.ok, h.t⟩
def AskPost (T : TypeId) (B : Nat) (st : StateD) (R : SrvR) (w : World) (e : Ending) (w' : World) : Prop :=
 ∃ (D : DeltaD) (dx : DelA) (x' : StA), e = .returned (.tuple #[.agg #[.int .i64 R.e, .int .i64 R.st.rev], .agg (dC D dx), .bool R.ch]) ∧ D = (if R.ch = true then betweenD st R.st else ⟨0, 0, [], [], [], [], [], []⟩) ∧ DelAt w' w'.heap.size D dx ∧ Blk w' B T (srvC R.st x' R.now) ∧ StAt w' w'.heap.size R.st x' ∧ w.grownBy w' (some B)
open Go.RowKit
theorem newL_mem {α : Type} {a b : List α} {x : α} (h : x ∈ newL a b) : x ∈ b := (List.mem_filter.1 h).1
theorem goneL_mem {α : Type} {key : α → ByteArray} {a b : List α} {s : ByteArray} (h : s ∈ goneL key a b) : ∃ x ∈ a, key x = s := by
 obtain ⟨x, hx, e⟩ := List.mem_map.1 h
 exact ⟨x, (List.mem_filter.1 hx).1, e⟩
theorem between_sizes {w w' : World} {B B' : Nat} {a b : StateD} {x y : StA} (hA : StAt w B a x) (hB : StAt w' B' b y) (ha : checkE a = 0) (hb : checkE b = 0) : DeSizes (betweenD a b) := by
 obtain ⟨a1, a2, a3⟩ := ck_sizes ha
 obtain ⟨b1, b2, b3⟩ := ck_sizes hb
 exact ⟨Nat.le_trans (newL_len _ _) b1, Nat.le_trans (newL_len _ _) b2, Nat.le_trans (newL_len _ _) b3, Nat.le_trans (goneL_len _ _ _) a1, Nat.le_trans (goneL_len _ _ _) a2, Nat.le_trans (goneL_len _ _ _) a3,
  fun r hr => hB.oj r (newL_mem hr), fun r hr => hB.on_ r (newL_mem hr), fun r hr => hB.ol r (newL_mem hr),
  fun s hs => (by obtain ⟨r, hr, rfl⟩ := goneL_mem hs; exact (hA.oj r hr).1), fun s hs => (by obtain ⟨r, hr, rfl⟩ := goneL_mem hs; exact (hA.on_ r hr).1), fun s hs => (by obtain ⟨r, hr, rfl⟩ := goneL_mem hs; exact (hA.ol r hr).1)⟩
theorem three_blk (w : World) (ca cb cc : Array Value) {ta tb tc : TypeId} : Blk (((w.alloc (.cells ca ta)).alloc (.cells cb tb)).alloc (.cells cc tc)) w.heap.size ta ca ∧ Blk (((w.alloc (.cells ca ta)).alloc (.cells cb tb)).alloc (.cells cc tc)) (w.heap.size + 1) tb cb ∧
 Blk (((w.alloc (.cells ca ta)).alloc (.cells cb tb)).alloc (.cells cc tc)) (w.heap.size + 2) tc cc ∧ Below w.heap.size w (((w.alloc (.cells ca ta)).alloc (.cells cb tb)).alloc (.cells cc tc)) := by
 have h1 : Blk (w.alloc (.cells ca ta)) w.heap.size ta ca := heap_alloc_new w _
 have h2 := heap_alloc_new (w.alloc (.cells ca ta)) (.cells cb tb)
 rw [show (w.alloc (.cells ca ta)).heap.size = w.heap.size + 1 by simp] at h2
 have h3 := heap_alloc_new ((w.alloc (.cells ca ta)).alloc (.cells cb tb)) (.cells cc tc)
 rw [show ((w.alloc (.cells ca ta)).alloc (.cells cb tb)).heap.size = w.heap.size + 2 by simp] at h3
 exact ⟨(h1.alloc _).alloc _, (show Blk _ _ _ _ from h2).alloc _, h3, (((Below.refl _ _).alloc (Nat.le_refl _) _).alloc (by simp) _).alloc (by simp; omega) _⟩
theorem DeOwn.low {w : World} {g g' : Nat} {d : DeltaD} {x : DelA} (h : DeOwn w g d x) (hg : g' < g) : DeOwn w g' d x := by
 obtain ⟨⟨b1, h1, o1⟩, ⟨b2, h2, o2⟩, ⟨b3, h3, o3⟩, ⟨b4, h4, o4⟩, ⟨b5, h5, o5⟩, ⟨b6, h6, o6⟩, l1, l2, l3, l4, l5, l6⟩ := h
 exact ⟨⟨b1, by omega, o1⟩, ⟨b2, by omega, o2⟩, ⟨b3, by omega, o3⟩, ⟨b4, by omega, o4⟩, ⟨b5, by omega, o5⟩, ⟨b6, by omega, o6⟩, l1, l2, l3, l4, l5, l6⟩
open Go.ChangeShapes Go.WideShapes Go.ChangeAt Go.RowKit
structure ReqFull (q : ReqD) : Prop where
 kind : I64 q.kind
 job : JobFull q.job
 node : NodeFull q.node
 lease : LeaseFull q.lease
 name : Short q.name
 n : I64 q.n
def reqV (q : ReqD) : List Value := (reqC q).toList
theorem reqV_len (q : ReqD) : (reqV q).length = 14 := rfl
theorem cellsReq : Tryz.prog.cellsOf 44 = 14 := by kernel_rfl
theorem eachReq {H : Type} {enc : TypeId × Value → H} {W : World} {held : Bool} (n : Nat) (cs : List Value) (y : DataW H × List MemPlace) (h : DataW.trod enc Tryz.prog W 0 (fun _ => true) held n 44 cs = some y) : ∃ a : ReqD, cs = reqV a ∧ ReqFull a := by
 obtain ⟨xs, m, -, -, hl, hxs, hall⟩ := DataW.trod_struct Tryz.underlying44 h
 have hl2 : cs.length = 14 := hl.trans cellsReq
 have hxs2 : xs.length = 6 := hxs
 match cs, hl2 with
 | [v0, v1, v2, v3, v4, v5, v6, v7, v8, v9, v10, v11, v12, v13], _ =>
  have q0 := hall 0 _ rfl
  rw [List.getElem?_eq_getElem (by omega)] at q0
  obtain ⟨kd, e0, -, z0⟩ := DataW.trod_int Tryz.underlying3 q0
  replace e0 : [v0] = [_] := e0
  obtain rfl := (List.cons.inj e0).1
  have q1 := hall 1 _ rfl
  rw [List.getElem?_eq_getElem (by omega)] at q1
  obtain ⟨jb, e1, z1⟩ := eachJob _ _ _ q1
  replace e1 : [v1, v2, v3, v4, v5] = jobV jb := e1
  simp only [jobV, List.cons.injEq, and_true] at e1
  obtain ⟨rfl, rfl, rfl, rfl, rfl⟩ := e1
  have q2 := hall 2 _ rfl
  rw [List.getElem?_eq_getElem (by omega)] at q2
  obtain ⟨nd, e2, z2⟩ := eachNode _ _ _ q2
  replace e2 : [v6, v7, v8] = nodeV nd := e2
  simp only [nodeV, List.cons.injEq, and_true] at e2
  obtain ⟨rfl, rfl, rfl⟩ := e2
  have q3 := hall 3 _ rfl
  rw [List.getElem?_eq_getElem (by omega)] at q3
  obtain ⟨ls, e3, z3⟩ := eachLease _ _ _ q3
  replace e3 : [v9, v10, v11] = leaseV ls := e3
  simp only [leaseV, List.cons.injEq, and_true] at e3
  obtain ⟨rfl, rfl, rfl⟩ := e3
  have q4 := hall 4 _ rfl
  rw [List.getElem?_eq_getElem (by omega)] at q4
  obtain ⟨nm, e4, -, z4⟩ := DataW.trod_string Tryz.underlying9 q4
  replace e4 : [v12] = [_] := e4
  obtain rfl := (List.cons.inj e4).1
  have q5 := hall 5 _ rfl
  rw [List.getElem?_eq_getElem (by omega)] at q5
  obtain ⟨nn, e5, -, z5⟩ := DataW.trod_int Tryz.underlying3 q5
  replace e5 : [v13] = [_] := e5
  obtain rfl := (List.cons.inj e5).1
  exact ⟨⟨kd, jb, nd, ls, nm, nn⟩, rfl, wf_bounds_i64 z0, z1, z2, z3, short_of z4, wf_bounds_i64 z5⟩
theorem open_reqs {H : Type} {enc : TypeId × Value → H} {W : World} {r : Reach} {b0 : Nat} {held : Bool} {v : Value} {d : DataW H} {p : List MemPlace}
 (hval : Value.okWide Tryz.prog W r b0 27 v) (hd : DataW.Trod enc Tryz.prog W 0 (fun _ => true) held 27 v d p) (hlt : ∀ x ∈ p, x.block < W.heap.size) :
 ∃ (qs : List ReqD) (A : Option Addr) (n c : Nat), v = .slice A n c ∧ qs.length = n ∧ n ≤ 9223372036854775807 ∧ SlAt W W.heap.size 14 A n (rowsV reqV qs) ∧ ∀ q ∈ qs, ReqFull q := by
 obtain ⟨A, n, c, rfl⟩ := okWide_slice Tryz.underlying27 hval
 obtain ⟨fuel, hf⟩ := hd
 obtain ⟨qs, A', n', c', e, h1, h2, h3, h4⟩ := open_rows reqV ReqFull ⟨0, ⟨⟨#[]⟩, 0, 0, 0, ⟨#[]⟩⟩, ⟨⟨#[]⟩, 0, ⟨#[]⟩⟩, ⟨⟨#[]⟩, ⟨#[]⟩, 0⟩, ⟨#[]⟩, 0⟩ Tryz.underlying27 cellsReq (by omega) reqV_len (fun n cs y h => eachReq n cs y h) hf hlt
 simp only [Value.cells, List.cons.injEq, Value.slice.injEq, and_true] at e
 obtain ⟨rfl, rfl, rfl⟩ := e
 exact ⟨qs, _, _, _, rfl, h1, h2, h3, h4⟩
end Go.Proofs.YtjgnnobccecpeaaGreatDoor
