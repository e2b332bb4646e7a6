/- Of the proof of a statement: StOwn, OwnMore, JObj. -/
import Derived.Test.YtcodhhabfacnjaaGreatDoorSStAt
import Derived.Test.YtcodhhabfacnjaaGreatDoorSTake
set_option linter.unusedVariables false
set_option linter.unusedSimpArgs false
/- Worlds of whose old blocks only two have turned; the rows of a state in blocks of the call's own. -/
namespace Go.Proofs.YtcodhhabfacnjaaGreatDoor
open Go.RowKit
/-- Of the old blocks only two may have turned. -/
structure Two (w w' : World) (a b : Nat) : Prop where
  os : w'.os = w.os
  tape : w'.tape = w.tape
  output : w'.output = w.output
  size : w.heap.size ≤ w'.heap.size
  block : ∀ k, k < w.heap.size → k ≠ a → k ≠ b → w'.heap[k]? = w.heap[k]?
theorem Two.refl (w : World) (a b : Nat) : Two w w a b := ⟨rfl, rfl, rfl, Nat.le_refl _, fun _ _ _ _ => rfl⟩
theorem Two.fst {w u v : World} {a b : Nat} (h : Two w u a b) (hg : u.grownBy v (some a)) : Two w v a b :=
  ⟨hg.os.trans h.os, hg.tape.trans h.tape, hg.output.trans h.output, Nat.le_trans h.size hg.size, fun k hk h1 h2 => (hg.block k (Nat.lt_of_lt_of_le hk h.size) (by simp; exact h1)).trans (h.block k hk h1 h2)⟩
theorem Two.snd {w u v : World} {a b : Nat} (h : Two w u a b) (hg : u.grownBy v (some b)) : Two w v a b :=
  ⟨hg.os.trans h.os, hg.tape.trans h.tape, hg.output.trans h.output, Nat.le_trans h.size hg.size, fun k hk h1 h2 => (hg.block k (Nat.lt_of_lt_of_le hk h.size) (by simp; exact h2)).trans (h.block k hk h1 h2)⟩
theorem Two.blk {w u : World} {a b k : Nat} {t : TypeId} {cs : Array Value} (h : Two w u a b) (hk : Blk w k t cs) (h1 : k ≠ a) (h2 : k ≠ b) : Blk u k t cs := (h.block k hk.lt h1 h2).trans hk
theorem Two.below {w0 w u : World} {a b : Nat} (h : Two w u a b) (hb : Below w0.heap.size w0 w) (h1 : w0.heap.size ≤ a) (h2 : w0.heap.size ≤ b) : Below w0.heap.size w0 u :=
  ⟨h.os.trans hb.os, h.tape.trans hb.tape, h.output.trans hb.output, Nat.le_trans hb.size h.size, fun k hk => (h.block k (Nat.lt_of_lt_of_le hk hb.size) (by omega) (by omega)).trans (hb.block k hk)⟩
/-- The rows of a state lie in blocks of the call's own. -/
structure StOwn (w : World) (base : Nat) (st : StateD) (x : StA) : Prop where
  j : w.ownsRow base 39 5 (.slice x.aj x.nj x.cj) x.nj (rowsV jobV st.jobs)
  n : w.ownsRow base 43 3 (.slice x.an x.nn x.cn) x.nn (rowsV nodeV st.nodes)
  l : w.ownsRow base 47 3 (.slice x.al x.nl x.cl) x.nl (rowsV leaseV st.leases)
  lj : st.jobs.length = x.nj
  ln : st.nodes.length = x.nn
  ll : st.leases.length = x.nl
theorem StOwn.grow {w w' : World} {base g : Nat} {st : StateD} {x : StA} (h : StOwn w base st x) (hg : w.grownBy w' (some g)) (hb : g < base) : StOwn w' base st x :=
  ⟨ownT_grow h.j hg hb, ownT_grow h.n hg hb, ownT_grow h.l hg hb, h.lj, h.ln, h.ll⟩
theorem StOwn.at_ {w : World} {base : Nat} {st : StateD} {x : StA} (h : StOwn w base st x) (bj : x.nj ≤ 40) (bn : x.nn ≤ 20) (bl : x.nl ≤ 40) (oj : JobsOk st.jobs) (on_ : NodesOk st.nodes) (ol : LeasesOk st.leases) : StAt w w.heap.size st x :=
  ⟨own_slAt h.j, own_slAt h.n, own_slAt h.l, h.lj, h.ln, h.ll, by omega, by omega, by omega, oj, on_, ol⟩
theorem ownT_base {w : World} {base b n sz : Nat} {e : TypeId} {v : Value} {xs : List Value} (ho : w.ownsRow base e sz v n xs) (hb : b ≤ base) : w.ownsRow b e sz v n xs := by
  rcases ho with ⟨h1, h | ⟨q, cap, cur, hv, hq, hgq, r⟩⟩
  · exact ⟨h1, .inl h⟩
  · exact ⟨h1, .inr ⟨q, cap, cur, hv, Nat.le_trans hb hq, hgq, r⟩⟩
theorem grow_keep {w0 w w' : World} {b : Nat} (h : Below w0.heap.size w0 w) (hg : w.grownBy w' (some b)) (hb : w0.heap.size ≤ b) : Below w0.heap.size w0 w' :=
  ⟨hg.os.trans h.os, hg.tape.trans h.tape, hg.output.trans h.output, Nat.le_trans h.size hg.size, fun k hk => (hg.block k (Nat.lt_of_lt_of_le hk h.size) (by simp; omega)).trans (h.block k hk)⟩
end Go.Proofs.YtcodhhabfacnjaaGreatDoor
/- Rows of the call's own: what becomes of them where something else turns. -/
namespace Go.Proofs.YtcodhhabfacnjaaGreatDoor
open Go.RowKit
theorem ownU_below {w w' : World} {base n sz : Nat} {e : TypeId} {v : Value} {xs : List Value} (ho : w.ownsRow base e sz v n xs) (hb : Below w.heap.size w w') : w'.ownsRow base e sz v n xs := by
  rcases ho with ⟨h1, h | ⟨q, cap, cur, hv, hq, hgq, r⟩⟩
  · exact ⟨h1, .inl h⟩
  · have hlt : q < w.heap.size := (Array.getElem?_eq_some_iff.1 hgq).1
    exact ⟨h1, .inr ⟨q, cap, cur, hv, hq, (hb.block q hlt).trans hgq, r⟩⟩
theorem own_grewOther {w w' : World} {base b' sz sz' n n' : Nat} {e e' : TypeId} {v u u' : Value} {xs ys : List Value} (ho : w.ownsRow base e sz v n xs) (hg : Grew w w' u u') (hu : w.ownsRow b' e' sz' u n' ys) (hne : e ≠ e') : w'.ownsRow base e sz v n xs := by
  rcases ho with ⟨h1, h | ⟨q, cap, cur, hv, hq, hgq, r⟩⟩
  · exact ⟨h1, .inl h⟩
  · have hlt : q < w.heap.size := (Array.getElem?_eq_some_iff.1 hgq).1
    refine ⟨h1, .inr ⟨q, cap, cur, hv, hq, (hg.grown.block q hlt ?_).trans hgq, r⟩⟩
    intro e1
    rcases hu.2 with ⟨rfl, _⟩ | ⟨q', cap', cur', rfl, _, hgq', _⟩
    · simp [Value.ownBlock] at e1
    · simp [Value.ownBlock] at e1
      subst e1
      rw [hgq] at hgq'
      simp only [Option.some.injEq, Obj.cells.injEq] at hgq'
      exact hne hgq'.2.1
theorem Blk.grewE {w w' : World} {base n g sz : Nat} {e t : TypeId} {v v' : Value} {xs : List Value} {cs : Array Value} (h : Blk w g t cs) (hg : Grew w w' v v') (ho : w.ownsRow base e sz v n xs) (hne : t ≠ e) : Blk w' g t cs := by
  refine (hg.grown.block g h.lt fun hb => ?_).trans h
  rcases ho.2 with ⟨h1, _⟩ | ⟨q, cap, cur, hv, _, hgq, _⟩
  · rw [h1] at hb; cases hb
  · rw [hv] at hb
    have : q = g := by simpa [Value.ownBlock] using hb.symm
    subst this
    unfold Blk at h
    rw [h] at hgq
    injection hgq with hgq
    injection hgq with _ h2
    exact hne h2
theorem map_take_succ {α β : Type} (f : α → β) {l : List α} {k : Nat} {y : α} (h : l[k]? = some y) : (l.take (k + 1)).map f = (l.take k).map f ++ [f y] := by rw [List.take_add_one, h]; simp
end Go.Proofs.YtcodhhabfacnjaaGreatDoor
/- The walk of json.object. -/
namespace Go.Proofs.YtcodhhabfacnjaaGreatDoor
open Go.RowKit
/-- A byte pushed, where blocks lie ahead of it. -/
theorem push_u8g {w : World} {ops : Array Oper} {rest : List Oper} {o : Oper} {a : Act} {Q : Exit → Act → World → Prop} (g : Nat) (hg : w.heap.size = g) (hgd : o.guard = none) (s x : Operand) (ho : o.op = .call { callee := .builtin .append, args := #[s, x], argTypes := #[78, 78] })
    (base : Nat) (A : Option Addr) (m c : Nat) (l : List UInt8) (hs : a.eval s = .slice A m c) (hown : w.ownsRow base 5 1 (.slice A m c) m (bytesV l))
    (u : Int) (b : UInt8) (hu : u = (b.toNat : Int)) (hx : a.eval x = .slice (some ⟨g, 0, none⟩) 1 1) (hm : m + 1 ≤ 140737488355328) (hbase : base ≤ w.heap.size)
    (h : ∀ A' c' w', w'.ownsRow base 5 1 (.slice A' (m + 1) c') (m + 1) (bytesV (l ++ [b])) → Grew w w' (.slice A m c) (.slice A' (m + 1) c') → wpList Tryz.prog ops Q rest (a.put o.dst (.slice A' (m + 1) c')) w') :
    wpList Tryz.prog ops Q (o :: rest) a (w.alloc (.cells #[.int .u8 u] 5)) := by
  subst hg; exact push_u8 hgd s x ho base A m c l hs hown u b hu hx hm hbase h
theorem Blk.keptO {w w' : World} {g : Nat} {t : TypeId} {cs : Array Value} (h : Blk w g t cs) (hne : t ≠ 5) (hk : Lib.OthersKept 5 none w w') : Blk w' g t cs := by
  unfold Blk at h ⊢
  exact hk g _ h (by simp) (fun c fz e => hne (by injection e))
/-- What stands after bytes were appended. -/
structure At2 (B : Nat) (w : World) (l : List UInt8) (wr : World) (A : Option Addr) (m c : Nat) : Prop where
  own : wr.ownsRow B 5 1 (.slice A m c) m (bytesV l)
  below : Below B w wr
  kept : Lib.OthersKept 5 none w wr
theorem At2.len {B : Nat} {w wr : World} {l : List UInt8} {A : Option Addr} {m c : Nat} (h : At2 B w l wr A m c) : l.length = m := by have := h.own.1; simpa [bytesV_length] using this
theorem At2.grew {B : Nat} {w wr w' : World} {l l' : List UInt8} {A A' : Option Addr} {m c m' c' : Nat} (h : At2 B w l wr A m c) (hB : B ≤ w.heap.size) (ho : w'.ownsRow B 5 1 (.slice A' m' c') m' (bytesV l')) (hg : Grew wr w' (.slice A m c) (.slice A' m' c')) : At2 B w l' w' A' m' c' :=
  ⟨ho, h.below.trans (hg.below (Nat.le_trans hB h.below.size) (fun k hk => (h.own.lt k hk).1)), h.kept.trans (kept_grew h.own hg)⟩
theorem At2.post {B : Nat} {w wr w' : World} {l l' : List UInt8} {A A' : Option Addr} {m c m' c' : Nat} (h : At2 B w l wr A m c) (ho : w'.ownsRow B 5 1 (.slice A' m' c') m' (bytesV l')) (hb : Below B wr w') (hk : Lib.OthersKept 5 none wr w') : At2 B w l' w' A' m' c' :=
  ⟨ho, h.below.trans hb, h.kept.trans hk⟩
theorem At2.alloc {B : Nat} {w wr : World} {l : List UInt8} {A : Option Addr} {m c : Nat} (h : At2 B w l wr A m c) (hB : B ≤ w.heap.size) (o : Obj) : At2 B w l (wr.alloc o) A m c :=
  ⟨h.own.alloc _, h.below.trans ((Below.refl _ _).alloc (Nat.le_trans hB h.below.size) _), h.kept.trans ((Lib.OthersKept.refl _ _ _).alloc _)⟩
/-- On the way through the fields. -/
def ObjInv (B : Nat) (l : List UInt8) (fs : List (ByteArray × FV)) (n : Nat) (w : World) (v i : Value) (wr : World) : Prop :=
  ∃ (A : Option Addr) (m c k : Nat), v = .slice A m c ∧ i = .int .i64 k ∧ k ≤ n ∧ wr.ownsRow B 5 1 (.slice A m c) m (bytesV (l ++ [123] ++ commaL ((fs.take k).map fieldL))) ∧ Below B w wr ∧ Lib.OthersKept 5 none w wr
set_option maxRecDepth 100000 in
set_option maxHeartbeats 2000000 in
theorem object_any (B : Nat) (A : Option Addr) (m c : Nat) (l : List UInt8) (fb fo n fc : Nat) (fs : List (ByteArray × FV)) (w : World) (hown : w.ownsRow B 5 1 (.slice A m c) m (bytesV l)) (hm : m ≤ 140737480000000) (hB : B ≤ w.heap.size) (hn : fs.length = n) (h5 : n ≤ 5)
    (hok : ∀ f ∈ fs, f.1.size ≤ 100 ∧ FvOk f.2) (hF : FldAt B w fb fo fs) (htab : Lib.TabBelow Tryz.prog B w "internal/strconv.uint64pow10" .u64 Lib.pow10Tab) :
    Calls Tryz.prog 59 #[.slice A m c, .slice (some ⟨fb, fo, none⟩) n fc] w (JPost B (l ++ objL fs) w) := by
  have hl : l.length = m := by have := hown.1; simpa [bytesV] using this
  have Hl := Lib.hid hl
  have Hm := Lib.hid hm
  have Ho := Lib.hid hown
  have HF := Lib.hid hF
  have HT := Lib.hid htab
  have Hok := Lib.hid hok
  clear hm hl hown hF htab hok
  go_enter Tryz.func59, Tryz.ntmps59
  go_wp2_with (at_builtin; refine push_u8 rfl _ _ rfl B _ _ _ _ rfl Ho.out _ 123 rfl rfl (by have := Hm.out; omega) hB ?_; intro A1 c1 w1 ho1 hg1)
  go_loopw [0, 12] (fun v i wr => ObjInv B l fs n w v i wr) (fun _ i _ => n - (intOf i).toNat)
  case atStart => exact ⟨A1, m + 1, c1, 0, rfl, rfl, Nat.zero_le _, by simpa [commaL] using ho1, hg1.below hB (fun k hk => (Ho.out.lt k hk).1), kept_grew Ho.out hg1⟩
  case round =>
    clear ho1 hg1
    obtain ⟨A', m', c', k, rfl, rfl, hk, ho, hb, hkp⟩ := hrel
    have hA0 : At2 B w (l ++ [123] ++ commaL ((fs.take k).map fieldL)) wr A' m' c' := ⟨ho, hb, hkp⟩
    have hlen : m' ≤ 140737480010000 := by
      have e2 := ho.1
      have e3 := commaL_len (L := 1210) ((fs.take k).map fieldL) (fun x hx => by
        obtain ⟨f, hf, rfl⟩ := List.mem_map.1 hx
        have := Hok.out f (List.mem_of_mem_take hf)
        exact fieldL_len f this.1 this.2)
      simp only [bytesV_length, List.length_append, List.length_map, List.length_take, List.length_cons, List.length_nil] at e2 e3
      have := Hl.out
      have := Hm.out
      have h6 : min k fs.length * (1210 + 1) ≤ 5 * 1211 := Nat.mul_le_mul (by omega) (Nat.le_refl _)
      omega
    by_cases hlt : k < n
    · obtain ⟨⟨nm, v⟩, hf⟩ : ∃ f, fs[k]? = some f := ⟨_, List.getElem?_eq_getElem (by omega)⟩
      have hF' := HF.out.kept hb hkp
      obtain ⟨p, q, x0, x1, x2, hv⟩ := hF'.at_ k nm v hf
      have hfo := Hok.out _ (List.mem_of_getElem? hf)
      have hfl := block_lt_of_cell x0
      have Hst := Lib.hid (commaL_take fieldL hf)
      have hsz : nm.size ≤ 100 := hfo.1
      have hq1 : (quoteL nm.data.toList).length ≤ 602 := quoteL_len nm hfo.1
      have Hfv := Lib.hid hfo.2
      cases v with
      | num x =>
        obtain ⟨rfl, pb, po, rfl, hpl, hpc⟩ := hv
        have hbase : B ≤ wr.heap.size := Nat.le_trans hB hb.size
        have HJ := Lib.hid (show Blk (wr.alloc (.cells #[.string nm, .pointer (some ⟨pb, po, none⟩), .pointer none] 72)) wr.heap.size 72 #[.string nm, .pointer (some ⟨pb, po, none⟩), .pointer none] from heap_alloc_new wr _)
        have hA1 := Lib.hid (hA0.alloc hB (.cells #[.string nm, .pointer (some ⟨pb, po, none⟩), .pointer none] 72))
        have Hpc := Lib.hid (show (wr.alloc (.cells #[.string nm, .pointer (some ⟨pb, po, none⟩), .pointer none] 72)).cell? ⟨pb, po, none⟩ = some (.int .i64 x) from ((Below.refl B wr).alloc hbase _ |>.cell (p := ⟨pb, po, none⟩) hpl).trans hpc)
        have hx0 : -9223372036854775807 ≤ x := Hfv.out.1
        have hx1 : x ≤ 9223372036854775807 := Hfv.out.2
        have hlw : wr.heap.size < (wr.alloc (.cells #[.string nm, .pointer (some ⟨pb, po, none⟩), .pointer none] 72)).heap.size := by simp
        clear ho hb hkp hF' hf hfo hpc hA0
        by_cases hk0 : k = 0
        · subst hk0
          simp only [Nat.zero_mul, Nat.add_zero] at x0 x1 x2
          have c0 := HJ.out.cell 0
          have c1' := HJ.out.cell 1
          have c2' := HJ.out.cell 2
          simp only [List.getElem?_toArray, List.getElem?_cons_zero, List.getElem?_cons_succ] at c0 c1' c2'
          go_wp2_with fail
          refine Calls.mono (jquote B _ _ _ _ nm _ hA1.out.own (by omega) (Nat.le_trans hB hA1.out.below.size)) ?_
          clear c0 c1' c2' x0 x1 x2
          rintro e w3 ⟨A3, m3, c3, rfl, ho3, hb3, hk3⟩
          have hA3 := Lib.hid ((hA1.out).post ho3 hb3 hk3)
          have HJ3 := Lib.hid ((HJ.out).keptO (by decide) hk3)
          have Hpc3 := Lib.hid ((hb3.cell (p := ⟨pb, po, none⟩) hpl).trans Hpc.out)
          have hm3 : m3 ≤ 140737480010610 := by
            have e3 := hA3.out.len
            have e2 := (hA1.out).len
            simp only [List.length_append] at e3 e2
            omega
          clear ho3 hb3 hk3
          go_wp2_with (at_builtin; refine push_u8 rfl _ _ rfl B _ _ _ _ rfl hA3.out.own _ 58 rfl rfl (by omega) (Nat.le_trans hB hA3.out.below.size) ?_; intro A4 c4 w4 ho4 hg4; have hk4 := (kept_grew hA3.out.own hg4); have hb4 := hg4.below (Nat.le_trans hB hA3.out.below.size) (fun k hk => (hA3.out.own.lt k hk).1); have hA4 := Lib.hid (hA3.out.grew hB ho4 hg4); have y1 := (HJ3.out.keptO (by decide) hk4).cell 1; have y2 := (HJ3.out.keptO (by decide) hk4).cell 2; have y3 := (hb4.cell (p := ⟨pb, po, none⟩) hpl).trans Hpc3.out; clear ho4 hg4 hk4 hb4; simp only [List.getElem?_toArray, List.getElem?_cons_zero, List.getElem?_cons_succ] at y1 y2)
          refine Calls.mono (jint B _ _ _ _ x (by omega) (by omega) _ hA4.out.own (Nat.le_trans hB hA4.out.below.size) (by omega) (HT.out.on hA4.out.below)) ?_
          clear y1 y2 y3
          rintro e w5 ⟨A5, m5, c5, rfl, ho5, hb5, hk5⟩
          have hA5 := Lib.hid (hA4.out.post ho5 hb5 hk5)
          clear ho5 hb5 hk5
          go_wp2_with fail
          go_roundw
          case rel => exact ⟨A5, m5, c5, 0 + 1, rfl, by go_num, by omega, by
            have h := hA5.out.own
            rw [Hst.out, if_pos (by trivial)]
            simpa [fieldL, fvL, commaL, List.append_assoc] using h, hA5.out.below, hA5.out.kept⟩
          case measure => simp [intOf]; omega
        · have d1 : decide ((0 : Int) < (k : Int)) = true := decide_eq_true (by omega)
          go_wp2_with (at_builtin; refine push_u8g (wr.heap.size + 1) (by simp) rfl _ _ rfl B _ _ _ _ rfl hA1.out.own _ 44 rfl rfl (by omega) (Nat.le_trans hB hA1.out.below.size) ?_; intro A2 m2c w2 ho2 hg2; have hA2 := Lib.hid (hA1.out.grew hB ho2 hg2); have hk2 := (kept_grew hA1.out.own hg2); have hb2 := hg2.below (Nat.le_trans hB hA1.out.below.size) (fun k hk => (hA1.out.own.lt k hk).1); have c0 := (HJ.out.keptO (by decide) hk2).cell 0; have hJ2 := Lib.hid (HJ.out.keptO (by decide) hk2); have hpc2 := Lib.hid ((hb2.cell (p := ⟨pb, po, none⟩) hpl).trans Hpc.out); clear ho2 hg2 hk2 hb2; simp only [List.getElem?_toArray, List.getElem?_cons_zero, List.getElem?_cons_succ] at c0)
          refine Calls.mono (jquote B _ _ _ _ nm _ hA2.out.own (by omega) (Nat.le_trans hB hA2.out.below.size)) ?_
          clear c0 x0 x1 x2 d1
          rintro e w3 ⟨A3, m3, c3, rfl, ho3, hb3, hk3⟩
          have hA3 := Lib.hid ((hA2.out).post ho3 hb3 hk3)
          have HJ3 := Lib.hid ((hJ2.out).keptO (by decide) hk3)
          have Hpc3 := Lib.hid ((hb3.cell (p := ⟨pb, po, none⟩) hpl).trans hpc2.out)
          have hm3 : m3 ≤ 140737480010610 := by
            have e3 := hA3.out.len
            have e2 := (hA2.out).len
            simp only [List.length_append] at e3 e2
            omega
          clear ho3 hb3 hk3
          go_wp2_with (at_builtin; refine push_u8 rfl _ _ rfl B _ _ _ _ rfl hA3.out.own _ 58 rfl rfl (by omega) (Nat.le_trans hB hA3.out.below.size) ?_; intro A4 c4 w4 ho4 hg4; have hk4 := (kept_grew hA3.out.own hg4); have hb4 := hg4.below (Nat.le_trans hB hA3.out.below.size) (fun k hk => (hA3.out.own.lt k hk).1); have hA4 := Lib.hid (hA3.out.grew hB ho4 hg4); have y1 := (HJ3.out.keptO (by decide) hk4).cell 1; have y2 := (HJ3.out.keptO (by decide) hk4).cell 2; have y3 := (hb4.cell (p := ⟨pb, po, none⟩) hpl).trans Hpc3.out; clear ho4 hg4 hk4 hb4; simp only [List.getElem?_toArray, List.getElem?_cons_zero, List.getElem?_cons_succ] at y1 y2)
          refine Calls.mono (jint B _ _ _ _ x (by omega) (by omega) _ hA4.out.own (Nat.le_trans hB hA4.out.below.size) (by omega) (HT.out.on hA4.out.below)) ?_
          clear y1 y2 y3
          rintro e w5 ⟨A5, m5, c5, rfl, ho5, hb5, hk5⟩
          have hA5 := Lib.hid (hA4.out.post ho5 hb5 hk5)
          clear ho5 hb5 hk5
          go_wp2_with fail
          go_roundw
          case rel => exact ⟨A5, m5, c5, k + 1, rfl, by go_num, by omega, by
            have h := hA5.out.own
            rw [Hst.out, if_neg hk0]
            simpa [fieldL, fvL, commaL, List.append_assoc] using h, hA5.out.below, hA5.out.kept⟩
          case measure => simp [intOf]; omega
      | txt s =>
        obtain ⟨rfl, pb, po, rfl, hpl, hpc⟩ := hv
        have hbase : B ≤ wr.heap.size := Nat.le_trans hB hb.size
        have HJ := Lib.hid (show Blk (wr.alloc (.cells #[.string nm, .pointer none, .pointer (some ⟨pb, po, none⟩)] 72)) wr.heap.size 72 #[.string nm, .pointer none, .pointer (some ⟨pb, po, none⟩)] from heap_alloc_new wr _)
        have hA1 := Lib.hid (hA0.alloc hB (.cells #[.string nm, .pointer none, .pointer (some ⟨pb, po, none⟩)] 72))
        have Hpc := Lib.hid (show (wr.alloc (.cells #[.string nm, .pointer none, .pointer (some ⟨pb, po, none⟩)] 72)).cell? ⟨pb, po, none⟩ = some (.string s) from ((Below.refl B wr).alloc hbase _ |>.cell (p := ⟨pb, po, none⟩) hpl).trans hpc)
        have hsv : s.size ≤ 100 := Hfv.out
        have hq2 : (quoteL s.data.toList).length ≤ 602 := quoteL_len s Hfv.out
        have hlw : wr.heap.size < (wr.alloc (.cells #[.string nm, .pointer none, .pointer (some ⟨pb, po, none⟩)] 72)).heap.size := by simp
        clear ho hb hkp hF' hf hfo hpc hA0
        by_cases hk0 : k = 0
        · subst hk0
          simp only [Nat.zero_mul, Nat.add_zero] at x0 x1 x2
          have c0 := HJ.out.cell 0
          have c1' := HJ.out.cell 1
          have c2' := HJ.out.cell 2
          simp only [List.getElem?_toArray, List.getElem?_cons_zero, List.getElem?_cons_succ] at c0 c1' c2'
          go_wp2_with fail
          refine Calls.mono (jquote B _ _ _ _ nm _ hA1.out.own (by omega) (Nat.le_trans hB hA1.out.below.size)) ?_
          clear c0 c1' c2' x0 x1 x2
          rintro e w3 ⟨A3, m3, c3, rfl, ho3, hb3, hk3⟩
          have hA3 := Lib.hid ((hA1.out).post ho3 hb3 hk3)
          have HJ3 := Lib.hid ((HJ.out).keptO (by decide) hk3)
          have Hpc3 := Lib.hid ((hb3.cell (p := ⟨pb, po, none⟩) hpl).trans Hpc.out)
          have hm3 : m3 ≤ 140737480010610 := by
            have e3 := hA3.out.len
            have e2 := (hA1.out).len
            simp only [List.length_append] at e3 e2
            omega
          clear ho3 hb3 hk3
          go_wp2_with (at_builtin; refine push_u8 rfl _ _ rfl B _ _ _ _ rfl hA3.out.own _ 58 rfl rfl (by omega) (Nat.le_trans hB hA3.out.below.size) ?_; intro A4 c4 w4 ho4 hg4; have hk4 := (kept_grew hA3.out.own hg4); have hb4 := hg4.below (Nat.le_trans hB hA3.out.below.size) (fun k hk => (hA3.out.own.lt k hk).1); have hA4 := Lib.hid (hA3.out.grew hB ho4 hg4); have y1 := (HJ3.out.keptO (by decide) hk4).cell 1; have y2 := (HJ3.out.keptO (by decide) hk4).cell 2; have y3 := (hb4.cell (p := ⟨pb, po, none⟩) hpl).trans Hpc3.out; clear ho4 hg4 hk4 hb4; simp only [List.getElem?_toArray, List.getElem?_cons_zero, List.getElem?_cons_succ] at y1 y2)
          refine Calls.mono (jquote B _ _ _ _ s _ hA4.out.own (by omega) (Nat.le_trans hB hA4.out.below.size)) ?_
          clear y1 y2 y3
          rintro e w5 ⟨A5, m5, c5, rfl, ho5, hb5, hk5⟩
          have hA5 := Lib.hid (hA4.out.post ho5 hb5 hk5)
          clear ho5 hb5 hk5
          go_wp2_with fail
          go_roundw
          case rel => exact ⟨A5, m5, c5, 0 + 1, rfl, by go_num, by omega, by
            have h := hA5.out.own
            rw [Hst.out, if_pos (by trivial)]
            simpa [fieldL, fvL, commaL, List.append_assoc] using h, hA5.out.below, hA5.out.kept⟩
          case measure => simp [intOf]; omega
        · have d1 : decide ((0 : Int) < (k : Int)) = true := decide_eq_true (by omega)
          go_wp2_with (at_builtin; refine push_u8g (wr.heap.size + 1) (by simp) rfl _ _ rfl B _ _ _ _ rfl hA1.out.own _ 44 rfl rfl (by omega) (Nat.le_trans hB hA1.out.below.size) ?_; intro A2 m2c w2 ho2 hg2; have hA2 := Lib.hid (hA1.out.grew hB ho2 hg2); have hk2 := (kept_grew hA1.out.own hg2); have hb2 := hg2.below (Nat.le_trans hB hA1.out.below.size) (fun k hk => (hA1.out.own.lt k hk).1); have c0 := (HJ.out.keptO (by decide) hk2).cell 0; have hJ2 := Lib.hid (HJ.out.keptO (by decide) hk2); have hpc2 := Lib.hid ((hb2.cell (p := ⟨pb, po, none⟩) hpl).trans Hpc.out); clear ho2 hg2 hk2 hb2; simp only [List.getElem?_toArray, List.getElem?_cons_zero, List.getElem?_cons_succ] at c0)
          refine Calls.mono (jquote B _ _ _ _ nm _ hA2.out.own (by omega) (Nat.le_trans hB hA2.out.below.size)) ?_
          clear c0 x0 x1 x2 d1
          rintro e w3 ⟨A3, m3, c3, rfl, ho3, hb3, hk3⟩
          have hA3 := Lib.hid ((hA2.out).post ho3 hb3 hk3)
          have HJ3 := Lib.hid ((hJ2.out).keptO (by decide) hk3)
          have Hpc3 := Lib.hid ((hb3.cell (p := ⟨pb, po, none⟩) hpl).trans hpc2.out)
          have hm3 : m3 ≤ 140737480010610 := by
            have e3 := hA3.out.len
            have e2 := (hA2.out).len
            simp only [List.length_append] at e3 e2
            omega
          clear ho3 hb3 hk3
          go_wp2_with (at_builtin; refine push_u8 rfl _ _ rfl B _ _ _ _ rfl hA3.out.own _ 58 rfl rfl (by omega) (Nat.le_trans hB hA3.out.below.size) ?_; intro A4 c4 w4 ho4 hg4; have hk4 := (kept_grew hA3.out.own hg4); have hb4 := hg4.below (Nat.le_trans hB hA3.out.below.size) (fun k hk => (hA3.out.own.lt k hk).1); have hA4 := Lib.hid (hA3.out.grew hB ho4 hg4); have y1 := (HJ3.out.keptO (by decide) hk4).cell 1; have y2 := (HJ3.out.keptO (by decide) hk4).cell 2; have y3 := (hb4.cell (p := ⟨pb, po, none⟩) hpl).trans Hpc3.out; clear ho4 hg4 hk4 hb4; simp only [List.getElem?_toArray, List.getElem?_cons_zero, List.getElem?_cons_succ] at y1 y2)
          refine Calls.mono (jquote B _ _ _ _ s _ hA4.out.own (by omega) (Nat.le_trans hB hA4.out.below.size)) ?_
          clear y1 y2 y3
          rintro e w5 ⟨A5, m5, c5, rfl, ho5, hb5, hk5⟩
          have hA5 := Lib.hid (hA4.out.post ho5 hb5 hk5)
          clear ho5 hb5 hk5
          go_wp2_with fail
          go_roundw
          case rel => exact ⟨A5, m5, c5, k + 1, rfl, by go_num, by omega, by
            have h := hA5.out.own
            rw [Hst.out, if_neg hk0]
            simpa [fieldL, fvL, commaL, List.append_assoc] using h, hA5.out.below, hA5.out.kept⟩
          case measure => simp [intOf]; omega
    · have hkn : k = n := by omega
      have Hall := Lib.hid (show fs.take k = fs from List.take_of_length_le (by omega))
      go_wp2_with (at_builtin; refine push_u8 rfl _ _ rfl B _ _ _ _ rfl hA0.own _ 125 rfl rfl (by omega) (Nat.le_trans hB hA0.below.size) ?_; intro A2 c2 w2 ho2 hg2)
      go_ret
      have hA2 := hA0.grew hB ho2 hg2
      refine ⟨A2, m' + 1, c2, rfl, ?_, hA2.below, hA2.kept⟩
      have h := hA2.own
      rw [Hall.out] at h
      simpa [objL, List.append_assoc] using h
end Go.Proofs.YtcodhhabfacnjaaGreatDoor
