/- What the walks of Down share. -/
import Derived.Test.YtbbagnfmoecdfaaDoorUp
import Derived.Test.YtbbagnfmoecdfaaDoorRPhQ
import Derived.Test.YtbbagnfmoecdfaaDoorPlDown
import Derived.Test.YtbbagnfmoecdfaaDoorSlEq
import Derived.Test.YtbbagnfmoecdfaaDoorStTop
import Derived.Test.YtbbagnfmoecdfaaDoorWDec
set_option linter.unusedVariables false
set_option linter.unusedSimpArgs false
namespace Go.Proofs.YtbbagnfmoecdfaaDoor
open Go.RowKit
def DnPost (st : StateD) (c : Int) (w : World) (e : Ending) (w' : World) : Prop :=
  ∃ (st' : StateD) (x' : StA) (t : Bool) (E : Int), e = .returned (.tuple #[.agg (stC st' x'), .bool t, .int .i64 E]) ∧ downF st c = (st', t, E) ∧ StAt w' w'.heap.size st' x' ∧ Below w.heap.size w w'
theorem DnPost.none_ {st : StateD} {c E : Int} {w w' : World} (h : downF st c = (zeroSt, false, E)) (hb : Below w.heap.size w w') : DnPost st c w (.returned (.tuple #[.agg #[.int .i64 0, .slice none 0 0, .slice none 0 0, .slice none 0 0], .bool false, .int .i64 E])) w' :=
  ⟨zeroSt, nilA, false, E, rfl, h, zeroAt _ _, hb⟩
theorem want_of {ops : Array Oper} {o p : Oper} {a : Act} {j t : Nat} {b : Bool} (h1 : ops[j]? = some p) (h2 : p.dst = some t) (h3 : a.tmps[t]? = some (.bool b)) (h4 : o.guard = some (j, true)) : Region.wanted o (yielded ops a.tmps) = b := by
  unfold Region.wanted yielded
  rw [h4]
  simp only [h1, Option.bind_some, h2, h3]
  cases b <;> rfl
theorem wantWp_guard {P : Program} {ops : Array Oper} {o p : Oper} {a : Act} {w : World} {j t : Nat} {b : Bool} {K : Act → World → Prop} {Q : Exit → Act → World → Prop} (h1 : ops[j]? = some p) (h2 : p.dst = some t) (h4 : o.guard = some (j, true)) (h3 : ∃ u, a.tmps[t]? = some u ∧ u = .bool b) (hf : b = false → K (a.put o.dst undef) w) (ht : b = true → o.wp P a w K Q) : wantWp P ops o a w K Q := by
  obtain ⟨u, h3, rfl⟩ := h3
  unfold wantWp
  rw [want_of h1 h2 h3 h4]
  cases b with
  | true => rw [if_pos rfl]; exact ht rfl
  | false => rw [if_neg (by decide)]; exact hf rfl
theorem wantWp_free {P : Program} {ops : Array Oper} {o : Oper} {a : Act} {w : World} {K : Act → World → Prop} {Q : Exit → Act → World → Prop} (h : o.guard = none) (ht : o.wp P a w K Q) : wantWp P ops o a w K Q := by
  unfold wantWp Region.wanted
  rw [h, if_pos rfl]
  exact ht
/-- Loops of Down: the state's box, the result's, the new state's, its rows as they stand. -/
structure DnAt (w0 wr : World) (base D : Nat) (c0 cd : Array Value) (st : StateD) (x : StA) : Prop where
  below : Below w0.heap.size w0 wr
  box : Blk wr w0.heap.size 26 c0
  res : Blk wr (w0.heap.size + 1) 26 #[.int .i64 0, .slice none 0 0, .slice none 0 0, .slice none 0 0]
  new : Blk wr D 26 cd
  own : StOwn wr base st x
  le : w0.heap.size + 2 ≤ base ∧ w0.heap.size + 2 ≤ D
theorem DnAt.setJ {w0 w : World} {base D b i : Nat} {c0 cd cj : Array Value} {st st' : StateD} {x : StA} {u : Value} (h : DnAt w0 w base D c0 cd st x) (hb : base ≤ b) (hj : w.heap[b]? = some (.cells cj 49 (0, 0))) (ho : (w.setCell ⟨b, i, none⟩ u).ownsRow base 49 5 (.slice x.aj x.nj x.cj) x.nj (rowsV jobV st'.jobs)) (e1 : st'.nodes = st.nodes) (e2 : st'.leases = st.leases) (e3 : st'.jobs.length = st.jobs.length) : DnAt w0 (w.setCell ⟨b, i, none⟩ u) base D c0 cd st' x :=
  ⟨below_setB h.below (by have := h.le; omega), blk_setOther h.box hj (by decide), blk_setOther h.res hj (by decide), blk_setOther h.new hj (by decide), ⟨ho, by rw [e1]; exact own_setOther h.own.n hj (by decide), by rw [e2]; exact own_setOther h.own.l hj (by decide), e3.trans h.own.lj, by rw [e1]; exact h.own.ln, by rw [e2]; exact h.own.ll⟩, h.le⟩
theorem DnAt.setN {w0 w : World} {base D b i : Nat} {c0 cd cj : Array Value} {st st' : StateD} {x : StA} {u : Value} (h : DnAt w0 w base D c0 cd st x) (hb : base ≤ b) (hj : w.heap[b]? = some (.cells cj 54 (0, 0))) (ho : (w.setCell ⟨b, i, none⟩ u).ownsRow base 54 3 (.slice x.an x.nn x.cn) x.nn (rowsV nodeV st'.nodes)) (e1 : st'.jobs = st.jobs) (e2 : st'.leases = st.leases) (e3 : st'.nodes.length = st.nodes.length) : DnAt w0 (w.setCell ⟨b, i, none⟩ u) base D c0 cd st' x :=
  ⟨below_setB h.below (by have := h.le; omega), blk_setOther h.box hj (by decide), blk_setOther h.res hj (by decide), blk_setOther h.new hj (by decide), ⟨by rw [e1]; exact own_setOther h.own.j hj (by decide), ho, by rw [e2]; exact own_setOther h.own.l hj (by decide), by rw [e1]; exact h.own.lj, e3.trans h.own.ln, by rw [e2]; exact h.own.ll⟩, h.le⟩
theorem downSt_ok {st : StateD} {c : Int} (hj : JobsOk st.jobs) (hn : NodesOk st.nodes) : JobsOk (st.jobs.map (downJ c)) ∧ NodesOk (st.nodes.map (downN c)) := by
  refine ⟨fun y hy => ?_, fun y hy => ?_⟩
  · obtain ⟨x, hx, rfl⟩ := List.mem_map.1 hy
    refine ⟨(hj x hx).1, ?_⟩
    show (if c < 3 then (⟨#[]⟩ : ByteArray) else x.tag).size ≤ _
    split
    · exact Nat.zero_le _
    · exact (hj x hx).2
  · obtain ⟨x, hx, rfl⟩ := List.mem_map.1 hy
    refine ⟨(hn x hx).1, ?_⟩
    show (if c < 2 then (⟨#[]⟩ : ByteArray) else x.zone).size ≤ _
    split
    · exact Nat.zero_le _
    · exact (hn x hx).2
/-- The last region. -/
def dnV (S U : Nat) (cd : Array Value) (u s : StateD) (xu xs : StA) (b t1 t2 : Bool) : Nat → Value → Prop
  | 0, v => v = .agg cd
  | 1, v => v = .pointer (some ⟨U, 0, none⟩)
  | 2, v => v = .int .i64 u.rev
  | 3, v => v = .pointer (some ⟨S, 0, none⟩)
  | 4, v => v = .int .i64 s.rev
  | 5, v => v = .bool b
  | 6, v => v = .bool b
  | 7, v => b = true → v = .pointer (some ⟨U, 1, none⟩)
  | 8, v => b = true → v = .slice xu.aj xu.nj xu.cj
  | 9, v => b = true → v = .pointer (some ⟨S, 1, none⟩)
  | 10, v => b = true → v = .slice xs.aj xs.nj xs.cj
  | 11, v => b = true → v = .bool t1
  | 12, v => v = .bool (b && t1)
  | 13, v => v = .bool (b && t1)
  | 14, v => (b && t1) = true → v = .pointer (some ⟨U, 2, none⟩)
  | 15, v => (b && t1) = true → v = .slice xu.an xu.nn xu.cn
  | 16, v => (b && t1) = true → v = .pointer (some ⟨S, 2, none⟩)
  | 17, v => (b && t1) = true → v = .slice xs.an xs.nn xs.cn
  | 18, v => (b && t1) = true → v = .bool t2
  | 19, v => v = .bool (b && t1 && t2)
  | 21, v => v = .bool (b && t1 && t2)
  | 22, v => v = .int .i64 0
  | _, _ => True
structure DnEnd (w0 : World) (bd bu D U : Nat) (s d u : StateD) (xs xd xu : StA) (p : Nat) (w : World) : Prop where
  below : Below w0.heap.size w0 w
  box : Blk w w0.heap.size 26 (stC s xs)
  new : Blk w D 26 (stC d xd)
  up : Blk w U 26 (stC u xu)
  res : Blk w (w0.heap.size + 1) 26 (if p < 5 then #[.int .i64 0, .slice none 0 0, .slice none 0 0, .slice none 0 0] else stC d xd)
  ownd : StOwn w bd d xd
  ownu : StOwn w bu u xu
  le : w0.heap.size + 2 ≤ bd ∧ w0.heap.size + 2 ≤ bu ∧ w0.heap.size + 2 ≤ D ∧ w0.heap.size + 2 ≤ U
theorem DnEnd.kept {w0 w w' : World} {bd bu D U p q : Nat} {s d u : StateD} {xs xd xu : StA} (h : DnEnd w0 bd bu D U s d u xs xd xu p w) (hb : Below w.heap.size w w') (hq : (p < 5) = (q < 5)) : DnEnd w0 bd bu D U s d u xs xd xu q w' :=
  ⟨h.below.trans (hb.mono h.below.size), h.box.below hb h.box.lt, h.new.below hb h.new.lt, h.up.below hb h.up.lt, by have := h.res.below hb h.res.lt; simpa only [hq] using this, h.ownd.kept hb, h.ownu.kept hb, h.le⟩
theorem DnEnd.store {w0 w : World} {bd bu D U : Nat} {s d u : StateD} {xs xd xu : StA} (h : DnEnd w0 bd bu D U s d u xs xd xu 4 w) : DnEnd w0 bd bu D U s d u xs xd xu 5 ((((w.setCell ⟨w0.heap.size + 1, 0, none⟩ (.int .i64 d.rev)).setCell ⟨w0.heap.size + 1, 1, none⟩ (.slice xd.aj xd.nj xd.cj)).setCell ⟨w0.heap.size + 1, 2, none⟩ (.slice xd.an xd.nn xd.cn)).setCell ⟨w0.heap.size + 1, 3, none⟩ (.slice xd.al xd.nl xd.cl)) := by
  have hG := bes_set (bes_set (bes_set (bes_set (grow_refl w (w0.heap.size + 1)) 0 (.int .i64 d.rev)) 1 (.slice xd.aj xd.nj xd.cj)) 2 (.slice xd.an xd.nn xd.cn)) 3 (.slice xd.al xd.nl xd.cl)
  have hl := h.le
  have hR : Blk w (w0.heap.size + 1) 26 #[.int .i64 0, .slice none 0 0, .slice none 0 0, .slice none 0 0] := h.res
  exact ⟨grow_keep h.below hG (by omega), grow_blk hG h.box (by omega), grow_blk hG h.new (by omega), grow_blk hG h.up (by omega), Blk.eq ((((hR.set 0 (.int .i64 d.rev)).set 1 (.slice xd.aj xd.nj xd.cj)).set 2 (.slice xd.an xd.nn xd.cn)).set 3 (.slice xd.al xd.nl xd.cl)) rfl, h.ownd.grow hG (by omega), h.ownu.grow hG (by omega), h.le⟩
end Go.Proofs.YtbbagnfmoecdfaaDoor
