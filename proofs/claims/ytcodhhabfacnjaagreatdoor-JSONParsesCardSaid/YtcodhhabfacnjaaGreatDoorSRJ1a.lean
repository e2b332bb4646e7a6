/- Of the proof of a statement: RJ1a. -/
import Derived.Test.YtcodhhabfacnjaaGreatDoorSSrcQ
set_option linter.unusedVariables false
set_option linter.unusedSimpArgs false
/- The walk of the closure in the reference's JSONParse. -/
namespace Go.Proofs.YtcodhhabfacnjaaGreatDoor
open Go.RowKit
/-- On the way: the source, the state's block, its rows. -/
structure JcAt (W0 : World) (g S : Nat) (st : StateD) (x : StA) (s : ByteArray) (w : World) : Prop where
  sx : SxAt w g s
  box : Blk w S 26 (stC st x)
  own : StOwn w W0.heap.size st x
  two : Two W0 w g S
  oj : JobsOk st.jobs
  on_ : NodesOk st.nodes
  ol : LeasesOk st.leases
  sz : s.size ≤ 60000
  lj : st.jobs.length ≤ 60000
  ln : st.nodes.length ≤ 60000
  ll : st.leases.length ≤ 60000
section
variable {W0 w w' : World} {g S : Nat} {st st' : StateD} {x x' : StA} {s s' : ByteArray}
theorem JcAt.call (h : JcAt W0 g S st x s w) (hx : SxAt w' g s') (hg : w.grownBy w' (some g)) (hs : s'.size ≤ 60000) (h1 : g < W0.heap.size) (h2 : S ≠ g) : JcAt W0 g S st x s' w' :=
  ⟨hx, grow_blk hg h.box h2, h.own.grow hg h1, h.two.fst hg, h.oj, h.on_, h.ol, hs, h.lj, h.ln, h.ll⟩
theorem JcAt.up (h : JcAt W0 g S st x s w) (hb : Below w.heap.size w w') (h1 : g < W0.heap.size) (h2 : S ≠ g) : JcAt W0 g S st x s w' :=
  h.call (h.sx.below hb) (grow_below g hb) h.sz h1 h2
end
/-- What stands, though a call fell. -/
structure JcK (W0 : World) (g S : Nat) (st : StateD) (x : StA) (w : World) : Prop where
  box : Blk w S 26 (stC st x)
  own : StOwn w W0.heap.size st x
  two : Two W0 w g S
  oj : JobsOk st.jobs
  on_ : NodesOk st.nodes
  ol : LeasesOk st.leases
  lj : st.jobs.length ≤ 60000
  ln : st.nodes.length ≤ 60000
  ll : st.leases.length ≤ 60000
theorem JcAt.lost {W0 w w' : World} {g S : Nat} {st : StateD} {x : StA} {s : ByteArray} (h : JcAt W0 g S st x s w) (hg : w.grownBy w' (some g)) (h1 : g < W0.heap.size) (h2 : S ≠ g) : JcK W0 g S st x w' :=
  ⟨grow_blk hg h.box h2, h.own.grow hg h1, h.two.fst hg, h.oj, h.on_, h.ol, h.lj, h.ln, h.ll⟩
/-- What the closure leaves. -/
def JcPost (g S : Nat) (R : RR StateD) (w : World) (e : Ending) (w' : World) : Prop :=
  ∃ st x, JcK w g S st x w' ∧ (match R with | .ok st2 r => st2 = st ∧ e = .returned (.tuple #[]) ∧ SxAt w' g r | .bad y => e = thrown y)
theorem JcPost.bad {W0 w : World} {g S y : Nat} {R : RR StateD} {st : StateD} {x : StA} (hR : RR.bad y = R) (h : JcK W0 g S st x w) : JcPost g S R W0 (thrown y) w := by
  subst hR; exact ⟨st, x, h, rfl⟩
theorem JcPost.ok {W0 w : World} {g S : Nat} {R : RR StateD} {st : StateD} {x : StA} {s : ByteArray} (hR : RR.ok st s = R) (h : JcAt W0 g S st x s w) : JcPost g S R W0 (.returned (.tuple #[])) w := by
  subst hR; exact ⟨st, x, ⟨h.box, h.own, h.two, h.oj, h.on_, h.ol, h.lj, h.ln, h.ll⟩, rfl, rfl, h.sx⟩
theorem bad_up {α β : Type} {x : RR α} {f : α → ByteArray → RR β} {R : RR β} {y : Nat} (h : x.bind f = R) (hx : RR.bad y = x) : RR.bad y = R := by subst hx; exact h
theorem bad_here {α β : Type} {x : RR α} {f : α → ByteArray → RR β} {R : RR β} {y : Nat} (h : x.bind f = R) (hx : x = .bad y) : RR.bad y = R := by subst hx; exact h
theorem ok_here {α β : Type} {x : RR α} {f : α → ByteArray → RR β} {R : RR β} {a : α} {r : ByteArray} (h : x.bind f = R) (hx : x = .ok a r) : f a r = R := by subst hx; exact h
/-- The revision laid into the state. -/
theorem JcAt.setRev {W0 w : World} {g S : Nat} {st : StateD} {x : StA} {s : ByteArray} (h : JcAt W0 g S st x s w) (n : Int) (h2 : S < W0.heap.size) (h3 : S ≠ g) : JcAt W0 g S ⟨n, st.jobs, st.nodes, st.leases⟩ x s (w.setCell ⟨S, 0, none⟩ (.int .i64 n)) := by
  have hs := grow_set w S 0 (.int .i64 n)
  have hO := h.own.grow hs h2
  exact ⟨h.sx.grow hs (Ne.symm h3), Blk.eq (Blk.set h.box 0 _) rfl, ⟨hO.j, hO.n, hO.l, hO.lj, hO.ln, hO.ll⟩, h.two.snd hs, h.oj, h.on_, h.ol, h.sz, h.lj, h.ln, h.ll⟩
theorem own_but {w w' : World} {base J n sz : Nat} {e : TypeId} {v : Value} {xs : List Value} (ho : w.ownsRow base e sz v n xs) (hg : w.grownBy w' (some J)) (hv : ∀ k, v.ownBlock = some k → k ≠ J) : w'.ownsRow base e sz v n xs := by
  rcases ho with ⟨h1, h | ⟨q, cap, cur, hq0, hq, hgq, r⟩⟩
  · exact ⟨h1, .inl h⟩
  · have hlt : q < w.heap.size := (Array.getElem?_eq_some_iff.1 hgq).1
    have hne : q ≠ J := hv q (by rw [hq0]; rfl)
    exact ⟨h1, .inr ⟨q, cap, cur, hq0, hq, (hg.block q hlt (by simp [hne])).trans hgq, r⟩⟩
theorem Two.free {w u v : World} {a b J : Nat} (h : Two w u a b) (hg : u.grownBy v (some J)) (hJ : w.heap.size ≤ J) : Two w v a b :=
  ⟨hg.os.trans h.os, hg.tape.trans h.tape, hg.output.trans h.output, Nat.le_trans h.size hg.size, fun k hk h1 h2 => (hg.block k (Nat.lt_of_lt_of_le hk h.size) (by simp; omega)).trans (h.block k hk h1 h2)⟩
theorem Two.grewJ {w u v : World} {a b : Nat} {x y : Value} (h : Two w u a b) (hg : Grew u v x y) (hx : ∀ k, x.ownBlock = some k → w.heap.size ≤ k) : Two w v a b :=
  ⟨hg.grown.os.trans h.os, hg.grown.tape.trans h.tape, hg.grown.output.trans h.output, Nat.le_trans h.size hg.grown.size, fun k hk h1 h2 => (hg.grown.block k (Nat.lt_of_lt_of_le hk h.size) (fun e => by have := hx k e.symm; omega)).trans (h.block k hk h1 h2)⟩
/-- No row lies in block J. -/
structure Apart (x : StA) (J : Nat) : Prop where
  j : ∀ k, (Value.slice x.aj x.nj x.cj).ownBlock = some k → k ≠ J
  n : ∀ k, (Value.slice x.an x.nn x.cn).ownBlock = some k → k ≠ J
  l : ∀ k, (Value.slice x.al x.nl x.cl).ownBlock = some k → k ≠ J
section
variable {W0 w w' : World} {g S J : Nat} {st : StateD} {x : StA} {s : ByteArray}
theorem JcAt.apart (h : JcAt W0 g S st x s w) : Apart x w.heap.size :=
  ⟨fun k hk => Nat.ne_of_lt (h.own.j.lt k hk).2, fun k hk => Nat.ne_of_lt (h.own.n.lt k hk).2, fun k hk => Nat.ne_of_lt (h.own.l.lt k hk).2⟩
theorem JcAt.free (h : JcAt W0 g S st x s w) (hg : w.grownBy w' (some J)) (hJ : W0.heap.size ≤ J) (h1 : g < W0.heap.size) (h2 : S < W0.heap.size) (ap : Apart x J) : JcAt W0 g S st x s w' :=
  ⟨h.sx.grow hg (by omega), grow_blk hg h.box (by omega), ⟨own_but h.own.j hg ap.j, own_but h.own.n hg ap.n, own_but h.own.l hg ap.l, h.own.lj, h.own.ln, h.own.ll⟩, h.two.free hg hJ, h.oj, h.on_, h.ol, h.sz, h.lj, h.ln, h.ll⟩
end
/-- On the way through a record: its block, too. -/
structure JbAt (W0 : World) (g S J : Nat) (T : TypeId) (cs : Array Value) (st : StateD) (x : StA) (s : ByteArray) (w : World) : Prop where
  at_ : JcAt W0 g S st x s w
  j : Blk w J T cs
  ap : Apart x J
  ge : W0.heap.size ≤ J
section
variable {W0 w w' : World} {g S J : Nat} {T : TypeId} {cs cs' : Array Value} {st : StateD} {x : StA} {s s' : ByteArray}
theorem JbAt.call (h : JbAt W0 g S J T cs st x s w) (hx : SxAt w' g s') (hg : w.grownBy w' (some g)) (hs : s'.size ≤ 60000) (h1 : g < W0.heap.size) (h2 : S ≠ g) : JbAt W0 g S J T cs st x s' w' :=
  ⟨h.at_.call hx hg hs h1 h2, grow_blk hg h.j (by have := h.ge; omega), h.ap, h.ge⟩
theorem JbAt.set (h : JbAt W0 g S J T cs st x s w) (i : Nat) (v : Value) (he : cs.setIfInBounds i v = cs') (h1 : g < W0.heap.size) (h2 : S < W0.heap.size) : JbAt W0 g S J T cs' st x s (w.setCell ⟨J, i, none⟩ v) :=
  ⟨h.at_.free (grow_set _ _ _ _) h.ge h1 h2 h.ap, Blk.eq (Blk.set h.j i v) he, h.ap, h.ge⟩
theorem JcAt.open_ (h : JcAt W0 g S st x s w) (T : TypeId) (cs : Array Value) (h1 : g < W0.heap.size) (h2 : S ≠ g) : JbAt W0 g S w.heap.size T cs st x s (w.alloc (.cells cs T)) :=
  ⟨h.up ((Below.refl _ _).alloc (Nat.le_refl _) _) h1 h2, heap_alloc_new w _, h.apart, h.two.size⟩
end
theorem takeWhile_mem {p : UInt8 → Bool} : ∀ (l : List UInt8) (c : UInt8), c ∈ l.takeWhile p → p c = true
  | [], c, h => by cases h
  | x :: l, c, h => by
    rw [List.takeWhile_cons] at h
    split at h
    · rename_i hx
      rcases List.mem_cons.1 h with rfl | h
      · exact hx
      · exact takeWhile_mem l c h
    · cases h
theorem digR1_int {sg n : Int} {s r : ByteArray} (hsg : sg = 1 ∨ sg = -1) (h : digR1 sg s = .ok n r) : -9223372036854775808 ≤ n ∧ n ≤ 9223372036854775807 := by
  unfold digR1 at h
  split at h
  · cases h
  · injection h with h1 h2
    have hb : valD (digL s) < 10 ^ 18 := by
      have hp : digL s = (s.data.toList.takeWhile digC?).take (min 18 (s.data.toList.takeWhile digC?).length) := by
        unfold digL
        rw [← List.take_eq_take_min]
      have := valD_take (s.data.toList.takeWhile digC?) (min 18 (s.data.toList.takeWhile digC?).length) (by omega) (by omega) (fun c hc => by
        exact takeWhile_mem _ c (List.mem_of_mem_take hc))
      rw [← hp] at this
      refine Nat.lt_of_lt_of_le this (Nat.pow_le_pow_right (by omega) (by omega))
    rcases hsg with rfl | rfl <;> omega
theorem digR_int {n : Int} {s r : ByteArray} (h : digR s = .ok n r) : -9223372036854775808 ≤ n ∧ n ≤ 9223372036854775807 := by
  unfold digR at h
  split at h
  · exact digR1_int (.inr rfl) h
  · exact digR1_int (.inl rfl) h
theorem qRun_room : ∀ (n : Nat) (acc s t r : ByteArray), qRun n acc s = .ok t r → t.size ≤ acc.size + s.size
  | 0, _, _, _, _ => fun h => by cases h
  | n + 1, acc, s, t, r => fun h => by
    rw [qRun] at h
    split at h
    · injection h with h1 h2; subst h1; omega
    · split at h
      · rename_i hp
        have h2 := hasR_size hp
        have := qRun_room n _ _ t r h
        rw [ByteArray.size_append, cut_size] at this
        have e : (⟨#[34]⟩ : ByteArray).size = 1 := rfl
        have e2 : (⟨#[92, 34]⟩ : ByteArray).size = 2 := rfl
        omega
      · split at h
        · rename_i hp
          have h2 := hasR_size hp
          have := qRun_room n _ _ t r h
          rw [ByteArray.size_append, cut_size] at this
          have e : (⟨#[92]⟩ : ByteArray).size = 1 := rfl
          have e2 : (⟨#[92, 92]⟩ : ByteArray).size = 2 := rfl
          omega
        · split at h
          · rename_i c hc
            have hp := (List.find?_range_eq_some.1 hc)
            have h2 := (List.isPrefixOf_iff_prefix.1 hp.1).length_le
            rw [data_len] at h2
            have h6 := low_size c (List.mem_range.1 hp.2.1)
            have h6' : (quoteB (UInt8.ofNat c)).length = 6 := by
              have : (⟨(quoteB (UInt8.ofNat c)).toArray⟩ : ByteArray).size = (quoteB (UInt8.ofNat c)).length := by show (quoteB (UInt8.ofNat c)).toArray.size = _; simp
              omega
            have := qRun_room n _ _ t r h
            rw [ByteArray.size_append, cut_size] at this
            have e : (⟨#[UInt8.ofNat c]⟩ : ByteArray).size = 1 := rfl
            omega
          · split at h
            · cases h
            · have := qRun_room n _ _ t r h
              rw [ByteArray.size_append, cut_size, ByteArray.size_extract] at this
              omega
theorem quotR_room {s t r : ByteArray} (h : quotR s = .ok t r) : t.size ≤ s.size := by
  unfold quotR at h
  cases hm : mustR ⟨#[34]⟩ s with
  | bad e => rw [hm] at h; cases h
  | ok u q =>
    rw [hm, RR.bind_ok] at h
    have h1 := qRun_room _ _ _ _ _ h
    have h2 := mustR_less hm
    have e : (⟨#[]⟩ : ByteArray).size = 0 := rfl
    omega
theorem JcAt.push_job {W0 w w' : World} {g S : Nat} {st : StateD} {x : StA} {s : ByteArray} {y : JobD} {A' : Option Addr} {c' : Nat} (h : JcAt W0 g S st x s w) (ho : w'.ownsRow W0.heap.size 39 5 (.slice A' (x.nj + 1) c') (x.nj + 1) (rowsV jobV (st.jobs ++ [y]))) (hg : Grew w w' (.slice x.aj x.nj x.cj) (.slice A' (x.nj + 1) c'))
    (h1 : g < W0.heap.size) (h2 : S < W0.heap.size) (h3 : S ≠ g) (hy : y.name.size ≤ 9223372036854775807 ∧ y.tag.size ≤ 9223372036854775807) (hl : st.jobs.length + 1 ≤ 60000) :
    JcAt W0 g S ⟨st.rev, st.jobs ++ [y], st.nodes, st.leases⟩ ⟨A', x.nj + 1, c', x.an, x.nn, x.cn, x.al, x.nl, x.cl⟩ s (w'.setCell ⟨S, 1, none⟩ (.slice A' (x.nj + 1) c')) := by
  have hv : ∀ k, (Value.slice x.aj x.nj x.cj).ownBlock = some k → W0.heap.size ≤ k := fun k hk => (h.own.j.lt k hk).1
  have hs := grow_set w' S 1 (.slice A' (x.nj + 1) c')
  have hO : StOwn w' W0.heap.size ⟨st.rev, st.jobs ++ [y], st.nodes, st.leases⟩ ⟨A', x.nj + 1, c', x.an, x.nn, x.cn, x.al, x.nl, x.cl⟩ := ⟨ho, own_grewOther h.own.n hg h.own.j (by decide), own_grewOther h.own.l hg h.own.j (by decide), (by have := h.own.lj; rw [List.length_append]; show _ + 1 = _ + 1; omega), h.own.ln, h.own.ll⟩
  exact ⟨(h.sx.grewT hg hv h1).grow hs (by omega), Blk.eq (Blk.set (h.box.grewT hg hv h2) 1 _) rfl, hO.grow hs h2, (h.two.grewJ hg hv).snd hs, (fun z hz => by rcases List.mem_append.1 hz with hz | hz; exact h.oj z hz; rw [List.mem_singleton] at hz; subst hz; exact hy), h.on_, h.ol, h.sz, (by rw [List.length_append]; exact hl), h.ln, h.ll⟩
theorem JcAt.push_node {W0 w w' : World} {g S : Nat} {st : StateD} {x : StA} {s : ByteArray} {y : NodeD} {A' : Option Addr} {c' : Nat} (h : JcAt W0 g S st x s w) (ho : w'.ownsRow W0.heap.size 43 3 (.slice A' (x.nn + 1) c') (x.nn + 1) (rowsV nodeV (st.nodes ++ [y]))) (hg : Grew w w' (.slice x.an x.nn x.cn) (.slice A' (x.nn + 1) c'))
    (h1 : g < W0.heap.size) (h2 : S < W0.heap.size) (h3 : S ≠ g) (hy : y.name.size ≤ 9223372036854775807 ∧ y.zone.size ≤ 9223372036854775807) (hl : st.nodes.length + 1 ≤ 60000) :
    JcAt W0 g S ⟨st.rev, st.jobs, st.nodes ++ [y], st.leases⟩ ⟨x.aj, x.nj, x.cj, A', x.nn + 1, c', x.al, x.nl, x.cl⟩ s (w'.setCell ⟨S, 2, none⟩ (.slice A' (x.nn + 1) c')) := by
  have hv : ∀ k, (Value.slice x.an x.nn x.cn).ownBlock = some k → W0.heap.size ≤ k := fun k hk => (h.own.n.lt k hk).1
  have hs := grow_set w' S 2 (.slice A' (x.nn + 1) c')
  have hO : StOwn w' W0.heap.size ⟨st.rev, st.jobs, st.nodes ++ [y], st.leases⟩ ⟨x.aj, x.nj, x.cj, A', x.nn + 1, c', x.al, x.nl, x.cl⟩ := ⟨own_grewOther h.own.j hg h.own.n (by decide), ho, own_grewOther h.own.l hg h.own.n (by decide), h.own.lj, (by have := h.own.ln; rw [List.length_append]; show _ + 1 = _ + 1; omega), h.own.ll⟩
  exact ⟨(h.sx.grewT hg hv h1).grow hs (by omega), Blk.eq (Blk.set (h.box.grewT hg hv h2) 2 _) rfl, hO.grow hs h2, (h.two.grewJ hg hv).snd hs, h.oj, (fun z hz => by rcases List.mem_append.1 hz with hz | hz; exact h.on_ z hz; rw [List.mem_singleton] at hz; subst hz; exact hy), h.ol, h.sz, h.lj, (by rw [List.length_append]; exact hl), h.ll⟩
theorem JcAt.push_lease {W0 w w' : World} {g S : Nat} {st : StateD} {x : StA} {s : ByteArray} {y : LeaseD} {A' : Option Addr} {c' : Nat} (h : JcAt W0 g S st x s w) (ho : w'.ownsRow W0.heap.size 47 3 (.slice A' (x.nl + 1) c') (x.nl + 1) (rowsV leaseV (st.leases ++ [y]))) (hg : Grew w w' (.slice x.al x.nl x.cl) (.slice A' (x.nl + 1) c'))
    (h1 : g < W0.heap.size) (h2 : S < W0.heap.size) (h3 : S ≠ g) (hy : y.job.size ≤ 9223372036854775807 ∧ y.node.size ≤ 9223372036854775807) (hl : st.leases.length + 1 ≤ 60000) :
    JcAt W0 g S ⟨st.rev, st.jobs, st.nodes, st.leases ++ [y]⟩ ⟨x.aj, x.nj, x.cj, x.an, x.nn, x.cn, A', x.nl + 1, c'⟩ s (w'.setCell ⟨S, 3, none⟩ (.slice A' (x.nl + 1) c')) := by
  have hv : ∀ k, (Value.slice x.al x.nl x.cl).ownBlock = some k → W0.heap.size ≤ k := fun k hk => (h.own.l.lt k hk).1
  have hs := grow_set w' S 3 (.slice A' (x.nl + 1) c')
  have hO : StOwn w' W0.heap.size ⟨st.rev, st.jobs, st.nodes, st.leases ++ [y]⟩ ⟨x.aj, x.nj, x.cj, x.an, x.nn, x.cn, A', x.nl + 1, c'⟩ := ⟨own_grewOther h.own.j hg h.own.l (by decide), own_grewOther h.own.n hg h.own.l (by decide), ho, h.own.lj, h.own.ln, (by have := h.own.ll; rw [List.length_append]; show _ + 1 = _ + 1; omega)⟩
  exact ⟨(h.sx.grewT hg hv h1).grow hs (by omega), Blk.eq (Blk.set (h.box.grewT hg hv h2) 3 _) rfl, hO.grow hs h2, (h.two.grewJ hg hv).snd hs, h.oj, h.on_, (fun z hz => by rcases List.mem_append.1 hz with hz | hz; exact h.ol z hz; rw [List.mem_singleton] at hz; subst hz; exact hy), h.sz, h.lj, h.ln, (by rw [List.length_append]; exact hl)⟩
end Go.Proofs.YtcodhhabfacnjaaGreatDoor
