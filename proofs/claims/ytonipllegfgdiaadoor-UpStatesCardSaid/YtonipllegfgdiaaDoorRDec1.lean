/- The walk of the closure in the reference's Decode. -/
import Derived.Test.YtonipllegfgdiaaDoorRdAll
import Derived.Test.YtonipllegfgdiaaDoorWDec
set_option linter.unusedVariables false
set_option linter.unusedSimpArgs false
namespace Go.Proofs.YtonipllegfgdiaaDoor
open Go.RowKit
/-- Of the old blocks only two may have turned. -/
structure Two (w w' : World) (a b : Nat) : Prop where
  os : w'.os = w.os
  tape : w'.tape = w.tape
  output : w'.output = w.output
  size : w.heap.size ≤ w'.heap.size
  block : ∀ k, k < w.heap.size → k ≠ a → k ≠ b → w'.heap[k]? = w.heap[k]?
theorem Two.refl (w : World) (a b : Nat) : Two w w a b := ⟨rfl, rfl, rfl, Nat.le_refl _, fun _ _ _ _ => rfl⟩
theorem Two.fst {w u v : World} {a b : Nat} (h : Two w u a b) (hg : u.grownBy v (some a)) : Two w v a b :=
  ⟨hg.os.trans h.os, hg.tape.trans h.tape, hg.output.trans h.output, Nat.le_trans h.size hg.size, fun k hk h1 h2 => (hg.block k (Nat.lt_of_lt_of_le hk h.size) (by simp; exact h1)).trans (h.block k hk h1 h2)⟩
theorem Two.snd {w u v : World} {a b : Nat} (h : Two w u a b) (hg : u.grownBy v (some b)) : Two w v a b :=
  ⟨hg.os.trans h.os, hg.tape.trans h.tape, hg.output.trans h.output, Nat.le_trans h.size hg.size, fun k hk h1 h2 => (hg.block k (Nat.lt_of_lt_of_le hk h.size) (by simp; exact h2)).trans (h.block k hk h1 h2)⟩
theorem Two.blk {w u : World} {a b k : Nat} {t : TypeId} {cs : Array Value} (h : Two w u a b) (hk : Blk w k t cs) (h1 : k ≠ a) (h2 : k ≠ b) : Blk u k t cs := (h.block k hk.lt h1 h2).trans hk
theorem Two.below {w0 w u : World} {a b : Nat} (h : Two w u a b) (hb : Below w0.heap.size w0 w) (h1 : w0.heap.size ≤ a) (h2 : w0.heap.size ≤ b) : Below w0.heap.size w0 u :=
  ⟨h.os.trans hb.os, h.tape.trans hb.tape, h.output.trans hb.output, Nat.le_trans hb.size h.size, fun k hk => (h.block k (Nat.lt_of_lt_of_le hk hb.size) (by omega) (by omega)).trans (hb.block k hk)⟩
/-- The rows of a state lie in blocks of the call's own. -/
structure StOwn (w : World) (base : Nat) (st : StateD) (x : StA) : Prop where
  j : w.ownsRow base 74 5 (.slice x.aj x.nj x.cj) x.nj (rowsV jobV st.jobs)
  n : w.ownsRow base 60 3 (.slice x.an x.nn x.cn) x.nn (rowsV nodeV st.nodes)
  l : w.ownsRow base 71 3 (.slice x.al x.nl x.cl) x.nl (rowsV leaseV st.leases)
  lj : st.jobs.length = x.nj
  ln : st.nodes.length = x.nn
  ll : st.leases.length = x.nl
theorem StOwn.grow {w w' : World} {base g : Nat} {st : StateD} {x : StA} (h : StOwn w base st x) (hg : w.grownBy w' (some g)) (hb : g < base) : StOwn w' base st x :=
  ⟨ownT_grow h.j hg hb, ownT_grow h.n hg hb, ownT_grow h.l hg hb, h.lj, h.ln, h.ll⟩
theorem StOwn.at_ {w : World} {base : Nat} {st : StateD} {x : StA} (h : StOwn w base st x) (bj : x.nj ≤ 40) (bn : x.nn ≤ 20) (bl : x.nl ≤ 40) (oj : JobsOk st.jobs) (on_ : NodesOk st.nodes) (ol : LeasesOk st.leases) : StAt w w.heap.size st x :=
  ⟨own_slAt h.j, own_slAt h.n, own_slAt h.l, h.lj, h.ln, h.ll, by omega, by omega, by omega, oj, on_, ol⟩
theorem stP_rows (v : Int) (b : ByteArray) : stP v b = (revP v b).bind fun rev s => (rowsP v s).bind fun p s => .ok ⟨rev, p.1, p.2.1, p.2.2⟩ s := by
  unfold stP rowsP
  cases revP v b with
  | bad x => rfl
  | ok rev s =>
    simp only [RR.bind_ok]
    cases takeP 40 (jobP v) s with
    | bad x => rfl
    | ok j s =>
      simp only [RR.bind_ok]
      cases takeP 20 (nodeP v) s with
      | bad x => rfl
      | ok n s =>
        simp only [RR.bind_ok]
        cases takeP 40 leaseP s with
        | bad x => rfl
        | ok l s => rfl
def D1Post (g S : Nat) (v : Int) (b : ByteArray) (w : World) (e : Ending) (w' : World) : Prop :=
  Two w w' g S ∧ match stP v b with
  | .ok st r => e = .returned (.tuple #[]) ∧ SxAt w' g r ∧ ∃ x : StA, Blk w' S 26 (stC st x) ∧ StOwn w' w.heap.size st x
  | .bad x => e = thrown x ∧ ∃ cs, Blk w' S 26 cs
theorem D1Post.bad {g S x : Nat} {v : Int} {b : ByteArray} {w w' : World} {cs : Array Value} (h : stP v b = .bad x) (ht : Two w w' g S) (hb : Blk w' S 26 cs) : D1Post g S v b w (thrown x) w' := ⟨ht, by rw [h]; exact ⟨rfl, cs, hb⟩⟩
theorem D1Post.ok {g S : Nat} {v : Int} {b r : ByteArray} {st : StateD} {w w' : World} {x : StA} (h : stP v b = .ok st r) (ht : Two w w' g S) (hs : SxAt w' g r) (hb : Blk w' S 26 (stC st x)) (ho : StOwn w' w.heap.size st x) : D1Post g S v b w (.returned (.tuple #[])) w' := ⟨ht, by rw [h]; exact ⟨rfl, hs, x, hb, ho⟩⟩
def zeroC : Array Value := #[.int .i64 0, .slice none 0 0, .slice none 0 0, .slice none 0 0]
set_option maxRecDepth 100000 in
set_option maxHeartbeats 2000000 in
theorem rdec1_no (g V S : Nat) (v : Int) (b : ByteArray) (w : World) (hx : SxAt w g b) (hV : Blk w V 3 #[.int .i64 v]) (hS : Blk w S 26 #[.int .i64 0, .slice none 0 0, .slice none 0 0, .slice none 0 0]) (hVg : V < g) (hSg : S < g) (hVS : V ≠ S) (hv : ¬ 2 < v) :
    Calls Tryd.prog 92 #[.pointer (some ⟨g, 0, none⟩), .pointer (some ⟨V, 0, none⟩), .pointer (some ⟨S, 0, none⟩)] w (D1Post g S v b w) := by
  have d1 : decide (2 < v) = false := decide_eq_false hv
  have hP := Lib.hid (show stP v b = (rowsP v b).bind fun p s => .ok ⟨((0 : Nat) : Int), p.1, p.2.1, p.2.2⟩ s by rw [stP_rows]; unfold revP; rw [if_neg hv]; rfl)
  have yV : w.cell? ⟨V, 0, none⟩ = some (.int .i64 v) := hV.cell 0
  have HR := Lib.hid (sxrows g b v w hx)
  have HS := Lib.hid hS
  have hgl := hx.1.lt
  clear hV hS hv hx
  go_enter Tryd.func92, Tryd.ntmps92
  go_wp2_with fail
  refine Calls.mono HR.out ?_
  rintro e w1 ⟨hg, hp⟩
  have hSb := grow_blk hg HS.out (Nat.ne_of_lt hSg)
  rcases hr : rowsP v b with ⟨⟨j, n, l⟩, r⟩ | x
  rotate_left
  · rw [hr] at hp
    have hp : e = thrown x := hp
    subst hp
    have hend := Lib.hid (D1Post.bad (show stP v b = .bad x by rw [hP.out, hr]; rfl) ((Two.refl w g S).fst hg) hSb)
    clear hg hr hSb
    unfold thrown
    go_wp2
    exact ⟨rfl, hend.out⟩
  · rw [hr] at hp
    obtain ⟨aj, cj, an, cn, al, cl, rfl, hs, oj, on_, ol⟩ := hp
    have hq := Lib.hid (show stP v b = .ok ⟨((0 : Nat) : Int), j, n, l⟩ r by rw [hP.out, hr]; rfl)
    have HO := Lib.hid (show StOwn w1 w.heap.size ⟨((0 : Nat) : Int), j, n, l⟩ ⟨aj, j.length, cj, an, n.length, cn, al, l.length, cl⟩ from ⟨oj, on_, ol, rfl, rfl, rfl⟩)
    have hsl := hSb.lt
    have z1 := hSb.thaw 1
    have z2 := hSb.thaw 2
    have z3 := hSb.thaw 3
    have x1 := (show _ = (some (.slice none 0 0) : Option Value) from hSb.cell 1)
    have x2 := (show _ = (some (.slice none 0 0) : Option Value) from hSb.cell 2)
    have x3 := (show _ = (some (.slice none 0 0) : Option Value) from hSb.cell 3)
    have hG := bes_set (bes_set (bes_set (grow_refl w1 S) 1 (.slice aj j.length cj)) 2 (.slice an n.length cn)) 3 (.slice al l.length cl)
    have HT := Lib.hid (((Two.refl w g S).fst hg).snd hG)
    have HX := Lib.hid (hs.grow hG (Nat.ne_of_gt hSg))
    have HB := Lib.hid (Blk.eq (((hSb.set 1 (.slice aj j.length cj)).set 2 (.slice an n.length cn)).set 3 (.slice al l.length cl)) (show _ = stC ⟨((0 : Nat) : Int), j, n, l⟩ ⟨aj, j.length, cj, an, n.length, cn, al, l.length, cl⟩ from rfl))
    have HO2 := Lib.hid (HO.out.grow hG (Nat.lt_trans hSg hgl))
    clear hg hr hs oj on_ ol hG hSb
    go_wp2
    go_end0
    exact D1Post.ok hq.out HT.out HX.out HB.out HO2.out
set_option maxRecDepth 100000 in
set_option maxHeartbeats 2000000 in
theorem rdec1_yes (g V S : Nat) (v : Int) (b : ByteArray) (w : World) (hx : SxAt w g b) (hV : Blk w V 3 #[.int .i64 v]) (hS : Blk w S 26 #[.int .i64 0, .slice none 0 0, .slice none 0 0, .slice none 0 0]) (hVg : V < g) (hSg : S < g) (hVS : V ≠ S) (hv : 2 < v) :
    Calls Tryd.prog 92 #[.pointer (some ⟨g, 0, none⟩), .pointer (some ⟨V, 0, none⟩), .pointer (some ⟨S, 0, none⟩)] w (D1Post g S v b w) := by
  have d1 : decide (2 < v) = true := decide_eq_true hv
  have hP := Lib.hid (show stP v b = (numP b).bind fun rev s => (rowsP v s).bind fun p s => .ok ⟨((rev : Nat) : Int), p.1, p.2.1, p.2.2⟩ s by rw [stP_rows]; unfold revP; rw [if_pos hv])
  have yV : w.cell? ⟨V, 0, none⟩ = some (.int .i64 v) := hV.cell 0
  have HN := Lib.hid (sxnum g b w hx)
  have HS := Lib.hid hS
  have HV := Lib.hid hV
  have hgl := hx.1.lt
  clear hV hS hv hx
  go_enter Tryd.func92, Tryd.ntmps92
  go_wp2_with fail
  refine Calls.mono HN.out ?_
  intro e w1 hp
  rcases hr : numP b with ⟨rev, s1⟩ | x
  rotate_left
  · obtain ⟨rfl, hg⟩ := hp.bad hr
    have hend := Lib.hid (D1Post.bad (show stP v b = .bad x by rw [hP.out, hr]; rfl) ((Two.refl w g S).fst hg) (grow_blk hg HS.out (Nat.ne_of_lt hSg)))
    clear hg hr hp
    unfold thrown
    go_wp2
    exact ⟨rfl, hend.out⟩
  obtain ⟨rfl, hs1, hg1⟩ := hp.ok hr
  have E0 := Lib.hid hr
  have hSb := grow_blk hg1 HS.out (Nat.ne_of_lt hSg)
  have hVb := grow_blk hg1 HV.out (Nat.ne_of_lt hVg)
  have z0 : w1.frozen? ⟨S, 0, none⟩ = false := hSb.thaw 0
  have x0 : w1.cell? ⟨S, 0, none⟩ = some (.int .i64 0) := hSb.cell 0
  have yV1 : w1.cell? ⟨V, 0, none⟩ = some (.int .i64 v) := hVb.cell 0
  have hSl := hSb.lt
  have T1 := Lib.hid (((Two.refl w g S).fst hg1).snd (grow_set w1 S 0 (.int .i64 (rev : Int))))
  have B1 := Lib.hid (Blk.eq (hSb.set 0 (.int .i64 (rev : Int))) (show _ = #[.int .i64 (rev : Int), .slice none 0 0, .slice none 0 0, .slice none 0 0] from rfl))
  have HR := Lib.hid (sxrows g s1 v _ (hs1.grow (grow_set w1 S 0 (.int .i64 (rev : Int))) (Nat.ne_of_gt hSg)))
  clear hr hp hs1 hg1 hSb hVb HN yV
  go_wp2_with fail
  refine Calls.mono HR.out ?_
  rintro e w2 ⟨hg, hp⟩
  have hSb := grow_blk hg B1.out (Nat.ne_of_lt hSg)
  rcases hr : rowsP v s1 with ⟨⟨j, n, l⟩, r⟩ | x
  rotate_left
  · rw [hr] at hp
    have hp : e = thrown x := hp
    subst hp
    have hend := Lib.hid (D1Post.bad (show stP v b = .bad x by rw [hP.out, E0.out, RR.bind_ok, hr]; rfl) (T1.out.fst hg) hSb)
    clear hg hr hSb
    unfold thrown
    go_wp2
    exact ⟨rfl, hend.out⟩
  · rw [hr] at hp
    obtain ⟨aj, cj, an, cn, al, cl, rfl, hs, oj, on_, ol⟩ := hp
    have hq := Lib.hid (show stP v b = .ok ⟨((rev : Nat) : Int), j, n, l⟩ r by rw [hP.out, E0.out, RR.bind_ok, hr]; rfl)
    have HO := Lib.hid (show StOwn w2 w.heap.size ⟨((rev : Nat) : Int), j, n, l⟩ ⟨aj, j.length, cj, an, n.length, cn, al, l.length, cl⟩ from ⟨ownT_base oj T1.out.size, ownT_base on_ T1.out.size, ownT_base ol T1.out.size, rfl, rfl, rfl⟩)
    have hsl := hSb.lt
    have z1 := hSb.thaw 1
    have z2 := hSb.thaw 2
    have z3 := hSb.thaw 3
    have x1 := (show _ = (some (.slice none 0 0) : Option Value) from hSb.cell 1)
    have x2 := (show _ = (some (.slice none 0 0) : Option Value) from hSb.cell 2)
    have x3 := (show _ = (some (.slice none 0 0) : Option Value) from hSb.cell 3)
    have hG := bes_set (bes_set (bes_set (grow_refl w2 S) 1 (.slice aj j.length cj)) 2 (.slice an n.length cn)) 3 (.slice al l.length cl)
    have HT := Lib.hid ((T1.out.fst hg).snd hG)
    have HX := Lib.hid (hs.grow hG (Nat.ne_of_gt hSg))
    have HB := Lib.hid (Blk.eq (((hSb.set 1 (.slice aj j.length cj)).set 2 (.slice an n.length cn)).set 3 (.slice al l.length cl)) (show _ = stC ⟨((rev : Nat) : Int), j, n, l⟩ ⟨aj, j.length, cj, an, n.length, cn, al, l.length, cl⟩ from rfl))
    have HO2 := Lib.hid (HO.out.grow hG (Nat.lt_trans hSg hgl))
    clear hg hr hs oj on_ ol hG hSb
    go_wp2
    go_end0
    exact D1Post.ok hq.out HT.out HX.out HB.out HO2.out
theorem stP_good (v : Int) {b : ByteArray} {N : Nat} (h : b.size ≤ N) : (stP v b).Good N := by
  unfold stP revP
  refine RR.Good.bind ?_ fun _ r hr => (takeP_good (fun _ => jobP_good) hr).bind fun _ r hr => (takeP_good (fun _ => nodeP_good) hr).bind fun _ r hr => (takeP_good (fun _ => leaseP_good) hr).bind fun _ r hr => hr
  split
  · exact numP_good h
  · exact h
theorem endP_cases {α : Type} {N : Nat} {R : RR α} (h : R.Good N) : (∃ x : Nat, x ≠ 0 ∧ endE R.st = x ∧ endP R = .bad x) ∨ (∃ a r, R = .ok a r ∧ endE R.st = 0 ∧ endP R = .ok a r) := by
  cases R with
  | bad x => exact .inl ⟨x, h.1, rfl, rfl⟩
  | ok a r =>
    by_cases hz : r.size = 0
    · exact .inr ⟨a, r, rfl, endE_ok0 hz, by unfold endP; rw [RR.bind_ok, if_pos hz]⟩
    · exact .inl ⟨4, by decide, endE_ok4 hz, by unfold endP; rw [RR.bind_ok, if_neg hz]⟩
theorem stP_sizes {v : Int} {b r : ByteArray} {st : StateD} (h : stP v b = .ok st r) : st.jobs.length ≤ 40 ∧ st.nodes.length ≤ 20 ∧ st.leases.length ≤ 40 ∧ JobsOk st.jobs ∧ NodesOk st.nodes ∧ LeasesOk st.leases := by
  unfold stP at h
  cases h1 : revP v b with
  | bad x => rw [h1] at h; cases h
  | ok rev s1 =>
    rw [h1, RR.bind_ok] at h
    cases h2 : takeP 40 (jobP v) s1 with
    | bad x => rw [h2] at h; cases h
    | ok j s2 =>
      rw [h2, RR.bind_ok] at h
      cases h3 : takeP 20 (nodeP v) s2 with
      | bad x => rw [h3] at h; cases h
      | ok n s3 =>
        rw [h3, RR.bind_ok] at h
        cases h4 : takeP 40 leaseP s3 with
        | bad x => rw [h4] at h; cases h
        | ok l s4 =>
          rw [h4, RR.bind_ok] at h
          injection h with e1 e2
          subst e1
          obtain ⟨a1, a2⟩ := takeP_all h2
          obtain ⟨b1, b2⟩ := takeP_all h3
          obtain ⟨c1, c2⟩ := takeP_all h4
          exact ⟨a1, b1, c1, fun x hx => by obtain ⟨_, _, h⟩ := a2 x hx; have := jobP_size h; omega, fun x hx => by obtain ⟨_, _, h⟩ := b2 x hx; have := nodeP_size h; omega, fun x hx => by obtain ⟨_, _, h⟩ := c2 x hx; have := leaseP_size h; omega⟩
end Go.Proofs.YtonipllegfgdiaaDoor
