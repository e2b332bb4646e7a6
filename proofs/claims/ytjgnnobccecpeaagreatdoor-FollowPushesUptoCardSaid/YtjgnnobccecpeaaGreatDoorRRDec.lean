/- Of the proof of a statement: RDec1, RDec. -/
import Derived.Test.YtjgnnobccecpeaaGreatDoorRSrcRows
import Derived.Test.YtjgnnobccecpeaaGreatDoorRWDec
set_option linter.unusedVariables false
set_option linter.unusedSimpArgs false
set_option maxRecDepth 100000
set_option maxHeartbeats 8000000
/- The walk of the closure in the reference's Decode. -/
namespace Go.Proofs.YtjgnnobccecpeaaGreatDoor
open Go.Lib (hid)
open Go.RowKit
theorem stP_rows (v : Int) (b : ByteArray) : stP v b = (revP v b).bind fun rev s => (rowsP v s).bind fun p s => .ok ⟨rev, p.1, p.2.1, p.2.2⟩ s := by
 unfold stP rowsP
 cases revP v b with
 | bad x => rfl
 | ok rev s =>
  simp only [RR.bind_ok]
  cases takeP 40 (jobP v) s with
  | bad x => rfl
  | ok j s =>
   simp only [RR.bind_ok]
   cases takeP 20 (nodeP v) s with
   | bad x => rfl
   | ok n s =>
    simp only [RR.bind_ok]
    cases takeP 40 leaseP s with
    | bad x => rfl
    | ok l s => rfl
def D1Post (g S : Nat) (v : Int) (b : ByteArray) (w : World) (e : Ending) (w' : World) : Prop :=
 Two w w' g S ∧ match stP v b with
 | .ok st r => e = .returned (.tuple #[]) ∧ SxAt w' g r ∧ ∃ x : StA, Blk w' S 26 (stC st x) ∧ StOwn w' w.heap.size st x
 | .bad x => e = thrown x ∧ ∃ cs, Blk w' S 26 cs
theorem D1Post.bad {g S x : Nat} {v : Int} {b : ByteArray} {w w' : World} {cs : Array Value} (h : stP v b = .bad x) (ht : Two w w' g S) (hb : Blk w' S 26 cs) : D1Post g S v b w (thrown x) w' := ⟨ht, by rw [h]; exact ⟨rfl, cs, hb⟩⟩
theorem D1Post.ok {g S : Nat} {v : Int} {b r : ByteArray} {st : StateD} {w w' : World} {x : StA} (h : stP v b = .ok st r) (ht : Two w w' g S) (hs : SxAt w' g r) (hb : Blk w' S 26 (stC st x)) (ho : StOwn w' w.heap.size st x) : D1Post g S v b w (.returned (.tuple #[])) w' := ⟨ht, by rw [h]; exact ⟨rfl, hs, x, hb, ho⟩⟩
theorem rdec1_no (g V S : Nat) (v : Int) (b : ByteArray) (w : World) (hx : SxAt w g b) (hV : Blk w V 3 #[.int .i64 v]) (hS : Blk w S 26 zSta) (hVg : V < g) (hSg : S < g) (hVS : V ≠ S) (hv : ¬ 2 < v) :
 Calls Tryz.prog 175 #[.pointer (some ⟨g, 0, none⟩), .pointer (some ⟨V, 0, none⟩), .pointer (some ⟨S, 0, none⟩)] w (D1Post g S v b w) := by
 have d1 : decide (2 < v) = false := decide_eq_false hv
 have hP := hid (show stP v b = (rowsP v b).bind fun p s => .ok ⟨((0 : Nat) : Int), p.1, p.2.1, p.2.2⟩ s by rw [stP_rows]; unfold revP; rw [if_neg hv]; rfl)
 have yV : w.cell? ⟨V, 0, none⟩ = some (.int .i64 v) := hV.cell 0
 have HR := hid (sxrows g b v w hx)
 have HS := hid hS
 have hgl := hx.1.lt
 clear hV hS hv hx
 go_enter Tryz.func175, Tryz.ntmps175
 go_wp2_with fail
 refine Calls.mono HR.out ?_
 rintro e w1 ⟨hg, hp⟩
 have hSb := grow_blk hg HS.out (Nat.ne_of_lt hSg)
 rcases hr : rowsP v b with ⟨⟨j, n, l⟩, r⟩ | x
 rotate_left
 · rw [hr] at hp
   have hp : e = thrown x := hp
   subst hp
   have hend := hid (D1Post.bad (show stP v b = .bad x by rw [hP.out, hr]; rfl) ((Two.refl w g S).fst hg) hSb)
   clear hg hr hSb
   unfold thrown
   go_wp2
   exact ⟨rfl, hend.out⟩
 · rw [hr] at hp
   obtain ⟨aj, cj, an, cn, al, cl, rfl, hs, oj, on_, ol⟩ := hp
   have hq := hid (show stP v b = .ok ⟨((0 : Nat) : Int), j, n, l⟩ r by rw [hP.out, hr]; rfl)
   have HO := hid (show StOwn w1 w.heap.size ⟨((0 : Nat) : Int), j, n, l⟩ ⟨aj, j.length, cj, an, n.length, cn, al, l.length, cl⟩ from ⟨oj, on_, ol, rfl, rfl, rfl⟩)
   have hsl := hSb.lt
   have z1 := hSb.thaw 1
   have z2 := hSb.thaw 2
   have z3 := hSb.thaw 3
   have x1 := (show _ = (some (.slice none 0 0) : Option Value) from hSb.cell 1)
   have x2 := (show _ = (some (.slice none 0 0) : Option Value) from hSb.cell 2)
   have x3 := (show _ = (some (.slice none 0 0) : Option Value) from hSb.cell 3)
   have hG := bes_set (bes_set (bes_set (grow_refl w1 S) 1 (.slice aj j.length cj)) 2 (.slice an n.length cn)) 3 (.slice al l.length cl)
   have HT := hid (((Two.refl w g S).fst hg).snd hG)
   have HX := hid (hs.grow hG (Nat.ne_of_gt hSg))
   have HB := hid (Blk.eq (((hSb.set 1 (.slice aj j.length cj)).set 2 (.slice an n.length cn)).set 3 (.slice al l.length cl)) (show _ = stC ⟨((0 : Nat) : Int), j, n, l⟩ ⟨aj, j.length, cj, an, n.length, cn, al, l.length, cl⟩ from rfl))
   have HO2 := hid (HO.out.grow hG (Nat.lt_trans hSg hgl))
   clear hg hr hs oj on_ ol hG hSb
   go_wp2
   go_end0
   exact D1Post.ok hq.out HT.out HX.out HB.out HO2.out
theorem rdec1_yes (g V S : Nat) (v : Int) (b : ByteArray) (w : World) (hx : SxAt w g b) (hV : Blk w V 3 #[.int .i64 v]) (hS : Blk w S 26 zSta) (hVg : V < g) (hSg : S < g) (hVS : V ≠ S) (hv : 2 < v) :
 Calls Tryz.prog 175 #[.pointer (some ⟨g, 0, none⟩), .pointer (some ⟨V, 0, none⟩), .pointer (some ⟨S, 0, none⟩)] w (D1Post g S v b w) := by
 have d1 : decide (2 < v) = true := decide_eq_true hv
 have hP := hid (show stP v b = (numP b).bind fun rev s => (rowsP v s).bind fun p s => .ok ⟨((rev : Nat) : Int), p.1, p.2.1, p.2.2⟩ s by rw [stP_rows]; unfold revP; rw [if_pos hv])
 have yV : w.cell? ⟨V, 0, none⟩ = some (.int .i64 v) := hV.cell 0
 have HN := hid (sxnum g b w hx)
 have HS := hid hS
 have HV := hid hV
 have hgl := hx.1.lt
 clear hV hS hv hx
 go_enter Tryz.func175, Tryz.ntmps175
 go_wp2_with fail
 refine Calls.mono HN.out ?_
 intro e w1 hp
 rcases hr : numP b with ⟨rev, s1⟩ | x
 rotate_left
 · obtain ⟨rfl, hg⟩ := hp.bad hr
   have hend := hid (D1Post.bad (show stP v b = .bad x by rw [hP.out, hr]; rfl) ((Two.refl w g S).fst hg) (grow_blk hg HS.out (Nat.ne_of_lt hSg)))
   clear hg hr hp
   unfold thrown
   go_wp2
   exact ⟨rfl, hend.out⟩
 obtain ⟨rfl, hs1, hg1⟩ := hp.ok hr
 have E0 := hid hr
 have hSb := grow_blk hg1 HS.out (Nat.ne_of_lt hSg)
 have hVb := grow_blk hg1 HV.out (Nat.ne_of_lt hVg)
 have z0 : w1.frozen? ⟨S, 0, none⟩ = false := hSb.thaw 0
 have x0 : w1.cell? ⟨S, 0, none⟩ = some (.int .i64 0) := hSb.cell 0
 have yV1 : w1.cell? ⟨V, 0, none⟩ = some (.int .i64 v) := hVb.cell 0
 have hSl := hSb.lt
 have T1 := hid (((Two.refl w g S).fst hg1).snd (grow_set w1 S 0 (.int .i64 (rev : Int))))
 have B1 := hid (Blk.eq (hSb.set 0 (.int .i64 (rev : Int))) (show _ = #[.int .i64 (rev : Int), .slice none 0 0, .slice none 0 0, .slice none 0 0] from rfl))
 have HR := hid (sxrows g s1 v _ (hs1.grow (grow_set w1 S 0 (.int .i64 (rev : Int))) (Nat.ne_of_gt hSg)))
 clear hr hp hs1 hg1 hSb hVb HN yV
 go_wp2_with fail
 refine Calls.mono HR.out ?_
 rintro e w2 ⟨hg, hp⟩
 have hSb := grow_blk hg B1.out (Nat.ne_of_lt hSg)
 rcases hr : rowsP v s1 with ⟨⟨j, n, l⟩, r⟩ | x
 rotate_left
 · rw [hr] at hp
   have hp : e = thrown x := hp
   subst hp
   have hend := hid (D1Post.bad (show stP v b = .bad x by rw [hP.out, E0.out, RR.bind_ok, hr]; rfl) (T1.out.fst hg) hSb)
   clear hg hr hSb
   unfold thrown
   go_wp2
   exact ⟨rfl, hend.out⟩
 · rw [hr] at hp
   obtain ⟨aj, cj, an, cn, al, cl, rfl, hs, oj, on_, ol⟩ := hp
   have hq := hid (show stP v b = .ok ⟨((rev : Nat) : Int), j, n, l⟩ r by rw [hP.out, E0.out, RR.bind_ok, hr]; rfl)
   have HO := hid (show StOwn w2 w.heap.size ⟨((rev : Nat) : Int), j, n, l⟩ ⟨aj, j.length, cj, an, n.length, cn, al, l.length, cl⟩ from ⟨ownT_base oj T1.out.size, ownT_base on_ T1.out.size, ownT_base ol T1.out.size, rfl, rfl, rfl⟩)
   have hsl := hSb.lt
   have z1 := hSb.thaw 1
   have z2 := hSb.thaw 2
   have z3 := hSb.thaw 3
   have x1 := (show _ = (some (.slice none 0 0) : Option Value) from hSb.cell 1)
   have x2 := (show _ = (some (.slice none 0 0) : Option Value) from hSb.cell 2)
   have x3 := (show _ = (some (.slice none 0 0) : Option Value) from hSb.cell 3)
   have hG := bes_set (bes_set (bes_set (grow_refl w2 S) 1 (.slice aj j.length cj)) 2 (.slice an n.length cn)) 3 (.slice al l.length cl)
   have HT := hid ((T1.out.fst hg).snd hG)
   have HX := hid (hs.grow hG (Nat.ne_of_gt hSg))
   have HB := hid (Blk.eq (((hSb.set 1 (.slice aj j.length cj)).set 2 (.slice an n.length cn)).set 3 (.slice al l.length cl)) (show _ = stC ⟨((rev : Nat) : Int), j, n, l⟩ ⟨aj, j.length, cj, an, n.length, cn, al, l.length, cl⟩ from rfl))
   have HO2 := hid (HO.out.grow hG (Nat.lt_trans hSg hgl))
   clear hg hr hs oj on_ ol hG hSb
   go_wp2
   go_end0
   exact D1Post.ok hq.out HT.out HX.out HB.out HO2.out
theorem stP_good (v : Int) {b : ByteArray} {N : Nat} (h : b.size ≤ N) : (stP v b).Good N := by
 unfold stP revP
 refine RR.Good.bind ?_ fun _ r hr => (takeP_good (fun _ => jobP_good) hr).bind fun _ r hr => (takeP_good (fun _ => nodeP_good) hr).bind fun _ r hr => (takeP_good (fun _ => leaseP_good) hr).bind fun _ r hr => hr
 split
 · exact numP_good h
 · exact h
theorem endP_cases {α : Type} {N : Nat} {R : RR α} (h : R.Good N) : (∃ x : Nat, x ≠ 0 ∧ endE R.st = x ∧ endP R = .bad x) ∨ (∃ a r, R = .ok a r ∧ endE R.st = 0 ∧ endP R = .ok a r) := by
 cases R with
 | bad x => exact .inl ⟨x, h.1, rfl, rfl⟩
 | ok a r =>
  by_cases hz : r.size = 0
  · exact .inr ⟨a, r, rfl, endE_ok0 hz, by unfold endP; rw [RR.bind_ok, if_pos hz]⟩
  · exact .inl ⟨4, by decide, endE_ok4 hz, by unfold endP; rw [RR.bind_ok, if_neg hz]⟩
theorem stP_sizes {v : Int} {b r : ByteArray} {st : StateD} (h : stP v b = .ok st r) : st.jobs.length ≤ 40 ∧ st.nodes.length ≤ 20 ∧ st.leases.length ≤ 40 ∧ JobsOk st.jobs ∧ NodesOk st.nodes ∧ LeasesOk st.leases := by
 unfold stP at h
 cases h1 : revP v b with
 | bad x => rw [h1] at h; cases h
 | ok rev s1 =>
  rw [h1, RR.bind_ok] at h
  cases h2 : takeP 40 (jobP v) s1 with
  | bad x => rw [h2] at h; cases h
  | ok j s2 =>
   rw [h2, RR.bind_ok] at h
   cases h3 : takeP 20 (nodeP v) s2 with
   | bad x => rw [h3] at h; cases h
   | ok n s3 =>
    rw [h3, RR.bind_ok] at h
    cases h4 : takeP 40 leaseP s3 with
    | bad x => rw [h4] at h; cases h
    | ok l s4 =>
     rw [h4, RR.bind_ok] at h
     injection h with e1 e2
     subst e1
     obtain ⟨a1, a2⟩ := takeP_all h2
     obtain ⟨b1, b2⟩ := takeP_all h3
     obtain ⟨c1, c2⟩ := takeP_all h4
     exact ⟨a1, b1, c1, fun x hx => by obtain ⟨_, _, h⟩ := a2 x hx; have := jobP_size h; omega, fun x hx => by obtain ⟨_, _, h⟩ := b2 x hx; have := nodeP_size h; omega, fun x hx => by obtain ⟨_, _, h⟩ := c2 x hx; have := leaseP_size h; omega⟩
end Go.Proofs.YtjgnnobccecpeaaGreatDoor
/- The walk of the reference's Decode. -/
namespace Go.Proofs.YtjgnnobccecpeaaGreatDoor
open Go.Lib (hid)
open Go.RowKit
theorem rdecode_arg (b : ByteArray) (v : Int) (w : World) (hv : v < 1 ∨ 3 < v) : Calls Tryz.prog 100 #[.string b, .int .i64 v] w (DecPost b v w) := by
 have Hend := hid (fun w' => DecPost.none_ (w := w) (w' := w') (decF_arg (b := b) hv))
 have hb1 : Below w.heap.size w (w.alloc (.cells #[.int .i64 v] 3)) := (Below.refl _ _).alloc (Nat.le_refl _) _
 have Hb2 := hid (hb1.alloc hb1.size (.cells zSta 26))
 have HO := hid (fun W => outside_yes v 1 3 hv W)
 clear hb1 hv
 go_enter Tryz.func100, Tryz.ntmps100
 go_wp2_with fail
 refine Calls.mono (HO.out _) ?_
 rintro e w1 ⟨rfl, rfl⟩
 go_wp2
 refine bodyPost_ret (v := .tuple #[.agg #[.int .i64 0, .slice none 0 0, .slice none 0 0, .slice none 0 0], .int .i64 1]) (by simp [results, Tryz.results100, go_sem]) rfl ?_
 exact Hend.out _ Hb2.out
def DKept (b : ByteArray) (v : Int) (w0 : World) (R S E : Nat) (W : World) : Prop :=
 Below w0.heap.size w0 W ∧ Blk W R 26 zSta ∧ match stP v b with
 | .ok st _ => ∃ x : StA, Blk W S 26 (stC st x) ∧ StOwn W (E + 1) st x
 | .bad _ => ∃ cs, Blk W S 26 cs
theorem DKept.grow {b : ByteArray} {v : Int} {w0 W W' : World} {R S E : Nat} (h : DKept b v w0 R S E W) (hg : W.grownBy W' (some E)) (h1 : w0.heap.size ≤ E) (hR : R ≠ E) (hS : S ≠ E) : DKept b v w0 R S E W' := by
 obtain ⟨a1, a2, a3⟩ := h
 refine ⟨grow_keep a1 hg h1, grow_blk hg a2 hR, ?_⟩
 revert a3
 cases stP v b with
 | bad x => exact fun ⟨cs, hb⟩ => ⟨cs, grow_blk hg hb hS⟩
 | ok st r => exact fun ⟨x, hb, ho⟩ => ⟨x, grow_blk hg hb hS, ho.grow hg (Nat.lt_succ_self _)⟩
theorem rdecode_in (b : ByteArray) (v : Int) (w : World) (hb : b.size ≤ 9223372036854775807) (hv : ¬ (v < 1 ∨ 3 < v)) : Calls Tryz.prog 100 #[.string b, .int .i64 v] w (DecPost b v w) := by
 have Hbad := hid (fun x h w' => DecPost.none_ (w := w) (w' := w') (decF_bad (b := b) (e := x) hv h))
 have Hchk := hid (fun st r h h3 w' => DecPost.none_ (w := w) (w' := w') (decF_check (b := b) (r := r) (st := st) hv h h3))
 have Hok := hid (fun st r h h3 => decF_ok (b := b) (v := v) (r := r) (st := st) hv h h3)
 have hb1 : Below w.heap.size w (w.alloc (.cells #[.int .i64 v] 3)) := (Below.refl _ _).alloc (Nat.le_refl _) _
 have hb2 := hb1.alloc hb1.size (.cells zSta 26)
 have hb3 := hb2.alloc hb2.size (.cells zSta 26)
 have HO := hid (fun W => outside_no v 1 3 (by omega) (by omega) W)
 obtain ⟨W0, hW0⟩ : ∃ W0, W0 = ((w.alloc (.cells #[.int .i64 v] 3)).alloc (.cells zSta 26)).alloc (.cells zSta 26) := ⟨_, rfl⟩
 have hsz : W0.heap.size = w.heap.size + 3 := by rw [hW0]; simp
 have BV : Blk W0 w.heap.size 3 #[.int .i64 v] := by rw [hW0]; exact Blk.alloc (Blk.alloc (show Blk _ _ _ _ from heap_alloc_new w _) _) _
 have BR : Blk W0 (w.heap.size + 1) 26 zSta := by
  have h := heap_alloc_new (w.alloc (.cells #[.int .i64 v] 3)) (.cells zSta 26)
  rw [show (w.alloc (.cells #[.int .i64 v] 3)).heap.size = w.heap.size + 1 by simp] at h
  rw [hW0]; exact Blk.alloc (show Blk _ _ _ _ from h) _
 have BS : Blk W0 (w.heap.size + 2) 26 zSta := by
  have h := heap_alloc_new ((w.alloc (.cells #[.int .i64 v] 3)).alloc (.cells zSta 26)) (.cells zSta 26)
  rw [show ((w.alloc (.cells #[.int .i64 v] 3)).alloc (.cells zSta 26)).heap.size = w.heap.size + 2 by simp] at h
  rw [hW0]; exact h
 have hb3 : Below w.heap.size w W0 := by rw [hW0]; exact hb3
 have hRd := readAll 175 #[.pointer (some ⟨w.heap.size, 0, none⟩), .pointer (some ⟨w.heap.size + 2, 0, none⟩)] b W0 hb (Go.Proofs.enters_of Tryz.func175 (by kernel_rfl) rfl) (stP v b).st (DKept b v w (w.heap.size + 1) (w.heap.size + 2) W0.heap.size)
  (fun W u h => h.grow (grow_set _ _ _ _) (by omega) (by omega) (by omega)) (fun W W' h _ hg => h.grow hg (by omega) (by omega) (by omega))
  (fun W hB hz hx => by
   have h1 := BV.below hB (by omega)
   have h2 := BS.below hB (by omega)
   have h3 := BR.below hB (by omega)
   have hd : Calls Tryz.prog 175 #[.pointer (some ⟨W0.heap.size + 1, 0, none⟩), .pointer (some ⟨w.heap.size, 0, none⟩), .pointer (some ⟨w.heap.size + 2, 0, none⟩)] W (D1Post (W0.heap.size + 1) (w.heap.size + 2) v b W) := by
    by_cases h2v : 2 < v
    · exact rdec1_yes _ _ _ v b W hx h1 h2 (by omega) (by omega) (by omega) h2v
    · exact rdec1_no _ _ _ v b W hx h1 h2 (by omega) (by omega) (by omega) h2v
   refine Calls.mono hd ?_
   rintro e W' ⟨hT, hp⟩
   have hk : Below w.heap.size w W' := hT.below (hb3.trans (hB.mono hb3.size)) (by omega) (by omega)
   have hR := hT.blk h3 (by omega) (by omega)
   have hE := hT.block W0.heap.size (by omega) (by omega) (by omega)
   unfold DKept
   cases hst : stP v b with
   | bad x =>
    rw [hst] at hp
    exact ⟨hp.1, hE, hk, hR, hp.2⟩
   | ok st r =>
    rw [hst] at hp
    obtain ⟨p1, p2, x, p3, p4⟩ := hp
    exact ⟨⟨p1, p2⟩, hE, hk, hR, x, p3, ⟨ownT_base p4.j (by omega), ownT_base p4.n (by omega), ownT_base p4.l (by omega), p4.lj, p4.ln, p4.ll⟩⟩)
 have hgd := stP_good v hb
 have hcs := endP_cases hgd
 have hszs := fun st r h => stP_sizes (v := v) (b := b) (st := st) (r := r) h
 have HRd := hid hRd
 clear hRd
 have Hcs := hid hcs
 have Hsz := hid hszs
 have HW0 := hid hW0
 have HS0 := hid hsz
 clear hb1 hb2 hb3 hv hb hW0 hsz BV BR BS hgd hcs hszs
 go_enter Tryz.func100, Tryz.ntmps100
 go_wp2_with fail
 refine Calls.mono (HO.out _) ?_
 rintro e w1 ⟨rfl, rfl⟩
 have hmf : ∀ (fn : Fn) (first cap : Array Value) (w : World), (Instr.makeFunc fn first cap).run Tryz.prog w = .ok (.func fn first cap) w := fun _ _ _ _ => rfl
 go_wp2_with fail
 rw [← HW0.out]
 refine Calls.mono HRd.out ?_
 rintro e w2 ⟨rfl, hk⟩
 obtain ⟨hbA, hRb, hk3⟩ := hk
 have HRb := hid hRb
 have HKb := hid hbA
 have hRl := hRb.lt
 have HS0' := HS0
 obtain ⟨u0, u1, u2, u3⟩ := Blk.z4 (hRb)
 obtain ⟨s0, s1, s2, s3⟩ := Blk.c4 (hRb)
 rcases Hcs.out with ⟨x, hx0, hxE, hres⟩ | ⟨st, r, hst, hE0, hres⟩
 · rw [hxE]
   have hne : ((x : Int) == 0) = false := by rw [beq_eq_false_iff_ne]; omega
   have hne2 : ((x : Int) != 0) = true := by rw [bne_iff_ne]; omega
   have hR4 := ((((HRb.out.set 0 (.int .i64 0)).set 1 (.slice none 0 0)).set 2 (.slice none 0 0)).set 3 (.slice none 0 0))
   have q0 := (show _ = (some (.int .i64 0) : Option Value) from hR4.cell 0)
   have q1 := (show _ = (some (.slice none 0 0) : Option Value) from hR4.cell 1)
   have q2 := (show _ = (some (.slice none 0 0) : Option Value) from hR4.cell 2)
   have q3 := (show _ = (some (.slice none 0 0) : Option Value) from hR4.cell 3)
   have hK4 := hid (grow_keep (grow_keep (grow_keep (grow_keep HKb.out (grow_set _ (w.heap.size + 1) 0 (.int .i64 0)) (by omega)) (grow_set _ (w.heap.size + 1) 1 (.slice none 0 0)) (by omega)) (grow_set _ (w.heap.size + 1) 2 (.slice none 0 0)) (by omega)) (grow_set _ (w.heap.size + 1) 3 (.slice none 0 0)) (by omega))
   clear hR4
   have Hend := hid (Hbad.out x hres _ hK4.out)
   clear hres hxE hk3 hbA hRb
   go_wp2
   refine bodyPost_ret (v := .tuple #[.agg #[.int .i64 0, .slice none 0 0, .slice none 0 0, .slice none 0 0], .int .i64 (x : Int)]) (by simp [results, Tryz.results100, go_sem, *]) rfl ?_
   exact Hend.out
 · rw [hE0]
   rw [hst] at hk3
   obtain ⟨x, hB, hO⟩ := hk3
   obtain ⟨z1, z2, z3, z4, z5, z6⟩ := Hsz.out st r hst
   have hAt := hO.at_ (by have := hO.lj; omega) (by have := hO.ln; omega) (by have := hO.ll; omega) z4 z5 z6
   have HAt := hid hAt
   have HO2 := hid hO
   have HC := hid (rcheck_any st x w2 hAt)
   have hSl := hB.lt
   have HB := hid hB
   have Hchk' := hid (Hchk.out st r hres)
   have Hok' := hid (Hok.out st r hres)
   obtain ⟨v0, v1, v2, v3⟩ := Blk.c4 (hB)
   obtain ⟨E, hE⟩ : ∃ E, checkE st = E := ⟨_, rfl⟩
   unfold RCPost at HC
   rw [hE] at HC Hchk' Hok'
   have Hst := hid hst
   unfold stC at HC
   clear hE hst hres hE0 hbA hRb hB hO hAt z1 z2 z3 z4 z5 z6
   go_wp2_with fail
   refine Calls.mono HC.out ?_
   rintro e w9 ⟨rfl, hb9⟩
   have HR9 := hid (HRb.out.below hb9 hRl)
   have HS9 := HB.out.below hb9 hSl
   have HK9 := hid (HKb.out.trans (hb9.mono HKb.out.size))
   have Hb9 := hid hb9
   have hsz9 := hb9.size
   clear v0 v1 v2 v3
   obtain ⟨uu0, uu1, uu2, uu3⟩ := Blk.z4 (HR9.out)
   obtain ⟨ss0, ss1, ss2, ss3⟩ := Blk.c4 (HR9.out)
   obtain ⟨vv0, vv1, vv2, vv3⟩ := Blk.c4 (HS9)
   clear HS9 hb9
   by_cases h0 : E = 0
   · subst h0
     have Hres := hid (Hok'.out rfl)
     have hR4 := ((((HR9.out.set 0 (.int .i64 st.rev)).set 1 (.slice x.aj x.nj x.cj)).set 2 (.slice x.an x.nn x.cn)).set 3 (.slice x.al x.nl x.cl))
     have q0 := (show _ = (some (.int .i64 st.rev) : Option Value) from hR4.cell 0)
     have q1 := (show _ = (some (.slice x.aj x.nj x.cj) : Option Value) from hR4.cell 1)
     have q2 := (show _ = (some (.slice x.an x.nn x.cn) : Option Value) from hR4.cell 2)
     have q3 := (show _ = (some (.slice x.al x.nl x.cl) : Option Value) from hR4.cell 3)
     have hK4 := hid (grow_keep (grow_keep (grow_keep (grow_keep HK9.out (grow_set _ (w.heap.size + 1) 0 (.int .i64 st.rev)) (by omega)) (grow_set _ (w.heap.size + 1) 1 (.slice x.aj x.nj x.cj)) (by omega)) (grow_set _ (w.heap.size + 1) 2 (.slice x.an x.nn x.cn)) (by omega)) (grow_set _ (w.heap.size + 1) 3 (.slice x.al x.nl x.cl)) (by omega))
     clear hR4
     go_wp2
     refine bodyPost_ret (v := .tuple #[.agg #[.int .i64 st.rev, .slice x.aj x.nj x.cj, .slice x.an x.nn x.cn, .slice x.al x.nl x.cl], .int .i64 0]) (by simp [results, Tryz.results100, go_sem, *]) rfl ?_
     refine ⟨st, x, 0, rfl, Hres.out, ?_, hK4.out⟩
     exact stAt_sets HAt.out HO2.out.j HO2.out.n HO2.out.l (by have := HS0.out; omega) (by have := HS0.out; omega) (by have := HS0.out; omega) Hb9.out _ _ _ _
   · have hne : (E != 0) = true := bne_iff_ne.2 h0
     have hR4 := ((((HR9.out.set 0 (.int .i64 0)).set 1 (.slice none 0 0)).set 2 (.slice none 0 0)).set 3 (.slice none 0 0))
     have q0 := (show _ = (some (.int .i64 0) : Option Value) from hR4.cell 0)
     have q1 := (show _ = (some (.slice none 0 0) : Option Value) from hR4.cell 1)
     have q2 := (show _ = (some (.slice none 0 0) : Option Value) from hR4.cell 2)
     have q3 := (show _ = (some (.slice none 0 0) : Option Value) from hR4.cell 3)
     have hK4 := hid (grow_keep (grow_keep (grow_keep (grow_keep HK9.out (grow_set _ (w.heap.size + 1) 0 (.int .i64 0)) (by omega)) (grow_set _ (w.heap.size + 1) 1 (.slice none 0 0)) (by omega)) (grow_set _ (w.heap.size + 1) 2 (.slice none 0 0)) (by omega)) (grow_set _ (w.heap.size + 1) 3 (.slice none 0 0)) (by omega))
     clear hR4
     have Hend := hid (Hchk'.out h0 _ hK4.out)
     go_wp2
     refine bodyPost_ret (v := .tuple #[.agg #[.int .i64 0, .slice none 0 0, .slice none 0 0, .slice none 0 0], .int .i64 E]) (by simp [results, Tryz.results100, go_sem, *]) rfl ?_
     exact Hend.out
theorem rdecode_any (b : ByteArray) (v : Int) (w : World) (hb : b.size ≤ 9223372036854775807) : Calls Tryz.prog 100 #[.string b, .int .i64 v] w (DecPost b v w) := by
 by_cases hv : v < 1 ∨ 3 < v
 · exact rdecode_arg b v w hv
 · exact rdecode_in b v w hb hv
theorem wdecode_any (b : ByteArray) (v : Int) (w : World) (hb : b.size ≤ 9223372036854775807) (hT : Tabs w) : Calls Tryz.prog 172 #[.string b, .int .i64 v] w (DecPost b v w) := by
 by_cases hv : v < 1 ∨ 3 < v
 · exact wdecode_arg b v w hv
 · by_cases h2 : 2 < v
   · exact wdecode_1 b v w hb hT hv h2
   · exact wdecode_0 b v w hb hT hv h2
end Go.Proofs.YtjgnnobccecpeaaGreatDoor
