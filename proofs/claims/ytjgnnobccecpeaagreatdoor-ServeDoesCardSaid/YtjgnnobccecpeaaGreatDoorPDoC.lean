/- Of the proof of a statement: DoC, SvTop. -/
import Derived.Test.YtjgnnobccecpeaaGreatDoorPArgReq
import Derived.Test.YtjgnnobccecpeaaGreatDoorPDoB
import Derived.Test.YtjgnnobccecpeaaGreatDoorPSvOwn
set_option linter.unusedVariables false
set_option linter.unusedSimpArgs false
set_option maxRecDepth 100000
set_option maxHeartbeats 8000000
/- (*work).do at the tick, and at the kinds that change nothing. -/
namespace Go.Proofs.YtjgnnobccecpeaaGreatDoor
open Go.Lib (hid)
open Go.RowKit
theorem gone_tick (BP WK N : Nat) (t : Int) (w : World) (g : Option Nat) (hb : Blk w BP 85 #[.pointer (some ⟨WK, 0, none⟩)]) (hk : Blk w WK 88 #[.pointer (some ⟨N, 0, none⟩), .int .i64 t]) (hg : g ≠ some BP) (hg2 : g ≠ some WK) : AnsG (fun l => decide (l.till ≤ t)) 116 #[.pointer (some ⟨BP, 0, none⟩)] w g := by
 intro W hW x
 have hb1 : Blk W BP 85 #[.pointer (some ⟨WK, 0, none⟩)] := (hW.block BP hb.lt (fun e => hg e.symm)).trans hb
 have hk1 : Blk W WK 88 #[.pointer (some ⟨N, 0, none⟩), .int .i64 t] := (hW.block WK hk.lt (fun e => hg2 e.symm)).trans hk
 have h1 : W.cell? ⟨BP, 0, none⟩ = some (.pointer (some ⟨WK, 0, none⟩)) := hb1.cell 0
 have h2 : W.cell? ⟨WK, 1, none⟩ = some (.int .i64 t) := hk1.cell 1
 have hl := hb1.lt
 have hl2 := hk1.lt
 obtain ⟨job, node, till⟩ := x
 show Calls Tryz.prog 116 #[.agg #[.string job, .string node, .int .i64 till], .pointer (some ⟨BP, 0, none⟩)] W _
 clear hb hk hW hb1 hk1
 go_enter Tryz.func116, Tryz.ntmps116
 go_wp2
 all_goals first | go_quiet (fail) | skip
 go_wp2
 go_ret
 exact ⟨rfl, ((Below.refl _ _).alloc (Nat.le_refl _) _).trans ⟨rfl, rfl, rfl, Nat.le_refl _, fun _ _ => rfl⟩⟩
theorem do_7 (base : Nat) (st : StateD) (x : StA) (N WK : Nat) (now : Int) (q : ReqD) (w : World) (h : DoIn w base st x N WK now) (hq : q.kind = 7) (hn0 : 0 ≤ now) (hn1 : now ≤ 1099511627776) (hq0 : 0 ≤ q.n) (hq1 : q.n ≤ 1099511627776) :
 Calls Tryz.prog 36 #[.pointer (some ⟨WK, 0, none⟩), reqA q] w (DoPost base N WK (if 1099511627776 - now < q.n then (1, st, now) else (0, stTick st (now + q.n), now + q.n)) w) := by
 obtain ⟨W, hW⟩ : ∃ W, (w.alloc (.cells #[.pointer (some ⟨WK, 0, none⟩)] 85)).alloc (.cells (reqC q) 44) = W := ⟨_, rfl⟩
 have hbW : Below w.heap.size w W := by rw [← hW]; exact ((Below.refl _ _).alloc (Nat.le_refl _) _).alloc (by simp) _
 have hbp : Blk W w.heap.size 85 #[.pointer (some ⟨WK, 0, none⟩)] := by rw [← hW]; exact Blk.alloc (show Blk _ _ _ _ from heap_alloc_new w _) _
 have hqb : Blk W (w.heap.size + 1) 44 (reqC q) := by
  rw [← hW]
  have := heap_alloc_new (w.alloc (.cells #[.pointer (some ⟨WK, 0, none⟩)] 85)) (.cells (reqC q) 44)
  rwa [show (w.alloc (.cells #[.pointer (some ⟨WK, 0, none⟩)] 85)).heap.size = w.heap.size + 1 by simp] at this
 have hw := h.w.below hbW
 have hk0 : W.cell? ⟨w.heap.size + 1, 0, none⟩ = some (.int .i64 7) := by rw [hqb.cell 0, ← hq]; rfl
 have q13 : W.cell? ⟨w.heap.size + 1, 13, none⟩ = some (.int .i64 q.n) := hqb.cell 13
 have bp0 : W.cell? ⟨w.heap.size, 0, none⟩ = some (.pointer (some ⟨WK, 0, none⟩)) := hbp.cell 0
 have wk1 : W.cell? ⟨WK, 1, none⟩ = some (.int .i64 now) := hw.wk.cell 1
 have wkz : W.frozen? ⟨WK, 1, none⟩ = false := hw.wk.thaw 1
 have H := hid h
 have Hw := hid hw
 have HbW := hid (hbW.mono h.w.bs)
 have Hbp := hid hbp
 clear hbW hbp hqb hw h
 unfold reqA
 unfold reqC at hW ⊢
 clear hq
 by_cases hgt : 1099511627776 - now < q.n
 · rw [if_pos hgt]
   have d1 : decide (1099511627776 - now < q.n) = true := decide_eq_true hgt
   go_enter Tryz.func36, Tryz.ntmps36
   go_wp2_with fail
   try rw [hW]
   clear hW
   go_region
   go_wp2
   go_ret
   exact ⟨rfl, HbW.out.drew, fun h => absurd h (by decide : (1 : Int) ≠ 0)⟩
 · rw [if_neg hgt]
   have d1 : decide (1099511627776 - now < q.n) = false := decide_eq_false hgt
   go_enter Tryz.func36, Tryz.ntmps36
   go_wp2_with fail
   try rw [hW]
   clear hW
   go_region
   go_wp2
   go_region
   obtain ⟨W2, hW2⟩ : ∃ W2, (W.setCell ⟨WK, 1, none⟩ (.int .i64 (now + q.n))).drew.drew = W2 := ⟨_, rfl⟩
   have hw2 : WkAt W2 base st x N WK (now + q.n) := by
    rw [← hW2]
    have ho := Hw.out.own
    exact ⟨blk_setOther Hw.out.nb Hw.out.wk (by decide), Blk.eq (Hw.out.wk.set 1 _) rfl, ⟨(own_setOther ho.j Hw.out.wk (by decide)).drew.drew, (own_setOther ho.n Hw.out.wk (by decide)).drew.drew, (own_setOther ho.l Hw.out.wk (by decide)).drew.drew, ho.lj, ho.ln, ho.ll⟩, Hw.out.bN, Hw.out.bW, by show base ≤ (W.setCell _ _).heap.size; simpa using Hw.out.bs⟩
   have hb2 : Blk W2 w.heap.size 85 #[.pointer (some ⟨WK, 0, none⟩)] := by
    rw [← hW2]
    exact blk_setOther Hbp.out Hw.out.wk (by decide)
   have HbX := hid (show Below base w W2 from by rw [← hW2]; exact (HbW.out.trans (below_setB (Below.refl _ _) Hw.out.bW)).drew.drew)
   have b0 : W2.cell? ⟨w.heap.size, 0, none⟩ = some (.pointer (some ⟨WK, 0, none⟩)) := hb2.cell 0
   have hol := hw2.own.l
   have HWO := hid (without_any (fun l => decide (l.till ≤ now + q.n)) 116 #[.pointer (some ⟨w.heap.size, 0, none⟩)] base st x N WK (now + q.n) W2 hw2 (by have := H.out.nl; omega) (enters_of Tryz.func116 (by kernel_rfl) rfl) (gone_tick w.heap.size WK N (now + q.n) W2 _ hb2 hw2.wk (own_notBlock hb2 hol (by decide)) (own_notBlock hw2.wk hol (by decide))))
   rw [hW2]
   clear hW2 hw2 hb2 hol Hw Hbp q13 bp0 wk1 wkz hk0
   go_wp2_with fail
   refine Calls.mono HWO.out ?_
   rintro e w5 ⟨rfl, ⟨x', hwk⟩, hb5⟩
   have Hend := hid (show DoPost base N WK (0, stTick st (now + q.n), now + q.n) w (.returned (.int .i64 0)) w5 from ⟨rfl, HbX.out.trans hb5, fun _ => ⟨x', hwk⟩⟩)
   clear hwk hb5 b0 HWO
   go_wp2
   go_ret
   exact Hend.out
theorem do_8 (base : Nat) (st : StateD) (x : StA) (N WK : Nat) (now : Int) (q : ReqD) (w : World) (h : DoIn w base st x N WK now) (hq : 8 ≤ q.kind) :
 Calls Tryz.prog 36 #[.pointer (some ⟨WK, 0, none⟩), reqA q] w (DoPost base N WK (0, st, now) w) := by
 obtain ⟨W, hW⟩ : ∃ W, (w.alloc (.cells #[.pointer (some ⟨WK, 0, none⟩)] 85)).alloc (.cells (reqC q) 44) = W := ⟨_, rfl⟩
 have hbW : Below w.heap.size w W := by rw [← hW]; exact ((Below.refl _ _).alloc (Nat.le_refl _) _).alloc (by simp) _
 have hqb : Blk W (w.heap.size + 1) 44 (reqC q) := by
  rw [← hW]
  have := heap_alloc_new (w.alloc (.cells #[.pointer (some ⟨WK, 0, none⟩)] 85)) (.cells (reqC q) 44)
  rwa [show (w.alloc (.cells #[.pointer (some ⟨WK, 0, none⟩)] 85)).heap.size = w.heap.size + 1 by simp] at this
 have hw := h.w.below hbW
 have hk0 : W.cell? ⟨w.heap.size + 1, 0, none⟩ = some (.int .i64 q.kind) := hqb.cell 0
 have Hend := hid (show DoPost base N WK (0, st, now) w (.returned (.int .i64 0)) W from ⟨rfl, hbW.mono h.w.bs, fun _ => ⟨x, hw⟩⟩)
 have d1 : (q.kind == 1) = false := beq_false_of_ne (by omega)
 have d2 : (q.kind == 2) = false := beq_false_of_ne (by omega)
 have d3 : (q.kind == 3) = false := beq_false_of_ne (by omega)
 have d4 : (q.kind == 4) = false := beq_false_of_ne (by omega)
 have d5 : (q.kind == 5) = false := beq_false_of_ne (by omega)
 have d6 : (q.kind == 6) = false := beq_false_of_ne (by omega)
 have d7 : (q.kind == 7) = false := beq_false_of_ne (by omega)
 clear hbW hqb hw h hq
 unfold reqA
 unfold reqC at hW ⊢
 go_enter Tryz.func36, Tryz.ntmps36
 go_wp2
 go_ret
 try rw [hW]
 exact Hend.out
end Go.Proofs.YtjgnnobccecpeaaGreatDoor
/- The walks of serve.New, (*Server).State and (*Server).Now. -/
namespace Go.Proofs.YtjgnnobccecpeaaGreatDoor
open Go.Lib (hid)
open Go.RowKit
def NewPost (st : StateD) (w : World) (e : Ending) (w' : World) : Prop :=
 Below w.heap.size w w' ∧ ((checkE st ≠ 0 ∧ e = .returned (.tuple #[.pointer none, .int .i64 (checkE st)])) ∨
  (checkE st = 0 ∧ ∃ V x', e = .returned (.tuple #[.pointer (some ⟨V, 0, none⟩), .int .i64 0]) ∧ w.heap.size ≤ V ∧ SrvAt w' 77 V st x' 0))
theorem oks_of {w : World} {B : Nat} {st : StateD} {x : StA} (h : StAt w B st x) : JobsOk st.jobs ∧ NodesOk st.nodes ∧ LeasesOk st.leases := ⟨h.oj, h.on_, h.ol⟩
theorem svnew_any (st : StateD) (x : StA) (w : World) (hS : StAt w w.heap.size st x) (hT : Tabs w) :
 Calls Tryz.prog 7 #[.agg (stC st x)] w (NewPost st w) := by
 obtain ⟨W, hW⟩ : ∃ W, w.alloc (.cells (stC st x) 26) = W := ⟨_, rfl⟩
 have hbW : Below w.heap.size w W := by rw [← hW]; exact (Below.refl _ _).alloc (Nat.le_refl _) _
 have hB : Blk W w.heap.size 26 (stC st x) := by rw [← hW]; exact heap_alloc_new w _
 have hS1 := hS.upS hbW
 have HC := hid (show Calls Tryz.prog 27 #[.agg #[.int .i64 st.rev, .slice x.aj x.nj x.cj, .slice x.an x.nn x.cn, .slice x.al x.nl x.cl]] W _ from scheck_any st x W hS1 (hT.below hbW))
 obtain ⟨c0, c1, c2, c3⟩ := Blk.c4 (hB)
 have hlt := hB.lt
 have HB := hid hB
 have HbW := hid hbW
 have HS := hid hS1
 have HW := hid hW
 obtain ⟨E, hE⟩ : ∃ E, checkE st = E := ⟨_, rfl⟩
 have HE := hid hE
 clear hW hB hbW hS hS1 hT hE
 unfold stC at HW ⊢
 go_enter Tryz.func7, Tryz.ntmps7
 go_wp2_with fail
 try rw [HW.out]
 clear HW
 refine Calls.mono HC.out ?_
 rintro e w1 ⟨rfl, hb1⟩
 rw [HE.out]
 have HB1 := hid (HB.out.below hb1 HB.out.lt)
 have Hb1 := hid (HbW.out.trans (hb1.mono HbW.out.size))
 have HS1 := hid (HS.out.upS hb1)
 clear hb1 HC HB HbW HS c0 c1 c2 c3 hlt
 by_cases h0 : E = 0
 · have HE0 := hid (HE.out.trans h0)
   subst h0
   have hsz := sizes_of HS1.out HE0.out
   have HO := hid (show Calls Tryz.prog 28 #[.agg #[.int .i64 st.rev, .slice x.aj x.nj x.cj, .slice x.an x.nn x.cn, .slice x.al x.nl x.cl]] w1 _ from sown_any st x w1 HS1.out (by omega) (by omega) (by omega))
   have Hsz := hid hsz
   clear hsz HE
   obtain ⟨c0, c1, c2, c3⟩ := Blk.c4 (HB1.out)
   have hlt := HB1.out.lt
   go_wp2_with fail
   refine Calls.mono HO.out ?_
   rintro e w2 ⟨y, rfl, e1, e2, e3, ho, hb2⟩
   obtain ⟨oj, on_, ol⟩ := oks_of HS1.out
   have hA2 := ho.at2 (by have := Hsz.out; omega) (by have := Hsz.out; omega) (by have := Hsz.out; omega) oj on_ ol
   have Hb2 := hid (Hb1.out.trans (hb2.mono Hb1.out.size))
   have HA2 := hid hA2
   have hb3 : Below w2.heap.size w2 (w2.alloc (.cells (srvC st y 0) 77)) := (Below.refl _ _).alloc (Nat.le_refl _) _
   have Hfin := hid (show NewPost st w (.returned (.tuple #[.pointer (some ⟨w2.heap.size, 0, none⟩), .int .i64 0])) (w2.alloc (.cells #[.int .i64 st.rev, .slice y.aj y.nj y.cj, .slice y.an y.nn y.cn, .slice y.al y.nl y.cl, .int .i64 0] 77)) from ⟨Hb2.out.trans (hb3.mono Hb2.out.size), .inr ⟨HE0.out, w2.heap.size, y, rfl, Hb2.out.size, heap_alloc_new w2 _, hA2.upS hb3, HE0.out, by omega⟩⟩)
   clear hA2 ho hb2 hb3 HO c0 c1 c2 c3 hlt oj on_ ol e1 e2 e3 Hsz
   unfold stC
   go_wp2
   go_ret2
   exact Hfin.out
 · have d1 : (E != 0) = true := by simpa using h0
   have Hfin := hid (show NewPost st w (.returned (.tuple #[.pointer none, .int .i64 E])) w1 from ⟨Hb1.out, .inl ⟨by rw [HE.out]; exact h0, by rw [HE.out]⟩⟩)
   go_wp2
   go_ret2
   exact Hfin.out
def StatePost (st : StateD) (w : World) (e : Ending) (w' : World) : Prop := ∃ y, e = .returned (.agg (stC st y)) ∧ StAt w' w'.heap.size st y ∧ Below w.heap.size w w'
theorem svstate_any (st : StateD) (x : StA) (now : Int) (V : Nat) (w : World) (h : SrvAt w 77 V st x now) :
 Calls Tryz.prog 14 #[.pointer (some ⟨V, 0, none⟩)] w (StatePost st w) := by
 obtain ⟨W, hW⟩ : ∃ W, w.alloc (.cells zSta 26) = W := ⟨_, rfl⟩
 have hbW : Below w.heap.size w W := by rw [← hW]; exact (Below.refl _ _).alloc (Nat.le_refl _) _
 have hR : Blk W w.heap.size 26 zSta := by rw [← hW]; exact heap_alloc_new w _
 have h1 := h.below hbW
 have hsz := sizes_of h1.at_ h1.ok
 have HO := hid (show Calls Tryz.prog 28 #[.agg #[.int .i64 st.rev, .slice x.aj x.nj x.cj, .slice x.an x.nn x.cn, .slice x.al x.nl x.cl]] W _ from sown_any st x W h1.at_ (by omega) (by omega) (by omega))
 obtain ⟨c0, c1, c2, c3⟩ := Blk.c4 (h.blk)
 have hlt := h1.blk.lt
 have hlV := h.blk.lt
 have HR := hid hR
 have HbW := hid hbW
 have H1 := hid h1
 have HW := hid hW
 have Hsz := hid hsz
 clear hW hR hbW h h1 hsz
 go_enter Tryz.func14, Tryz.ntmps14
 go_wp2_with fail
 try rw [HW.out]
 clear HW
 refine Calls.mono HO.out ?_
 rintro e w2 ⟨y, rfl, e1, e2, e3, ho, hb2⟩
 obtain ⟨oj, on_, ol⟩ := oks_of H1.out.at_
 have hA2 := ho.at2 (by have := Hsz.out; omega) (by have := Hsz.out; omega) (by have := Hsz.out; omega) oj on_ ol
 have hR2 := HR.out.below hb2 HR.out.lt
 have hB2 := HbW.out.trans (hb2.mono HbW.out.size)
 obtain ⟨z0, z1, z2, z3⟩ := Blk.z4 (hR2)
 obtain ⟨r0, r1, r2, r3⟩ := Blk.c4 (hR2)
 obtain ⟨hR3, hG3⟩ := Blk.S4 (hR2) (.int .i64 st.rev) (.slice y.aj y.nj y.cj) (.slice y.an y.nn y.cn) (.slice y.al y.nl y.cl)
 obtain ⟨y0, y1, y2, y3⟩ := Blk.c4 hR3
 have hlr := hR2.lt
 have Hfin := hid (show StatePost st w (.returned (.agg (stC st y))) _ from ⟨y, rfl, (hA2.butN hR2 (noStr_st ⟨0, [], [], []⟩ ⟨none, 0, 0, none, 0, 0, none, 0, 0⟩) hG3).more hG3.size, grow_keep hB2 hG3 (Nat.le_refl _)⟩)
 clear hA2 ho hb2 hR2 hB2 hR3 hG3 HO c0 c1 c2 c3 hlt e1 e2 e3 oj on_ ol Hsz HR HbW H1
 unfold stC
 go_wp2
 refine bodyPost_ret (v := .agg (stC st y)) (by simp [results, Tryz.results14, go_sem, stC, *]) rfl ?_
 exact Hfin.out
theorem svnow_any (st : StateD) (x : StA) (now : Int) (V : Nat) (w : World) (h : SrvAt w 77 V st x now) :
 Calls Tryz.prog 15 #[.pointer (some ⟨V, 0, none⟩)] w fun e w' => e = .returned (.int .i64 now) ∧ w = w' := by
 have c4 : w.cell? ⟨V, 4, none⟩ = some (.int .i64 now) := h.blk.cell 4
 have hlV := h.blk.lt
 clear h
 go_enter Tryz.func15, Tryz.ntmps15
 go_wp2
 go_ret
 exact ⟨rfl, rfl⟩
end Go.Proofs.YtjgnnobccecpeaaGreatDoor
