/- Of the proof. -/
import Derived.Test.YtjgnnobccecpeaaGreatDoorPNxB
set_option linter.unusedVariables false
set_option linter.unusedSimpArgs false
set_option maxRecDepth 100000
set_option maxHeartbeats 8000000
namespace Go.Proofs.YtjgnnobccecpeaaGreatDoor
open Go.Lib (hid)
open List (foldl_cons foldl_nil setIfInBounds_toArray set_cons_succ set_cons_zero)
open Go.RowKit
def nxFV (st : StateD) (x : StA) (nw E : Int) : Nat → Value → Prop
 | 0, u => u = .agg #[.int .i64 st.rev, .slice x.aj x.nj x.cj, .slice x.an x.nn x.cn, .slice x.al x.nl x.cl]
 | 1, u => u = .int .i64 nw
 | 3, u => u = .int .i64 nw
 | 4, u => u = .int .i64 E
 | _, _ => True
def nxGV (st : StateD) (x : StA) (nw E : Int) : Nat → Value → Prop
 | 0, u => u = .agg #[.int .i64 st.rev, .slice x.aj x.nj x.cj, .slice x.an x.nn x.cn, .slice x.al x.nl x.cl]
 | 1, u => u = .int .i64 nw
 | 2, u => u = .int .i64 E
 | 4, u => u = .int .i64 nw
 | 5, u => u = .int .i64 E
 | _, _ => True
theorem rnext_3 (q : ReqD) (st : StateD) (x : StA) (now : Int) (w : World) (hS : StAt w w.heap.size st x) (h1 : x.nj ≤ 1000) (h2 : x.nn ≤ 1000) (h3 : x.nl ≤ 1000) (hok : ROk q) (HRq : ∀ W, Calls Tryz.prog 123 #[reqA q] W (ErrPost 0 W)) (hq : q.kind = 3) :
 Calls Tryz.prog 39 #[.agg (srvC st x now), reqA q] w (RNxPost (if (jobOf st.jobs q.name).isSome = true then (checkE (stDelJ st q.name), stDelJ st q.name, now) else (6, st, now)) w) := by
 obtain ⟨q1, q2, q3, q4⟩ := three_blk w (srvC st x now) (reqC q) zSta (ta := 36) (tb := 44) (tc := 26)
 obtain ⟨W0, hW0⟩ : ∃ W0, ((w.alloc (.cells (srvC st x now) 36)).alloc (.cells (reqC q) 44)).alloc (.cells zSta 26) = W0 := ⟨_, rfl⟩
 rw [hW0] at q1 q2 q3 q4
 have H0 : NxP w st x now q 0 ⟨none, none⟩ W0.drew := ⟨q4.drew, q1, q2, q3, (hS.upS q4).drew, fun O h => (by cases h), fun N h => (by cases h), fun O N h => (by cases h)⟩
 have HRq := hid HRq
 obtain ⟨G, hG⟩ : ∃ G, (if (jobOf st.jobs q.name).isSome = true then (checkE (stDelJ st q.name), stDelJ st q.name, now) else (6, st, now)) = G := ⟨_, rfl⟩
 rw [hG]
 have HG := hid hG
 clear hG
 have Hq := hid hq
 clear hq
 have HW0 := hid hW0
 clear q1 q2 q3 q4 hS hW0
 unfold reqA
 unfold srvC reqC at HW0 ⊢
 go_enter Tryz.func39, Tryz.ntmps39
 go_wp2_with fail
 rw [HW0.out]
 clear HW0
 refine rq 184 (nxV w.heap.size st x now) [6, 7] (NxP w st x now q) ⟨none, none⟩ H0 ?_ ?_
 · clear H0
   refine ⟨?_, ?_, ?_, ?_, ?_, ?_, ?_, ?_, trivial⟩
   · exact ok0 0 2 2 rfl fun _ => rfl
   · refine okQ 0 2 fun p γ a wx _ _ hp hk => ?_
     obtain ⟨u1, h1, rfl⟩ := hk.g 0 13 rfl rfl
     obtain ⟨hc0, hc1, hc2, hc3⟩ := Blk.c4 (hp.s)
     simp [go_sem, Oper.wp, execOp, Act.eval, h1, hc0, hc1, hc2, hc3]
     exact ⟨_, rfl, γ, fun _ _ _ h => h, rfl, hp⟩
   · exact ok0 0 2 2 rfl fun _ => rfl
   · refine okQ 0 2 fun p γ a wx _ _ hp hk => ?_
     obtain ⟨u1, h1, rfl⟩ := hk.g 2 15 rfl rfl
     have hc4 : wx.cell? ⟨w.heap.size, 4, none⟩ = some (.int .i64 now) := hp.s.cell 4
     simp [go_sem, Oper.wp, execOp, Act.eval, h1, hc4]
     exact ⟨_, rfl, γ, fun _ _ _ h => h, rfl, hp⟩
   · refine okQ 0 0 fun p γ a wx _ _ hp hk => ?_
     obtain rfl : p = 0 := by omega
     simp [go_sem, Oper.wp, execOp, Act.eval]
     exact ⟨_, rfl, ⟨some wx.heap.size, γ.N⟩, nxV_4 _, ⟨_, rfl, rfl⟩, hp.allocO⟩
   · refine okQ 0 0 fun p γ a wx _ _ hp hk => ?_
     obtain rfl : p = 0 := by omega
     simp [go_sem, Oper.wp, execOp, Act.eval]
     exact ⟨_, rfl, ⟨γ.O, some wx.heap.size⟩, nxV_5 _, ⟨_, rfl, rfl⟩, hp.allocN⟩
   · refine .inl ⟨0, rfl, fun γ a wx hp hk => wantWp_free rfl ?_⟩
     obtain ⟨u1, h1, r1⟩ := hk.g 4 7 rfl rfl
     obtain ⟨u2, h2, rfl⟩ := hk.g 1 14 rfl rfl
     obtain ⟨O, eO, r1⟩ := (show ∃ O, γ.O = some O ∧ u1 = .pointer (some ⟨O, 0, none⟩) from r1)
     subst r1
     have hB : Blk wx O 26 zSta := (hp.o O eO).2
     obtain ⟨z0, z1, z2, z3⟩ := Blk.z4 (hB)
     obtain ⟨c0, c1, c2, c3⟩ := Blk.c4 (hB)
     obtain ⟨hb4, hg4⟩ := Blk.S4 hB (.int .i64 st.rev) (.slice x.aj x.nj x.cj) (.slice x.an x.nn x.cn) (.slice x.al x.nl x.cl)
     have hfin := hp.setO eO hg4 hb4
     clear hB hp
     simp [go_sem, Oper.wp, execOp, Act.eval, h1, h2, c0, c1, c2, c3, z0, z1, z2, z3]
     exact ⟨.int .i64 0, γ, fun _ _ _ h => h, trivial, hfin⟩
   · refine .inl ⟨1, rfl, fun γ a wx hp hk => wantWp_free rfl ?_⟩
     obtain ⟨u1, h1, r1⟩ := hk.g 5 8 rfl rfl
     obtain ⟨u2, h2, rfl⟩ := hk.g 3 16 rfl rfl
     obtain ⟨N, eN, r1⟩ := (show ∃ N, γ.N = some N ∧ u1 = .pointer (some ⟨N, 0, none⟩) from r1)
     subst r1
     have hB : Blk wx N 3 #[.int .i64 0] := (hp.n N eN).2
     have z0 : wx.frozen? ⟨N, 0, none⟩ = false := hB.thaw 0
     have c0 : wx.cell? ⟨N, 0, none⟩ = some (.int .i64 0) := hB.cell 0
     have hfin := hp.setN eN (grow_set wx N 0 (.int .i64 now)) (Blk.eq (hB.set 0 (.int .i64 now)) rfl)
     clear hB hp
     simp [go_sem, Oper.wp, execOp, Act.eval, h1, h2, c0, z0]
     exact ⟨.int .i64 0, γ, fun _ _ _ h => h, trivial, hfin⟩
 intro γ act wx hd
 have hp := hd.ph
 obtain ⟨fv, rfl, hfv⟩ := hd.frame [13, 14, 15, 16, 7, 8] rfl
 obtain ⟨O, eO, f7⟩ := (show ∃ O, γ.O = some O ∧ fv 7 = .pointer (some ⟨O, 0, none⟩) from hfv 4 _ 7 rfl rfl)
 obtain ⟨N, eN, f8⟩ := (show ∃ N, γ.N = some N ∧ fv 8 = .pointer (some ⟨N, 0, none⟩) from hfv 5 _ 8 rfl rfl)
 have HN := hid (show NxAt w wx O N st x now now q st x from ⟨hp.below, hp.s, hp.q, hp.r, (hp.o O eO).2, (hp.n N eN).2, hp.at_, hp.at_, (hp.o O eO).1, (hp.n N eN).1, hp.ne O N eO eN⟩)
 clear hd hfv hp H0 eO eN
 simp only [foldl_cons, foldl_nil, setIfInBounds_toArray, set_cons_succ, set_cons_zero, f7, f8]
 clear f7 f8
 obtain ⟨c0, c1, c2, c3, c4, c5, c6, c7, c8, c9, c10, c11, c12, c13⟩ := Blk.c14 (HN.out.q)
 have HC := hid (show Calls Tryz.prog 123 #[.agg (reqL q)] wx (ErrPost 0 wx) from HRq.out wx)
 have hlq := HN.out.q.lt
 clear HRq
 go_wp2_with fail
 refine Calls.mono HC.out ?_
 rintro e w1 ⟨rfl, hb1⟩
 have HN := hid (HN.out.kept hb1)
 have hlq := HN.out.q.lt
 have hls := HN.out.s.lt
 have hlo := HN.out.o.lt
 have hln := HN.out.n.lt
 clear hb1 HC c0 c1 c2 c3 c4 c5 c6 c7 c8 c9 c10 c11 c12 c13
 have c0 : w1.cell? ⟨w.heap.size + 1, 0, none⟩ = some (.int .i64 3) := by rw [HN.out.q.cell 0, ← Hq.out]; rfl
 have c12 : w1.cell? ⟨w.heap.size + 1, 12, none⟩ = some (.string q.name) := HN.out.q.cell 12
 have s1 : w1.cell? ⟨w.heap.size, 1, none⟩ = some (.slice x.aj x.nj x.cj) := HN.out.s.cell 1
 have HA := hid (jobAt_any st.jobs q.name x.aj x.nj x.cj w1 HN.out.at_.j HN.out.at_.lj (by omega))
 go_wp2_with fail
 refine Calls.mono HA.out ?_
 rintro e w2 ⟨ix, rfl, hb2, hcase⟩
 have HN := hid (HN.out.kept hb2)
 clear hb2 HA
 have hls := HN.out.s.lt
 have hlq := HN.out.q.lt
 have hlo := HN.out.o.lt
 have hln := HN.out.n.lt
 rcases hcase with ⟨rfl, hno⟩ | ⟨kk, xx, rfl, hxx, hso⟩
 · have HR := hid (show G = (6, st, now) from HG.out.symm.trans (if_neg (by simp [show jobOf st.jobs q.name = none from hno])))
   clear hno
   go_wp2_with fail
   refine rq (Γ := Unit) 184 (fun _ => nxFV st x now 6) [2] (fun p _ => nxE w O N st x now now q st x (p + 1)) () (show NxAt w (w2).drew O N st x now now q st x from HN.out.drewN) ?_ ?_
   · clear HN
     refine ⟨?_, ?_, ?_, ?_, ?_, trivial⟩
     · refine okQ 0 0 fun p γ a wx _ _ hp hk => ?_
       have h1 := hk.k 7 rfl
       obtain rfl : p = 0 := by omega
       have hp := (show NxAt w wx O N st x now now q st x from nxE_lt (by omega) hp)
       obtain ⟨hc0, hc1, hc2, hc3⟩ := Blk.c4 (hp.o)
       simp [go_sem, Oper.wp, execOp, Act.eval, h1, hc0, hc1, hc2, hc3]
       exact ⟨_, rfl, rfl, nxE_mk (by omega) hp⟩
     · refine okQ 0 1 fun p γ a wx _ _ hp hk => ?_
       have h1 := hk.k 8 rfl
       have hc0 : wx.cell? ⟨N, 0, none⟩ = some (.int .i64 now) := (nxE_n hp).cell 0
       simp [go_sem, Oper.wp, execOp, Act.eval, h1, hc0]
       exact ⟨_, rfl, rfl, hp⟩
     · refine .inl ⟨0, rfl, fun γ a wx hp hk => wantWp_free rfl ?_⟩
       have h1 := hk.k 4 rfl
       obtain ⟨u2, h2, rfl⟩ := hk.g 0 54 rfl rfl
       have hp := (show NxAt w wx O N st x now now q st x from hp)
       have hB := hp.r
       obtain ⟨z0, z1, z2, z3⟩ := Blk.z4 (hB)
       obtain ⟨c0, c1, c2, c3⟩ := Blk.c4 (hB)
       obtain ⟨hb4, hg4⟩ := Blk.S4 hB (.int .i64 st.rev) (.slice x.aj x.nj x.cj) (.slice x.an x.nn x.cn) (.slice x.al x.nl x.cl)
       have hfin : nxE w O N st x now now q st x 2 _ := ⟨wx, hp, hg4, hb4⟩
       clear hB hp
       simp [go_sem, Oper.wp, execOp, Act.eval, h1, h2, c0, c1, c2, c3, z0, z1, z2, z3]
       exact ⟨⟨.int .i64 0, trivial⟩, hfin⟩
     · exact ok1 1 1 1 55 rfl rfl (fun _ _ h => h) fun _ => rfl
     · refine okQ 1 1 fun p γ a wx _ _ hp hk => ?_
       simp [go_sem, Oper.wp, execOp, Act.eval]
       exact ⟨_, rfl, rfl, hp⟩
   intro γ act wz hd
   obtain ⟨wm, hm, hg, hr⟩ := (show ∃ wm, NxAt w wm O N st x now now q st x ∧ wm.grownBy wz (some (w.heap.size + 2)) ∧ Blk wz (w.heap.size + 2) 26 (stC st x) from hd.ph)
   obtain ⟨fv, rfl, hfv⟩ := hd.frame [54, 55, 5, 6] rfl
   have f5 : fv 5 = .int .i64 now := hfv 3 _ 5 rfl rfl
   have f6 : fv 6 = .int .i64 6 := hfv 4 _ 6 rfl rfl
   obtain ⟨y0, y1, y2, y3⟩ := Blk.c4 (hr)
   have Hend := hid (hm.end_ hg 6)
   clear hd hfv hm hg hr HN
   simp only [foldl_cons, foldl_nil, setIfInBounds_toArray, set_cons_succ, set_cons_zero, f5, f6]
   clear f5 f6
   go_wp2
   refine bodyPost_ret (v := .tuple #[.agg (stC st x), .int .i64 now, .int .i64 6]) (by simp [results, Tryz.results39, go_sem, stC, *]) rfl ?_
   rw [HR.out]
   exact Hend.out
 · have HR := hid (show G = (checkE (stDelJ st q.name), stDelJ st q.name, now) from HG.out.symm.trans (if_pos (by simp [show jobOf st.jobs q.name = some xx from hso])))
   have d0 : decide ((kk : Int) < 0) = false := decide_eq_false (by omega)
   clear hxx hso
   have s1 : w2.cell? ⟨w.heap.size, 1, none⟩ = some (.slice x.aj x.nj x.cj) := HN.out.s.cell 1
   have HP := hid (rwo_job (fun a => decide (a.name = q.name)) 125 #[.pointer (some ⟨w.heap.size + 1, 0, none⟩)] st.jobs x.aj x.nj x.cj w2 (enters_of Tryz.func125 (by kernel_rfl) rfl) HN.out.at_.j HN.out.at_.lj h1 (nxDelJ (w.heap.size + 1) q st.jobs w2 HN.out.q))
   go_wp2_with fail
   refine Calls.mono HP.out ?_
   rintro e w3 ⟨A, c, rfl, ho, hb3⟩
   obtain ⟨m, hm⟩ : ∃ m, (st.jobs.filter fun a => !decide (a.name = q.name)).length = m := ⟨_, rfl⟩
   have hmb : m ≤ 1000 := by
    have h := List.length_filter_le (fun a => !decide (a.name = q.name)) st.jobs
    have h2 := HN.out.at_.lj
    rw [← hm]
    omega
   have hN3 := HN.out.kept hb3
   rw [hm] at ho ⊢
   have H4 := hid (show NxAt w (w3.setCell ⟨O, 1, none⟩ (.slice A m c)) O N st x now now q ⟨st.rev, st.jobs.filter fun a => !decide (a.name = q.name), st.nodes, st.leases⟩ ⟨A, m, c, x.an, x.nn, x.cn, x.al, x.nl, x.cl⟩ from
    hN3.setO 1 _ rfl (hN3.ao.withJ c (own_slAt ho) hm (by omega) (fun z hz => hN3.at_.oj z (List.mem_filter.1 hz).1)))
   have o1 : w3.cell? ⟨O, 1, none⟩ = some (.slice x.aj x.nj x.cj) := hN3.o.cell 1
   have z1 : w3.frozen? ⟨O, 1, none⟩ = false := hN3.o.thaw 1
   have hlo3 := hN3.o.lt
   obtain ⟨w4, hw4⟩ : ∃ w4, w3.setCell ⟨O, 1, none⟩ (.slice A m c) = w4 := ⟨_, rfl⟩
   rw [hw4] at H4
   have Hw4 := hid hw4
   have HL := hid (nxLeases (fun l => decide (l.job = q.name)) 126 #[.pointer (some ⟨w.heap.size + 1, 0, none⟩)] w w4 O N st x now now q ⟨st.rev, st.jobs.filter fun a => !decide (a.name = q.name), st.nodes, st.leases⟩ ⟨A, m, c, x.an, x.nn, x.cn, x.al, x.nl, x.cl⟩ H4.out h3 (enters_of Tryz.func126 (by kernel_rfl) rfl) (nxDelJL (w.heap.size + 1) q st.leases w4 H4.out.q))
   clear hm ho hb3 hN3 HP HN hw4 s1 H4 c0 c12
   go_wp2_with fail
   try simp only [Hw4.out]
   refine Calls.mono HL.out ?_
   rintro e w5 ⟨rfl, xo, hn5⟩
   have H5 := hid hn5
   clear hn5 HL Hw4 o1 z1
   obtain ⟨so, hso⟩ : ∃ so, stDelJ st q.name = so := ⟨_, rfl⟩
   have H5 := hid (show NxAt w w5 O N st x now now q so xo from by rw [← hso]; exact H5.out)
   have Hso := hid hso
   clear hso
   go_wp2_with fail
   obtain ⟨E, hE⟩ : ∃ E, checkE so = E := ⟨_, rfl⟩
   have HE := hid (show Value.int .i64 (checkE so) = Value.int .i64 E from by rw [hE])
   have HE2 := hid hE
   clear hE
   refine rq (Γ := Unit) 184 (fun _ => nxEV so xo now E) [3, 4] (fun p _ => nxE w O N st x now now q so xo p) () (show NxAt w (w5).drew O N st x now now q so xo from H5.out.drewN) ?_ ?_
   · clear H5
     refine ⟨?_, ?_, ?_, ?_, ?_, ?_, ?_, trivial⟩
     · refine okQ 0 1 fun p γ a wx _ _ hp hk => ?_
       have h1 := hk.k 7 rfl
       have hp := (show NxAt w wx O N st x now now q so xo from nxE_lt (by omega) hp)
       obtain ⟨hc0, hc1, hc2, hc3⟩ := Blk.c4 (hp.o)
       simp [go_sem, Oper.wp, execOp, Act.eval, h1, hc0, hc1, hc2, hc3]
       exact ⟨_, rfl, rfl, nxE_mk (by omega) hp⟩
     · refine okQ 0 2 fun p γ a wx _ _ hp hk => ?_
       have h1 := hk.k 8 rfl
       have hc0 : wx.cell? ⟨N, 0, none⟩ = some (.int .i64 now) := (nxE_n hp).cell 0
       simp [go_sem, Oper.wp, execOp, Act.eval, h1, hc0]
       exact ⟨_, rfl, rfl, hp⟩
     · refine okQ 0 0 fun p γ a wx _ _ hp hk => ?_
       have h1 := hk.k 7 rfl
       have hp := (show NxAt w wx O N st x now now q so xo from nxE_lt (by omega) hp)
       obtain ⟨hc0, hc1, hc2, hc3⟩ := Blk.c4 (hp.o)
       simp [go_sem, Oper.wp, execOp, Act.eval, h1, hc0, hc1, hc2, hc3]
       exact ⟨_, rfl, rfl, nxE_mk (by omega) hp⟩
     · refine .inl ⟨0, rfl, fun γ a wx hp hk => wantWp_free rfl ?_⟩
       obtain ⟨u1, h1, rfl⟩ := hk.g 2 182 rfl rfl
       simp [go_sem, Oper.wp, execOp, Act.eval, h1]
       have hp := (show NxAt w wx O N st x now now q so xo from hp)
       refine (rcheck_any so xo wx hp.ao).mono ?_
       rintro e w' ⟨rfl, hb⟩
       exact ⟨_, rfl, HE.out, hp.kept hb⟩
     · refine .inl ⟨1, rfl, fun γ a wx hp hk => wantWp_free rfl ?_⟩
       have h1 := hk.k 4 rfl
       obtain ⟨u2, h2, rfl⟩ := hk.g 0 180 rfl rfl
       have hp := (show NxAt w wx O N st x now now q so xo from hp)
       have hB := hp.r
       obtain ⟨z0, z1, z2, z3⟩ := Blk.z4 (hB)
       obtain ⟨c0, c1, c2, c3⟩ := Blk.c4 (hB)
       obtain ⟨hb4, hg4⟩ := Blk.S4 hB (.int .i64 so.rev) (.slice xo.aj xo.nj xo.cj) (.slice xo.an xo.nn xo.cn) (.slice xo.al xo.nl xo.cl)
       have hfin : nxE w O N st x now now q so xo 2 _ := ⟨wx, hp, hg4, hb4⟩
       clear hB hp
       simp [go_sem, Oper.wp, execOp, Act.eval, h1, h2, c0, c1, c2, c3, z0, z1, z2, z3]
       exact ⟨⟨.int .i64 0, trivial⟩, hfin⟩
     · exact ok1 2 2 1 181 rfl rfl (fun _ _ h => h) fun _ => rfl
     · exact ok1 2 2 3 183 rfl rfl (fun _ _ h => h) fun _ => rfl
   intro γ act wz hd
   obtain ⟨wm, hm, hg, hr⟩ := (show ∃ wm, NxAt w wm O N st x now now q so xo ∧ wm.grownBy wz (some (w.heap.size + 2)) ∧ Blk wz (w.heap.size + 2) 26 (stC so xo) from hd.ph)
   obtain ⟨fv, rfl, hfv⟩ := hd.frame [180, 181, 182, 183, 5, 6] rfl
   have f5 : fv 5 = .int .i64 now := hfv 5 _ 5 rfl rfl
   have f6 : fv 6 = .int .i64 E := hfv 6 _ 6 rfl rfl
   obtain ⟨y0, y1, y2, y3⟩ := Blk.c4 (hr)
   have Hend := hid (hm.end_ hg E)
   clear hd hfv hm hg hr H5
   simp only [foldl_cons, foldl_nil, setIfInBounds_toArray, set_cons_succ, set_cons_zero, f5, f6]
   clear f5 f6
   go_wp2
   refine bodyPost_ret (v := .tuple #[.agg (stC so xo), .int .i64 now, .int .i64 E]) (by simp [results, Tryz.results39, go_sem, stC, *]) rfl ?_
   rw [HR.out, Hso.out, HE2.out]
   exact Hend.out
theorem rnext_4 (q : ReqD) (st : StateD) (x : StA) (now : Int) (w : World) (hS : StAt w w.heap.size st x) (h1 : x.nj ≤ 1000) (h2 : x.nn ≤ 1000) (h3 : x.nl ≤ 1000) (hok : ROk q) (HRq : ∀ W, Calls Tryz.prog 123 #[reqA q] W (ErrPost 0 W)) (hq : q.kind = 4) :
 Calls Tryz.prog 39 #[.agg (srvC st x now), reqA q] w (RNxPost (if (nodeOf st.nodes q.name).isSome = true then (checkE (stDelN st q.name), stDelN st q.name, now) else (6, st, now)) w) := by
 obtain ⟨q1, q2, q3, q4⟩ := three_blk w (srvC st x now) (reqC q) zSta (ta := 36) (tb := 44) (tc := 26)
 obtain ⟨W0, hW0⟩ : ∃ W0, ((w.alloc (.cells (srvC st x now) 36)).alloc (.cells (reqC q) 44)).alloc (.cells zSta 26) = W0 := ⟨_, rfl⟩
 rw [hW0] at q1 q2 q3 q4
 have H0 : NxP w st x now q 0 ⟨none, none⟩ W0.drew := ⟨q4.drew, q1, q2, q3, (hS.upS q4).drew, fun O h => (by cases h), fun N h => (by cases h), fun O N h => (by cases h)⟩
 have HRq := hid HRq
 obtain ⟨G, hG⟩ : ∃ G, (if (nodeOf st.nodes q.name).isSome = true then (checkE (stDelN st q.name), stDelN st q.name, now) else (6, st, now)) = G := ⟨_, rfl⟩
 rw [hG]
 have HG := hid hG
 clear hG
 have Hq := hid hq
 clear hq
 have HW0 := hid hW0
 clear q1 q2 q3 q4 hS hW0
 unfold reqA
 unfold srvC reqC at HW0 ⊢
 go_enter Tryz.func39, Tryz.ntmps39
 go_wp2_with fail
 rw [HW0.out]
 clear HW0
 refine rq 184 (nxV w.heap.size st x now) [6, 7] (NxP w st x now q) ⟨none, none⟩ H0 ?_ ?_
 · clear H0
   refine ⟨?_, ?_, ?_, ?_, ?_, ?_, ?_, ?_, trivial⟩
   · exact ok0 0 2 2 rfl fun _ => rfl
   · refine okQ 0 2 fun p γ a wx _ _ hp hk => ?_
     obtain ⟨u1, h1, rfl⟩ := hk.g 0 13 rfl rfl
     obtain ⟨hc0, hc1, hc2, hc3⟩ := Blk.c4 (hp.s)
     simp [go_sem, Oper.wp, execOp, Act.eval, h1, hc0, hc1, hc2, hc3]
     exact ⟨_, rfl, γ, fun _ _ _ h => h, rfl, hp⟩
   · exact ok0 0 2 2 rfl fun _ => rfl
   · refine okQ 0 2 fun p γ a wx _ _ hp hk => ?_
     obtain ⟨u1, h1, rfl⟩ := hk.g 2 15 rfl rfl
     have hc4 : wx.cell? ⟨w.heap.size, 4, none⟩ = some (.int .i64 now) := hp.s.cell 4
     simp [go_sem, Oper.wp, execOp, Act.eval, h1, hc4]
     exact ⟨_, rfl, γ, fun _ _ _ h => h, rfl, hp⟩
   · refine okQ 0 0 fun p γ a wx _ _ hp hk => ?_
     obtain rfl : p = 0 := by omega
     simp [go_sem, Oper.wp, execOp, Act.eval]
     exact ⟨_, rfl, ⟨some wx.heap.size, γ.N⟩, nxV_4 _, ⟨_, rfl, rfl⟩, hp.allocO⟩
   · refine okQ 0 0 fun p γ a wx _ _ hp hk => ?_
     obtain rfl : p = 0 := by omega
     simp [go_sem, Oper.wp, execOp, Act.eval]
     exact ⟨_, rfl, ⟨γ.O, some wx.heap.size⟩, nxV_5 _, ⟨_, rfl, rfl⟩, hp.allocN⟩
   · refine .inl ⟨0, rfl, fun γ a wx hp hk => wantWp_free rfl ?_⟩
     obtain ⟨u1, h1, r1⟩ := hk.g 4 7 rfl rfl
     obtain ⟨u2, h2, rfl⟩ := hk.g 1 14 rfl rfl
     obtain ⟨O, eO, r1⟩ := (show ∃ O, γ.O = some O ∧ u1 = .pointer (some ⟨O, 0, none⟩) from r1)
     subst r1
     have hB : Blk wx O 26 zSta := (hp.o O eO).2
     obtain ⟨z0, z1, z2, z3⟩ := Blk.z4 (hB)
     obtain ⟨c0, c1, c2, c3⟩ := Blk.c4 (hB)
     obtain ⟨hb4, hg4⟩ := Blk.S4 hB (.int .i64 st.rev) (.slice x.aj x.nj x.cj) (.slice x.an x.nn x.cn) (.slice x.al x.nl x.cl)
     have hfin := hp.setO eO hg4 hb4
     clear hB hp
     simp [go_sem, Oper.wp, execOp, Act.eval, h1, h2, c0, c1, c2, c3, z0, z1, z2, z3]
     exact ⟨.int .i64 0, γ, fun _ _ _ h => h, trivial, hfin⟩
   · refine .inl ⟨1, rfl, fun γ a wx hp hk => wantWp_free rfl ?_⟩
     obtain ⟨u1, h1, r1⟩ := hk.g 5 8 rfl rfl
     obtain ⟨u2, h2, rfl⟩ := hk.g 3 16 rfl rfl
     obtain ⟨N, eN, r1⟩ := (show ∃ N, γ.N = some N ∧ u1 = .pointer (some ⟨N, 0, none⟩) from r1)
     subst r1
     have hB : Blk wx N 3 #[.int .i64 0] := (hp.n N eN).2
     have z0 : wx.frozen? ⟨N, 0, none⟩ = false := hB.thaw 0
     have c0 : wx.cell? ⟨N, 0, none⟩ = some (.int .i64 0) := hB.cell 0
     have hfin := hp.setN eN (grow_set wx N 0 (.int .i64 now)) (Blk.eq (hB.set 0 (.int .i64 now)) rfl)
     clear hB hp
     simp [go_sem, Oper.wp, execOp, Act.eval, h1, h2, c0, z0]
     exact ⟨.int .i64 0, γ, fun _ _ _ h => h, trivial, hfin⟩
 intro γ act wx hd
 have hp := hd.ph
 obtain ⟨fv, rfl, hfv⟩ := hd.frame [13, 14, 15, 16, 7, 8] rfl
 obtain ⟨O, eO, f7⟩ := (show ∃ O, γ.O = some O ∧ fv 7 = .pointer (some ⟨O, 0, none⟩) from hfv 4 _ 7 rfl rfl)
 obtain ⟨N, eN, f8⟩ := (show ∃ N, γ.N = some N ∧ fv 8 = .pointer (some ⟨N, 0, none⟩) from hfv 5 _ 8 rfl rfl)
 have HN := hid (show NxAt w wx O N st x now now q st x from ⟨hp.below, hp.s, hp.q, hp.r, (hp.o O eO).2, (hp.n N eN).2, hp.at_, hp.at_, (hp.o O eO).1, (hp.n N eN).1, hp.ne O N eO eN⟩)
 clear hd hfv hp H0 eO eN
 simp only [foldl_cons, foldl_nil, setIfInBounds_toArray, set_cons_succ, set_cons_zero, f7, f8]
 clear f7 f8
 obtain ⟨c0, c1, c2, c3, c4, c5, c6, c7, c8, c9, c10, c11, c12, c13⟩ := Blk.c14 (HN.out.q)
 have HC := hid (show Calls Tryz.prog 123 #[.agg (reqL q)] wx (ErrPost 0 wx) from HRq.out wx)
 have hlq := HN.out.q.lt
 clear HRq
 go_wp2_with fail
 refine Calls.mono HC.out ?_
 rintro e w1 ⟨rfl, hb1⟩
 have HN := hid (HN.out.kept hb1)
 have hlq := HN.out.q.lt
 have hls := HN.out.s.lt
 have hlo := HN.out.o.lt
 have hln := HN.out.n.lt
 clear hb1 HC c0 c1 c2 c3 c4 c5 c6 c7 c8 c9 c10 c11 c12 c13
 have c0 : w1.cell? ⟨w.heap.size + 1, 0, none⟩ = some (.int .i64 4) := by rw [HN.out.q.cell 0, ← Hq.out]; rfl
 have c12 : w1.cell? ⟨w.heap.size + 1, 12, none⟩ = some (.string q.name) := HN.out.q.cell 12
 have s2 : w1.cell? ⟨w.heap.size, 2, none⟩ = some (.slice x.an x.nn x.cn) := HN.out.s.cell 2
 have HA := hid (nodeAt_any st.nodes q.name x.an x.nn x.cn w1 HN.out.at_.n HN.out.at_.ln (by omega))
 go_wp2_with fail
 refine Calls.mono HA.out ?_
 rintro e w2 ⟨ix, rfl, hb2, hcase⟩
 have HN := hid (HN.out.kept hb2)
 clear hb2 HA
 have hls := HN.out.s.lt
 have hlq := HN.out.q.lt
 have hlo := HN.out.o.lt
 have hln := HN.out.n.lt
 rcases hcase with ⟨rfl, hno⟩ | ⟨kk, xx, rfl, hxx, hso⟩
 · have HR := hid (show G = (6, st, now) from HG.out.symm.trans (if_neg (by simp [show nodeOf st.nodes q.name = none from hno])))
   clear hno
   go_wp2_with fail
   refine rq (Γ := Unit) 184 (fun _ => nxFV st x now 6) [2] (fun p _ => nxE w O N st x now now q st x (p + 1)) () (show NxAt w (w2).drew O N st x now now q st x from HN.out.drewN) ?_ ?_
   · clear HN
     refine ⟨?_, ?_, ?_, ?_, ?_, trivial⟩
     · refine okQ 0 0 fun p γ a wx _ _ hp hk => ?_
       have h1 := hk.k 7 rfl
       obtain rfl : p = 0 := by omega
       have hp := (show NxAt w wx O N st x now now q st x from nxE_lt (by omega) hp)
       obtain ⟨hc0, hc1, hc2, hc3⟩ := Blk.c4 (hp.o)
       simp [go_sem, Oper.wp, execOp, Act.eval, h1, hc0, hc1, hc2, hc3]
       exact ⟨_, rfl, rfl, nxE_mk (by omega) hp⟩
     · refine okQ 0 1 fun p γ a wx _ _ hp hk => ?_
       have h1 := hk.k 8 rfl
       have hc0 : wx.cell? ⟨N, 0, none⟩ = some (.int .i64 now) := (nxE_n hp).cell 0
       simp [go_sem, Oper.wp, execOp, Act.eval, h1, hc0]
       exact ⟨_, rfl, rfl, hp⟩
     · refine .inl ⟨0, rfl, fun γ a wx hp hk => wantWp_free rfl ?_⟩
       have h1 := hk.k 4 rfl
       obtain ⟨u2, h2, rfl⟩ := hk.g 0 74 rfl rfl
       have hp := (show NxAt w wx O N st x now now q st x from hp)
       have hB := hp.r
       obtain ⟨z0, z1, z2, z3⟩ := Blk.z4 (hB)
       obtain ⟨c0, c1, c2, c3⟩ := Blk.c4 (hB)
       obtain ⟨hb4, hg4⟩ := Blk.S4 hB (.int .i64 st.rev) (.slice x.aj x.nj x.cj) (.slice x.an x.nn x.cn) (.slice x.al x.nl x.cl)
       have hfin : nxE w O N st x now now q st x 2 _ := ⟨wx, hp, hg4, hb4⟩
       clear hB hp
       simp [go_sem, Oper.wp, execOp, Act.eval, h1, h2, c0, c1, c2, c3, z0, z1, z2, z3]
       exact ⟨⟨.int .i64 0, trivial⟩, hfin⟩
     · exact ok1 1 1 1 75 rfl rfl (fun _ _ h => h) fun _ => rfl
     · refine okQ 1 1 fun p γ a wx _ _ hp hk => ?_
       simp [go_sem, Oper.wp, execOp, Act.eval]
       exact ⟨_, rfl, rfl, hp⟩
   intro γ act wz hd
   obtain ⟨wm, hm, hg, hr⟩ := (show ∃ wm, NxAt w wm O N st x now now q st x ∧ wm.grownBy wz (some (w.heap.size + 2)) ∧ Blk wz (w.heap.size + 2) 26 (stC st x) from hd.ph)
   obtain ⟨fv, rfl, hfv⟩ := hd.frame [74, 75, 5, 6] rfl
   have f5 : fv 5 = .int .i64 now := hfv 3 _ 5 rfl rfl
   have f6 : fv 6 = .int .i64 6 := hfv 4 _ 6 rfl rfl
   obtain ⟨y0, y1, y2, y3⟩ := Blk.c4 (hr)
   have Hend := hid (hm.end_ hg 6)
   clear hd hfv hm hg hr HN
   simp only [foldl_cons, foldl_nil, setIfInBounds_toArray, set_cons_succ, set_cons_zero, f5, f6]
   clear f5 f6
   go_wp2
   refine bodyPost_ret (v := .tuple #[.agg (stC st x), .int .i64 now, .int .i64 6]) (by simp [results, Tryz.results39, go_sem, stC, *]) rfl ?_
   rw [HR.out]
   exact Hend.out
 · have HR := hid (show G = (checkE (stDelN st q.name), stDelN st q.name, now) from HG.out.symm.trans (if_pos (by simp [show nodeOf st.nodes q.name = some xx from hso])))
   have d0 : decide ((kk : Int) < 0) = false := decide_eq_false (by omega)
   clear hxx hso
   have s2 : w2.cell? ⟨w.heap.size, 2, none⟩ = some (.slice x.an x.nn x.cn) := HN.out.s.cell 2
   have HP := hid (rwo_node (fun a => decide (a.name = q.name)) 127 #[.pointer (some ⟨w.heap.size + 1, 0, none⟩)] st.nodes x.an x.nn x.cn w2 (enters_of Tryz.func127 (by kernel_rfl) rfl) HN.out.at_.n HN.out.at_.ln h2 (nxDelN (w.heap.size + 1) q st.nodes w2 HN.out.q))
   go_wp2_with fail
   refine Calls.mono HP.out ?_
   rintro e w3 ⟨A, c, rfl, ho, hb3⟩
   obtain ⟨m, hm⟩ : ∃ m, (st.nodes.filter fun a => !decide (a.name = q.name)).length = m := ⟨_, rfl⟩
   have hmb : m ≤ 1000 := by
    have h := List.length_filter_le (fun a => !decide (a.name = q.name)) st.nodes
    have h2 := HN.out.at_.ln
    rw [← hm]
    omega
   have hN3 := HN.out.kept hb3
   rw [hm] at ho ⊢
   have H4 := hid (show NxAt w (w3.setCell ⟨O, 2, none⟩ (.slice A m c)) O N st x now now q ⟨st.rev, st.jobs, st.nodes.filter fun a => !decide (a.name = q.name), st.leases⟩ ⟨x.aj, x.nj, x.cj, A, m, c, x.al, x.nl, x.cl⟩ from
    hN3.setO 2 _ rfl (hN3.ao.withN c (own_slAt ho) hm (by omega) (fun z hz => hN3.at_.on_ z (List.mem_filter.1 hz).1)))
   have o2 : w3.cell? ⟨O, 2, none⟩ = some (.slice x.an x.nn x.cn) := hN3.o.cell 2
   have z2 : w3.frozen? ⟨O, 2, none⟩ = false := hN3.o.thaw 2
   have hlo3 := hN3.o.lt
   obtain ⟨w4, hw4⟩ : ∃ w4, w3.setCell ⟨O, 2, none⟩ (.slice A m c) = w4 := ⟨_, rfl⟩
   rw [hw4] at H4
   have Hw4 := hid hw4
   have HL := hid (nxLeases (fun l => decide (l.node = q.name)) 128 #[.pointer (some ⟨w.heap.size + 1, 0, none⟩)] w w4 O N st x now now q ⟨st.rev, st.jobs, st.nodes.filter fun a => !decide (a.name = q.name), st.leases⟩ ⟨x.aj, x.nj, x.cj, A, m, c, x.al, x.nl, x.cl⟩ H4.out h3 (enters_of Tryz.func128 (by kernel_rfl) rfl) (nxDelNL (w.heap.size + 1) q st.leases w4 H4.out.q))
   clear hm ho hb3 hN3 HP HN hw4 s2 H4 c0 c12
   go_wp2_with fail
   try simp only [Hw4.out]
   refine Calls.mono HL.out ?_
   rintro e w5 ⟨rfl, xo, hn5⟩
   have H5 := hid hn5
   clear hn5 HL Hw4 o2 z2
   obtain ⟨so, hso⟩ : ∃ so, stDelN st q.name = so := ⟨_, rfl⟩
   have H5 := hid (show NxAt w w5 O N st x now now q so xo from by rw [← hso]; exact H5.out)
   have Hso := hid hso
   clear hso
   go_wp2_with fail
   obtain ⟨E, hE⟩ : ∃ E, checkE so = E := ⟨_, rfl⟩
   have HE := hid (show Value.int .i64 (checkE so) = Value.int .i64 E from by rw [hE])
   have HE2 := hid hE
   clear hE
   refine rq (Γ := Unit) 184 (fun _ => nxEV so xo now E) [3, 4] (fun p _ => nxE w O N st x now now q so xo p) () (show NxAt w (w5).drew O N st x now now q so xo from H5.out.drewN) ?_ ?_
   · clear H5
     refine ⟨?_, ?_, ?_, ?_, ?_, ?_, ?_, trivial⟩
     · refine okQ 0 1 fun p γ a wx _ _ hp hk => ?_
       have h1 := hk.k 7 rfl
       have hp := (show NxAt w wx O N st x now now q so xo from nxE_lt (by omega) hp)
       obtain ⟨hc0, hc1, hc2, hc3⟩ := Blk.c4 (hp.o)
       simp [go_sem, Oper.wp, execOp, Act.eval, h1, hc0, hc1, hc2, hc3]
       exact ⟨_, rfl, rfl, nxE_mk (by omega) hp⟩
     · refine okQ 0 2 fun p γ a wx _ _ hp hk => ?_
       have h1 := hk.k 8 rfl
       have hc0 : wx.cell? ⟨N, 0, none⟩ = some (.int .i64 now) := (nxE_n hp).cell 0
       simp [go_sem, Oper.wp, execOp, Act.eval, h1, hc0]
       exact ⟨_, rfl, rfl, hp⟩
     · refine okQ 0 0 fun p γ a wx _ _ hp hk => ?_
       have h1 := hk.k 7 rfl
       have hp := (show NxAt w wx O N st x now now q so xo from nxE_lt (by omega) hp)
       obtain ⟨hc0, hc1, hc2, hc3⟩ := Blk.c4 (hp.o)
       simp [go_sem, Oper.wp, execOp, Act.eval, h1, hc0, hc1, hc2, hc3]
       exact ⟨_, rfl, rfl, nxE_mk (by omega) hp⟩
     · refine .inl ⟨0, rfl, fun γ a wx hp hk => wantWp_free rfl ?_⟩
       obtain ⟨u1, h1, rfl⟩ := hk.g 2 182 rfl rfl
       simp [go_sem, Oper.wp, execOp, Act.eval, h1]
       have hp := (show NxAt w wx O N st x now now q so xo from hp)
       refine (rcheck_any so xo wx hp.ao).mono ?_
       rintro e w' ⟨rfl, hb⟩
       exact ⟨_, rfl, HE.out, hp.kept hb⟩
     · refine .inl ⟨1, rfl, fun γ a wx hp hk => wantWp_free rfl ?_⟩
       have h1 := hk.k 4 rfl
       obtain ⟨u2, h2, rfl⟩ := hk.g 0 180 rfl rfl
       have hp := (show NxAt w wx O N st x now now q so xo from hp)
       have hB := hp.r
       obtain ⟨z0, z1, z2, z3⟩ := Blk.z4 (hB)
       obtain ⟨c0, c1, c2, c3⟩ := Blk.c4 (hB)
       obtain ⟨hb4, hg4⟩ := Blk.S4 hB (.int .i64 so.rev) (.slice xo.aj xo.nj xo.cj) (.slice xo.an xo.nn xo.cn) (.slice xo.al xo.nl xo.cl)
       have hfin : nxE w O N st x now now q so xo 2 _ := ⟨wx, hp, hg4, hb4⟩
       clear hB hp
       simp [go_sem, Oper.wp, execOp, Act.eval, h1, h2, c0, c1, c2, c3, z0, z1, z2, z3]
       exact ⟨⟨.int .i64 0, trivial⟩, hfin⟩
     · exact ok1 2 2 1 181 rfl rfl (fun _ _ h => h) fun _ => rfl
     · exact ok1 2 2 3 183 rfl rfl (fun _ _ h => h) fun _ => rfl
   intro γ act wz hd
   obtain ⟨wm, hm, hg, hr⟩ := (show ∃ wm, NxAt w wm O N st x now now q so xo ∧ wm.grownBy wz (some (w.heap.size + 2)) ∧ Blk wz (w.heap.size + 2) 26 (stC so xo) from hd.ph)
   obtain ⟨fv, rfl, hfv⟩ := hd.frame [180, 181, 182, 183, 5, 6] rfl
   have f5 : fv 5 = .int .i64 now := hfv 5 _ 5 rfl rfl
   have f6 : fv 6 = .int .i64 E := hfv 6 _ 6 rfl rfl
   obtain ⟨y0, y1, y2, y3⟩ := Blk.c4 (hr)
   have Hend := hid (hm.end_ hg E)
   clear hd hfv hm hg hr H5
   simp only [foldl_cons, foldl_nil, setIfInBounds_toArray, set_cons_succ, set_cons_zero, f5, f6]
   clear f5 f6
   go_wp2
   refine bodyPost_ret (v := .tuple #[.agg (stC so xo), .int .i64 now, .int .i64 E]) (by simp [results, Tryz.results39, go_sem, stC, *]) rfl ?_
   rw [HR.out, Hso.out, HE2.out]
   exact Hend.out
theorem rnext_6 (q : ReqD) (st : StateD) (x : StA) (now : Int) (w : World) (hS : StAt w w.heap.size st x) (h1 : x.nj ≤ 1000) (h2 : x.nn ≤ 1000) (h3 : x.nl ≤ 1000) (hok : ROk q) (HRq : ∀ W, Calls Tryz.prog 123 #[reqA q] W (ErrPost 0 W)) (hq : q.kind = 6) :
 Calls Tryz.prog 39 #[.agg (srvC st x now), reqA q] w (RNxPost (if (leaseOf st.leases q.name).isSome = true then (checkE (stFree st q.name), stFree st q.name, now) else (6, st, now)) w) := by
 obtain ⟨q1, q2, q3, q4⟩ := three_blk w (srvC st x now) (reqC q) zSta (ta := 36) (tb := 44) (tc := 26)
 obtain ⟨W0, hW0⟩ : ∃ W0, ((w.alloc (.cells (srvC st x now) 36)).alloc (.cells (reqC q) 44)).alloc (.cells zSta 26) = W0 := ⟨_, rfl⟩
 rw [hW0] at q1 q2 q3 q4
 have H0 : NxP w st x now q 0 ⟨none, none⟩ W0.drew := ⟨q4.drew, q1, q2, q3, (hS.upS q4).drew, fun O h => (by cases h), fun N h => (by cases h), fun O N h => (by cases h)⟩
 have HRq := hid HRq
 obtain ⟨G, hG⟩ : ∃ G, (if (leaseOf st.leases q.name).isSome = true then (checkE (stFree st q.name), stFree st q.name, now) else (6, st, now)) = G := ⟨_, rfl⟩
 rw [hG]
 have HG := hid hG
 clear hG
 have Hq := hid hq
 clear hq
 have HW0 := hid hW0
 clear q1 q2 q3 q4 hS hW0
 unfold reqA
 unfold srvC reqC at HW0 ⊢
 go_enter Tryz.func39, Tryz.ntmps39
 go_wp2_with fail
 rw [HW0.out]
 clear HW0
 refine rq 184 (nxV w.heap.size st x now) [6, 7] (NxP w st x now q) ⟨none, none⟩ H0 ?_ ?_
 · clear H0
   refine ⟨?_, ?_, ?_, ?_, ?_, ?_, ?_, ?_, trivial⟩
   · exact ok0 0 2 2 rfl fun _ => rfl
   · refine okQ 0 2 fun p γ a wx _ _ hp hk => ?_
     obtain ⟨u1, h1, rfl⟩ := hk.g 0 13 rfl rfl
     obtain ⟨hc0, hc1, hc2, hc3⟩ := Blk.c4 (hp.s)
     simp [go_sem, Oper.wp, execOp, Act.eval, h1, hc0, hc1, hc2, hc3]
     exact ⟨_, rfl, γ, fun _ _ _ h => h, rfl, hp⟩
   · exact ok0 0 2 2 rfl fun _ => rfl
   · refine okQ 0 2 fun p γ a wx _ _ hp hk => ?_
     obtain ⟨u1, h1, rfl⟩ := hk.g 2 15 rfl rfl
     have hc4 : wx.cell? ⟨w.heap.size, 4, none⟩ = some (.int .i64 now) := hp.s.cell 4
     simp [go_sem, Oper.wp, execOp, Act.eval, h1, hc4]
     exact ⟨_, rfl, γ, fun _ _ _ h => h, rfl, hp⟩
   · refine okQ 0 0 fun p γ a wx _ _ hp hk => ?_
     obtain rfl : p = 0 := by omega
     simp [go_sem, Oper.wp, execOp, Act.eval]
     exact ⟨_, rfl, ⟨some wx.heap.size, γ.N⟩, nxV_4 _, ⟨_, rfl, rfl⟩, hp.allocO⟩
   · refine okQ 0 0 fun p γ a wx _ _ hp hk => ?_
     obtain rfl : p = 0 := by omega
     simp [go_sem, Oper.wp, execOp, Act.eval]
     exact ⟨_, rfl, ⟨γ.O, some wx.heap.size⟩, nxV_5 _, ⟨_, rfl, rfl⟩, hp.allocN⟩
   · refine .inl ⟨0, rfl, fun γ a wx hp hk => wantWp_free rfl ?_⟩
     obtain ⟨u1, h1, r1⟩ := hk.g 4 7 rfl rfl
     obtain ⟨u2, h2, rfl⟩ := hk.g 1 14 rfl rfl
     obtain ⟨O, eO, r1⟩ := (show ∃ O, γ.O = some O ∧ u1 = .pointer (some ⟨O, 0, none⟩) from r1)
     subst r1
     have hB : Blk wx O 26 zSta := (hp.o O eO).2
     obtain ⟨z0, z1, z2, z3⟩ := Blk.z4 (hB)
     obtain ⟨c0, c1, c2, c3⟩ := Blk.c4 (hB)
     obtain ⟨hb4, hg4⟩ := Blk.S4 hB (.int .i64 st.rev) (.slice x.aj x.nj x.cj) (.slice x.an x.nn x.cn) (.slice x.al x.nl x.cl)
     have hfin := hp.setO eO hg4 hb4
     clear hB hp
     simp [go_sem, Oper.wp, execOp, Act.eval, h1, h2, c0, c1, c2, c3, z0, z1, z2, z3]
     exact ⟨.int .i64 0, γ, fun _ _ _ h => h, trivial, hfin⟩
   · refine .inl ⟨1, rfl, fun γ a wx hp hk => wantWp_free rfl ?_⟩
     obtain ⟨u1, h1, r1⟩ := hk.g 5 8 rfl rfl
     obtain ⟨u2, h2, rfl⟩ := hk.g 3 16 rfl rfl
     obtain ⟨N, eN, r1⟩ := (show ∃ N, γ.N = some N ∧ u1 = .pointer (some ⟨N, 0, none⟩) from r1)
     subst r1
     have hB : Blk wx N 3 #[.int .i64 0] := (hp.n N eN).2
     have z0 : wx.frozen? ⟨N, 0, none⟩ = false := hB.thaw 0
     have c0 : wx.cell? ⟨N, 0, none⟩ = some (.int .i64 0) := hB.cell 0
     have hfin := hp.setN eN (grow_set wx N 0 (.int .i64 now)) (Blk.eq (hB.set 0 (.int .i64 now)) rfl)
     clear hB hp
     simp [go_sem, Oper.wp, execOp, Act.eval, h1, h2, c0, z0]
     exact ⟨.int .i64 0, γ, fun _ _ _ h => h, trivial, hfin⟩
 intro γ act wx hd
 have hp := hd.ph
 obtain ⟨fv, rfl, hfv⟩ := hd.frame [13, 14, 15, 16, 7, 8] rfl
 obtain ⟨O, eO, f7⟩ := (show ∃ O, γ.O = some O ∧ fv 7 = .pointer (some ⟨O, 0, none⟩) from hfv 4 _ 7 rfl rfl)
 obtain ⟨N, eN, f8⟩ := (show ∃ N, γ.N = some N ∧ fv 8 = .pointer (some ⟨N, 0, none⟩) from hfv 5 _ 8 rfl rfl)
 have HN := hid (show NxAt w wx O N st x now now q st x from ⟨hp.below, hp.s, hp.q, hp.r, (hp.o O eO).2, (hp.n N eN).2, hp.at_, hp.at_, (hp.o O eO).1, (hp.n N eN).1, hp.ne O N eO eN⟩)
 clear hd hfv hp H0 eO eN
 simp only [foldl_cons, foldl_nil, setIfInBounds_toArray, set_cons_succ, set_cons_zero, f7, f8]
 clear f7 f8
 obtain ⟨c0, c1, c2, c3, c4, c5, c6, c7, c8, c9, c10, c11, c12, c13⟩ := Blk.c14 (HN.out.q)
 have HC := hid (show Calls Tryz.prog 123 #[.agg (reqL q)] wx (ErrPost 0 wx) from HRq.out wx)
 have hlq := HN.out.q.lt
 clear HRq
 go_wp2_with fail
 refine Calls.mono HC.out ?_
 rintro e w1 ⟨rfl, hb1⟩
 have HN := hid (HN.out.kept hb1)
 have hlq := HN.out.q.lt
 have hls := HN.out.s.lt
 have hlo := HN.out.o.lt
 have hln := HN.out.n.lt
 clear hb1 HC c0 c1 c2 c3 c4 c5 c6 c7 c8 c9 c10 c11 c12 c13
 have c0 : w1.cell? ⟨w.heap.size + 1, 0, none⟩ = some (.int .i64 6) := by rw [HN.out.q.cell 0, ← Hq.out]; rfl
 have c12 : w1.cell? ⟨w.heap.size + 1, 12, none⟩ = some (.string q.name) := HN.out.q.cell 12
 have s3 : w1.cell? ⟨w.heap.size, 3, none⟩ = some (.slice x.al x.nl x.cl) := HN.out.s.cell 3
 have HA := hid (leaseAt_any st.leases q.name x.al x.nl x.cl w1 HN.out.at_.l HN.out.at_.ll (by omega))
 go_wp2_with fail
 refine Calls.mono HA.out ?_
 rintro e w2 ⟨ix, rfl, hb2, hcase⟩
 have HN := hid (HN.out.kept hb2)
 clear hb2 HA
 have hls := HN.out.s.lt
 have hlq := HN.out.q.lt
 have hlo := HN.out.o.lt
 have hln := HN.out.n.lt
 rcases hcase with ⟨rfl, hno⟩ | ⟨kk, xx, rfl, hxx, hso⟩
 · have HR := hid (show G = (6, st, now) from HG.out.symm.trans (if_neg (by simp [show leaseOf st.leases q.name = none from hno])))
   clear hno
   go_wp2_with fail
   refine rq (Γ := Unit) 184 (fun _ => nxFV st x now 6) [2] (fun p _ => nxE w O N st x now now q st x (p + 1)) () (show NxAt w (w2).drew O N st x now now q st x from HN.out.drewN) ?_ ?_
   · clear HN
     refine ⟨?_, ?_, ?_, ?_, ?_, trivial⟩
     · refine okQ 0 0 fun p γ a wx _ _ hp hk => ?_
       have h1 := hk.k 7 rfl
       obtain rfl : p = 0 := by omega
       have hp := (show NxAt w wx O N st x now now q st x from nxE_lt (by omega) hp)
       obtain ⟨hc0, hc1, hc2, hc3⟩ := Blk.c4 (hp.o)
       simp [go_sem, Oper.wp, execOp, Act.eval, h1, hc0, hc1, hc2, hc3]
       exact ⟨_, rfl, rfl, nxE_mk (by omega) hp⟩
     · refine okQ 0 1 fun p γ a wx _ _ hp hk => ?_
       have h1 := hk.k 8 rfl
       have hc0 : wx.cell? ⟨N, 0, none⟩ = some (.int .i64 now) := (nxE_n hp).cell 0
       simp [go_sem, Oper.wp, execOp, Act.eval, h1, hc0]
       exact ⟨_, rfl, rfl, hp⟩
     · refine .inl ⟨0, rfl, fun γ a wx hp hk => wantWp_free rfl ?_⟩
       have h1 := hk.k 4 rfl
       obtain ⟨u2, h2, rfl⟩ := hk.g 0 162 rfl rfl
       have hp := (show NxAt w wx O N st x now now q st x from hp)
       have hB := hp.r
       obtain ⟨z0, z1, z2, z3⟩ := Blk.z4 (hB)
       obtain ⟨c0, c1, c2, c3⟩ := Blk.c4 (hB)
       obtain ⟨hb4, hg4⟩ := Blk.S4 hB (.int .i64 st.rev) (.slice x.aj x.nj x.cj) (.slice x.an x.nn x.cn) (.slice x.al x.nl x.cl)
       have hfin : nxE w O N st x now now q st x 2 _ := ⟨wx, hp, hg4, hb4⟩
       clear hB hp
       simp [go_sem, Oper.wp, execOp, Act.eval, h1, h2, c0, c1, c2, c3, z0, z1, z2, z3]
       exact ⟨⟨.int .i64 0, trivial⟩, hfin⟩
     · exact ok1 1 1 1 163 rfl rfl (fun _ _ h => h) fun _ => rfl
     · refine okQ 1 1 fun p γ a wx _ _ hp hk => ?_
       simp [go_sem, Oper.wp, execOp, Act.eval]
       exact ⟨_, rfl, rfl, hp⟩
   intro γ act wz hd
   obtain ⟨wm, hm, hg, hr⟩ := (show ∃ wm, NxAt w wm O N st x now now q st x ∧ wm.grownBy wz (some (w.heap.size + 2)) ∧ Blk wz (w.heap.size + 2) 26 (stC st x) from hd.ph)
   obtain ⟨fv, rfl, hfv⟩ := hd.frame [162, 163, 5, 6] rfl
   have f5 : fv 5 = .int .i64 now := hfv 3 _ 5 rfl rfl
   have f6 : fv 6 = .int .i64 6 := hfv 4 _ 6 rfl rfl
   obtain ⟨y0, y1, y2, y3⟩ := Blk.c4 (hr)
   have Hend := hid (hm.end_ hg 6)
   clear hd hfv hm hg hr HN
   simp only [foldl_cons, foldl_nil, setIfInBounds_toArray, set_cons_succ, set_cons_zero, f5, f6]
   clear f5 f6
   go_wp2
   refine bodyPost_ret (v := .tuple #[.agg (stC st x), .int .i64 now, .int .i64 6]) (by simp [results, Tryz.results39, go_sem, stC, *]) rfl ?_
   rw [HR.out]
   exact Hend.out
 · have HR := hid (show G = (checkE (stFree st q.name), stFree st q.name, now) from HG.out.symm.trans (if_pos (by simp [show leaseOf st.leases q.name = some xx from hso])))
   have d0 : decide ((kk : Int) < 0) = false := decide_eq_false (by omega)
   clear hxx hso
   have HL := hid (nxLeases (fun l => decide (l.job = q.name)) 129 #[.pointer (some ⟨w.heap.size + 1, 0, none⟩)] w w2 O N st x now now q st x HN.out h3 (enters_of Tryz.func129 (by kernel_rfl) rfl) (nxFree (w.heap.size + 1) q st.leases w2 HN.out.q))
   clear HN c0 c12
   go_wp2_with fail
   refine Calls.mono HL.out ?_
   rintro e w5 ⟨rfl, xo, hn5⟩
   have H5 := hid hn5
   clear hn5 HL
   obtain ⟨so, hso⟩ : ∃ so, stFree st q.name = so := ⟨_, rfl⟩
   have H5 := hid (show NxAt w w5 O N st x now now q so xo from by rw [← hso]; exact H5.out)
   have Hso := hid hso
   clear hso
   go_wp2_with fail
   obtain ⟨E, hE⟩ : ∃ E, checkE so = E := ⟨_, rfl⟩
   have HE := hid (show Value.int .i64 (checkE so) = Value.int .i64 E from by rw [hE])
   have HE2 := hid hE
   clear hE
   refine rq (Γ := Unit) 184 (fun _ => nxEV so xo now E) [3, 4] (fun p _ => nxE w O N st x now now q so xo p) () (show NxAt w (w5).drew O N st x now now q so xo from H5.out.drewN) ?_ ?_
   · clear H5
     refine ⟨?_, ?_, ?_, ?_, ?_, ?_, ?_, trivial⟩
     · refine okQ 0 1 fun p γ a wx _ _ hp hk => ?_
       have h1 := hk.k 7 rfl
       have hp := (show NxAt w wx O N st x now now q so xo from nxE_lt (by omega) hp)
       obtain ⟨hc0, hc1, hc2, hc3⟩ := Blk.c4 (hp.o)
       simp [go_sem, Oper.wp, execOp, Act.eval, h1, hc0, hc1, hc2, hc3]
       exact ⟨_, rfl, rfl, nxE_mk (by omega) hp⟩
     · refine okQ 0 2 fun p γ a wx _ _ hp hk => ?_
       have h1 := hk.k 8 rfl
       have hc0 : wx.cell? ⟨N, 0, none⟩ = some (.int .i64 now) := (nxE_n hp).cell 0
       simp [go_sem, Oper.wp, execOp, Act.eval, h1, hc0]
       exact ⟨_, rfl, rfl, hp⟩
     · refine okQ 0 0 fun p γ a wx _ _ hp hk => ?_
       have h1 := hk.k 7 rfl
       have hp := (show NxAt w wx O N st x now now q so xo from nxE_lt (by omega) hp)
       obtain ⟨hc0, hc1, hc2, hc3⟩ := Blk.c4 (hp.o)
       simp [go_sem, Oper.wp, execOp, Act.eval, h1, hc0, hc1, hc2, hc3]
       exact ⟨_, rfl, rfl, nxE_mk (by omega) hp⟩
     · refine .inl ⟨0, rfl, fun γ a wx hp hk => wantWp_free rfl ?_⟩
       obtain ⟨u1, h1, rfl⟩ := hk.g 2 182 rfl rfl
       simp [go_sem, Oper.wp, execOp, Act.eval, h1]
       have hp := (show NxAt w wx O N st x now now q so xo from hp)
       refine (rcheck_any so xo wx hp.ao).mono ?_
       rintro e w' ⟨rfl, hb⟩
       exact ⟨_, rfl, HE.out, hp.kept hb⟩
     · refine .inl ⟨1, rfl, fun γ a wx hp hk => wantWp_free rfl ?_⟩
       have h1 := hk.k 4 rfl
       obtain ⟨u2, h2, rfl⟩ := hk.g 0 180 rfl rfl
       have hp := (show NxAt w wx O N st x now now q so xo from hp)
       have hB := hp.r
       obtain ⟨z0, z1, z2, z3⟩ := Blk.z4 (hB)
       obtain ⟨c0, c1, c2, c3⟩ := Blk.c4 (hB)
       obtain ⟨hb4, hg4⟩ := Blk.S4 hB (.int .i64 so.rev) (.slice xo.aj xo.nj xo.cj) (.slice xo.an xo.nn xo.cn) (.slice xo.al xo.nl xo.cl)
       have hfin : nxE w O N st x now now q so xo 2 _ := ⟨wx, hp, hg4, hb4⟩
       clear hB hp
       simp [go_sem, Oper.wp, execOp, Act.eval, h1, h2, c0, c1, c2, c3, z0, z1, z2, z3]
       exact ⟨⟨.int .i64 0, trivial⟩, hfin⟩
     · exact ok1 2 2 1 181 rfl rfl (fun _ _ h => h) fun _ => rfl
     · exact ok1 2 2 3 183 rfl rfl (fun _ _ h => h) fun _ => rfl
   intro γ act wz hd
   obtain ⟨wm, hm, hg, hr⟩ := (show ∃ wm, NxAt w wm O N st x now now q so xo ∧ wm.grownBy wz (some (w.heap.size + 2)) ∧ Blk wz (w.heap.size + 2) 26 (stC so xo) from hd.ph)
   obtain ⟨fv, rfl, hfv⟩ := hd.frame [180, 181, 182, 183, 5, 6] rfl
   have f5 : fv 5 = .int .i64 now := hfv 5 _ 5 rfl rfl
   have f6 : fv 6 = .int .i64 E := hfv 6 _ 6 rfl rfl
   obtain ⟨y0, y1, y2, y3⟩ := Blk.c4 (hr)
   have Hend := hid (hm.end_ hg E)
   clear hd hfv hm hg hr H5
   simp only [foldl_cons, foldl_nil, setIfInBounds_toArray, set_cons_succ, set_cons_zero, f5, f6]
   clear f5 f6
   go_wp2
   refine bodyPost_ret (v := .tuple #[.agg (stC so xo), .int .i64 now, .int .i64 E]) (by simp [results, Tryz.results39, go_sem, stC, *]) rfl ?_
   rw [HR.out, Hso.out, HE2.out]
   exact Hend.out
end Go.Proofs.YtjgnnobccecpeaaGreatDoor
