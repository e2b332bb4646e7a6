/- Of the proof. -/
import Derived.Test.YtjgnnobccecpeaaGreatDoorPNxC
set_option linter.unusedVariables false
set_option linter.unusedSimpArgs false
set_option maxRecDepth 100000
set_option maxHeartbeats 8000000
namespace Go.Proofs.YtjgnnobccecpeaaGreatDoor
open Go.Lib (hid)
open List (foldl_cons foldl_nil setIfInBounds_toArray set_cons_succ set_cons_zero)
open Go.RowKit
def grantN (st : StateD) (now : Int) (l : LeaseD) : Int × StateD × Int :=
 match jobOf st.jobs l.job with
 | none => (6, st, now)
 | some j => if (nodeOf st.nodes l.node).isSome = false then (6, st, now)
  else if (leaseOf st.leases l.job).isSome = true then (7, st, now)
  else if l.till ≤ now then (1, st, now)
  else if 100 < j.tries + 1 then (2, st, now)
  else (checkE (stGrant st j l), stGrant st j l, now)
section
variable {st : StateD} {now : Int} {l : LeaseD} {j : JobD} {n : NodeD} {k : LeaseD}
theorem grantN_none (h : jobOf st.jobs l.job = none) : grantN st now l = (6, st, now) := by unfold grantN; rw [h]
theorem grantN_node (h : jobOf st.jobs l.job = some j) (h2 : nodeOf st.nodes l.node = none) : grantN st now l = (6, st, now) := by unfold grantN; rw [h, h2]; rfl
theorem grantN_has (h : jobOf st.jobs l.job = some j) (h2 : nodeOf st.nodes l.node = some n) (h3 : leaseOf st.leases l.job = some k) : grantN st now l = (7, st, now) := by unfold grantN; rw [h, h2, h3]; rfl
theorem grantN_late (h : jobOf st.jobs l.job = some j) (h2 : nodeOf st.nodes l.node = some n) (h3 : leaseOf st.leases l.job = none) (h4 : l.till ≤ now) : grantN st now l = (1, st, now) := by unfold grantN; rw [h, h2, h3]; simp [h4]
theorem grantN_tries (h : jobOf st.jobs l.job = some j) (h2 : nodeOf st.nodes l.node = some n) (h3 : leaseOf st.leases l.job = none) (h4 : ¬ l.till ≤ now) (h5 : 100 < j.tries + 1) : grantN st now l = (2, st, now) := by unfold grantN; rw [h, h2, h3]; simp [h4, h5]
theorem grantN_ok (h : jobOf st.jobs l.job = some j) (h2 : nodeOf st.nodes l.node = some n) (h3 : leaseOf st.leases l.job = none) (h4 : ¬ l.till ≤ now) (h5 : ¬ 100 < j.tries + 1) : grantN st now l = (checkE (stGrant st j l), stGrant st j l, now) := by unfold grantN; rw [h, h2, h3]; simp [h4, h5]
end
theorem rnext_5 (q : ReqD) (st : StateD) (x : StA) (now : Int) (w : World) (hS : StAt w w.heap.size st x) (h1 : x.nj ≤ 1000) (h2 : x.nn ≤ 1000) (h3 : x.nl ≤ 1000) (hok : ROk q) (HRq : ∀ W, Calls Tryz.prog 123 #[reqA q] W (ErrPost 0 W)) (hq : q.kind = 5) (htr : ∀ j ∈ st.jobs, 0 ≤ j.tries ∧ j.tries ≤ 100) :
 Calls Tryz.prog 39 #[.agg (srvC st x now), reqA q] w (RNxPost (grantN st now q.lease) w) := by
 obtain ⟨q1, q2, q3, q4⟩ := three_blk w (srvC st x now) (reqC q) zSta (ta := 36) (tb := 44) (tc := 26)
 obtain ⟨W0, hW0⟩ : ∃ W0, ((w.alloc (.cells (srvC st x now) 36)).alloc (.cells (reqC q) 44)).alloc (.cells zSta 26) = W0 := ⟨_, rfl⟩
 rw [hW0] at q1 q2 q3 q4
 have H0 : NxP w st x now q 0 ⟨none, none⟩ W0.drew := ⟨q4.drew, q1, q2, q3, (hS.upS q4).drew, fun O h => (by cases h), fun N h => (by cases h), fun O N h => (by cases h)⟩
 have HRq := hid HRq
 obtain ⟨G, hG⟩ : ∃ G, grantN st now q.lease = G := ⟨_, rfl⟩
 rw [hG]
 have HG := hid hG
 clear hG
 have Hq := hid hq
 have Htr := hid htr
 clear hq htr
 have HW0 := hid hW0
 clear q1 q2 q3 q4 hS hW0
 unfold reqA
 unfold srvC reqC at HW0 ⊢
 go_enter Tryz.func39, Tryz.ntmps39
 go_wp2_with fail
 rw [HW0.out]
 clear HW0
 refine rq 184 (nxV w.heap.size st x now) [6, 7] (NxP w st x now q) ⟨none, none⟩ H0 ?_ ?_
 · clear H0
   refine ⟨?_, ?_, ?_, ?_, ?_, ?_, ?_, ?_, trivial⟩
   · exact ok0 0 2 2 rfl fun _ => rfl
   · refine okQ 0 2 fun p γ a wx _ _ hp hk => ?_
     obtain ⟨u1, h1, rfl⟩ := hk.g 0 13 rfl rfl
     obtain ⟨hc0, hc1, hc2, hc3⟩ := Blk.c4 (hp.s)
     simp [go_sem, Oper.wp, execOp, Act.eval, h1, hc0, hc1, hc2, hc3]
     exact ⟨_, rfl, γ, fun _ _ _ h => h, rfl, hp⟩
   · exact ok0 0 2 2 rfl fun _ => rfl
   · refine okQ 0 2 fun p γ a wx _ _ hp hk => ?_
     obtain ⟨u1, h1, rfl⟩ := hk.g 2 15 rfl rfl
     have hc4 : wx.cell? ⟨w.heap.size, 4, none⟩ = some (.int .i64 now) := hp.s.cell 4
     simp [go_sem, Oper.wp, execOp, Act.eval, h1, hc4]
     exact ⟨_, rfl, γ, fun _ _ _ h => h, rfl, hp⟩
   · refine okQ 0 0 fun p γ a wx _ _ hp hk => ?_
     obtain rfl : p = 0 := by omega
     simp [go_sem, Oper.wp, execOp, Act.eval]
     exact ⟨_, rfl, ⟨some wx.heap.size, γ.N⟩, nxV_4 _, ⟨_, rfl, rfl⟩, hp.allocO⟩
   · refine okQ 0 0 fun p γ a wx _ _ hp hk => ?_
     obtain rfl : p = 0 := by omega
     simp [go_sem, Oper.wp, execOp, Act.eval]
     exact ⟨_, rfl, ⟨γ.O, some wx.heap.size⟩, nxV_5 _, ⟨_, rfl, rfl⟩, hp.allocN⟩
   · refine .inl ⟨0, rfl, fun γ a wx hp hk => wantWp_free rfl ?_⟩
     obtain ⟨u1, h1, r1⟩ := hk.g 4 7 rfl rfl
     obtain ⟨u2, h2, rfl⟩ := hk.g 1 14 rfl rfl
     obtain ⟨O, eO, r1⟩ := (show ∃ O, γ.O = some O ∧ u1 = .pointer (some ⟨O, 0, none⟩) from r1)
     subst r1
     have hB : Blk wx O 26 zSta := (hp.o O eO).2
     obtain ⟨z0, z1, z2, z3⟩ := Blk.z4 (hB)
     obtain ⟨c0, c1, c2, c3⟩ := Blk.c4 (hB)
     obtain ⟨hb4, hg4⟩ := Blk.S4 hB (.int .i64 st.rev) (.slice x.aj x.nj x.cj) (.slice x.an x.nn x.cn) (.slice x.al x.nl x.cl)
     have hfin := hp.setO eO hg4 hb4
     clear hB hp
     simp [go_sem, Oper.wp, execOp, Act.eval, h1, h2, c0, c1, c2, c3, z0, z1, z2, z3]
     exact ⟨.int .i64 0, γ, fun _ _ _ h => h, trivial, hfin⟩
   · refine .inl ⟨1, rfl, fun γ a wx hp hk => wantWp_free rfl ?_⟩
     obtain ⟨u1, h1, r1⟩ := hk.g 5 8 rfl rfl
     obtain ⟨u2, h2, rfl⟩ := hk.g 3 16 rfl rfl
     obtain ⟨N, eN, r1⟩ := (show ∃ N, γ.N = some N ∧ u1 = .pointer (some ⟨N, 0, none⟩) from r1)
     subst r1
     have hB : Blk wx N 3 #[.int .i64 0] := (hp.n N eN).2
     have z0 : wx.frozen? ⟨N, 0, none⟩ = false := hB.thaw 0
     have c0 : wx.cell? ⟨N, 0, none⟩ = some (.int .i64 0) := hB.cell 0
     have hfin := hp.setN eN (grow_set wx N 0 (.int .i64 now)) (Blk.eq (hB.set 0 (.int .i64 now)) rfl)
     clear hB hp
     simp [go_sem, Oper.wp, execOp, Act.eval, h1, h2, c0, z0]
     exact ⟨.int .i64 0, γ, fun _ _ _ h => h, trivial, hfin⟩
 intro γ act wx hd
 have hp := hd.ph
 obtain ⟨fv, rfl, hfv⟩ := hd.frame [13, 14, 15, 16, 7, 8] rfl
 obtain ⟨O, eO, f7⟩ := (show ∃ O, γ.O = some O ∧ fv 7 = .pointer (some ⟨O, 0, none⟩) from hfv 4 _ 7 rfl rfl)
 obtain ⟨N, eN, f8⟩ := (show ∃ N, γ.N = some N ∧ fv 8 = .pointer (some ⟨N, 0, none⟩) from hfv 5 _ 8 rfl rfl)
 have HN := hid (show NxAt w wx O N st x now now q st x from ⟨hp.below, hp.s, hp.q, hp.r, (hp.o O eO).2, (hp.n N eN).2, hp.at_, hp.at_, (hp.o O eO).1, (hp.n N eN).1, hp.ne O N eO eN⟩)
 clear hd hfv hp H0 eO eN
 simp only [foldl_cons, foldl_nil, setIfInBounds_toArray, set_cons_succ, set_cons_zero, f7, f8]
 clear f7 f8
 obtain ⟨c0, c1, c2, c3, c4, c5, c6, c7, c8, c9, c10, c11, c12, c13⟩ := Blk.c14 (HN.out.q)
 have HC := hid (show Calls Tryz.prog 123 #[.agg (reqL q)] wx (ErrPost 0 wx) from HRq.out wx)
 have hlq := HN.out.q.lt
 clear HRq
 go_wp2_with fail
 refine Calls.mono HC.out ?_
 rintro e w1 ⟨rfl, hb1⟩
 have HN := hid (HN.out.kept hb1)
 have hlq := HN.out.q.lt
 have hls := HN.out.s.lt
 have hlo := HN.out.o.lt
 have hln := HN.out.n.lt
 clear hb1 HC c0 c1 c2 c3 c4 c5 c6 c7 c8 c9 c10 c11 c12 c13
 have c0 : w1.cell? ⟨w.heap.size + 1, 0, none⟩ = some (.int .i64 5) := by rw [HN.out.q.cell 0, ← Hq.out]; rfl
 have c9 : w1.cell? ⟨w.heap.size + 1, 9, none⟩ = some (.string q.lease.job) := HN.out.q.cell 9
 have s1 : w1.cell? ⟨w.heap.size, 1, none⟩ = some (.slice x.aj x.nj x.cj) := HN.out.s.cell 1
 have HA := hid (jobAt_any st.jobs q.lease.job x.aj x.nj x.cj w1 HN.out.at_.j HN.out.at_.lj (by omega))
 go_wp2_with fail
 refine Calls.mono HA.out ?_
 rintro e w2 ⟨ix, rfl, hb, hcase⟩
 have HN := hid (HN.out.kept hb)
 clear hb
 have hls := HN.out.s.lt
 have hlq := HN.out.q.lt
 have hlo := HN.out.o.lt
 have hln := HN.out.n.lt
 clear HA
 rcases hcase with ⟨rfl, hno⟩ | ⟨kk, xx, rfl, hxx, hso⟩
 · have HR := hid (show G = (6, st, now) from HG.out.symm.trans (grantN_none hno))
   clear hno HG
   go_wp2_with fail
   refine rq (Γ := Unit) 184 (fun _ => nxFV st x now 6) [2] (fun p _ => nxE w O N st x now now q st x (p + 1)) () (show NxAt w (w2).drew O N st x now now q st x from HN.out.drewN) ?_ ?_
   · clear HN
     refine ⟨?_, ?_, ?_, ?_, ?_, trivial⟩
     · refine okQ 0 0 fun p γ a wx _ _ hp hk => ?_
       have h1 := hk.k 7 rfl
       obtain rfl : p = 0 := by omega
       have hp := (show NxAt w wx O N st x now now q st x from nxE_lt (by omega) hp)
       obtain ⟨hc0, hc1, hc2, hc3⟩ := Blk.c4 (hp.o)
       simp [go_sem, Oper.wp, execOp, Act.eval, h1, hc0, hc1, hc2, hc3]
       exact ⟨_, rfl, rfl, nxE_mk (by omega) hp⟩
     · refine okQ 0 1 fun p γ a wx _ _ hp hk => ?_
       have h1 := hk.k 8 rfl
       have hc0 : wx.cell? ⟨N, 0, none⟩ = some (.int .i64 now) := (nxE_n hp).cell 0
       simp [go_sem, Oper.wp, execOp, Act.eval, h1, hc0]
       exact ⟨_, rfl, rfl, hp⟩
     · refine .inl ⟨0, rfl, fun γ a wx hp hk => wantWp_free rfl ?_⟩
       have h1 := hk.k 4 rfl
       obtain ⟨u2, h2, rfl⟩ := hk.g 0 106 rfl rfl
       have hp := (show NxAt w wx O N st x now now q st x from hp)
       have hB := hp.r
       obtain ⟨z0, z1, z2, z3⟩ := Blk.z4 (hB)
       obtain ⟨c0, c1, c2, c3⟩ := Blk.c4 (hB)
       obtain ⟨hb4, hg4⟩ := Blk.S4 hB (.int .i64 st.rev) (.slice x.aj x.nj x.cj) (.slice x.an x.nn x.cn) (.slice x.al x.nl x.cl)
       have hfin : nxE w O N st x now now q st x 2 _ := ⟨wx, hp, hg4, hb4⟩
       clear hB hp
       simp [go_sem, Oper.wp, execOp, Act.eval, h1, h2, c0, c1, c2, c3, z0, z1, z2, z3]
       exact ⟨⟨.int .i64 0, trivial⟩, hfin⟩
     · exact ok1 1 1 1 107 rfl rfl (fun _ _ h => h) fun _ => rfl
     · refine okQ 1 1 fun p γ a wx _ _ hp hk => ?_
       simp [go_sem, Oper.wp, execOp, Act.eval]
       exact ⟨_, rfl, rfl, hp⟩
   intro γ act wz hd
   obtain ⟨wm, hm, hg, hr⟩ := (show ∃ wm, NxAt w wm O N st x now now q st x ∧ wm.grownBy wz (some (w.heap.size + 2)) ∧ Blk wz (w.heap.size + 2) 26 (stC st x) from hd.ph)
   obtain ⟨fv, rfl, hfv⟩ := hd.frame [106, 107, 5, 6] rfl
   have f5 : fv 5 = .int .i64 now := hfv 3 _ 5 rfl rfl
   have f6 : fv 6 = .int .i64 6 := hfv 4 _ 6 rfl rfl
   obtain ⟨y0, y1, y2, y3⟩ := Blk.c4 (hr)
   have Hend := hid (hm.end_ hg 6)
   clear hd hfv hm hg hr HN
   simp only [foldl_cons, foldl_nil, setIfInBounds_toArray, set_cons_succ, set_cons_zero, f5, f6]
   clear f5 f6
   go_wp2
   refine bodyPost_ret (v := .tuple #[.agg (stC st x), .int .i64 now, .int .i64 6]) (by simp [results, Tryz.results39, go_sem, stC, *]) rfl ?_
   rw [HR.out]
   exact Hend.out
 have d0 : decide ((kk : Int) < 0) = false := decide_eq_false (by omega)
 have Hxx := hid hxx
 have Hso := hid hso
 have hkk : kk < x.nj := by
  have h := (List.getElem?_eq_some_iff.1 hxx).1
  have h2 := HN.out.at_.lj
  omega
 have ht := Htr.out xx (List.mem_of_getElem? hxx)
 have Ht := hid ht
 clear hxx hso ht
 have c10 : w2.cell? ⟨w.heap.size + 1, 10, none⟩ = some (.string q.lease.node) := HN.out.q.cell 10
 have s2 : w2.cell? ⟨w.heap.size, 2, none⟩ = some (.slice x.an x.nn x.cn) := HN.out.s.cell 2
 have HA := hid (nodeAt_any st.nodes q.lease.node x.an x.nn x.cn w2 HN.out.at_.n HN.out.at_.ln (by omega))
 go_wp2_with fail
 refine Calls.mono HA.out ?_
 rintro e w3 ⟨ix, rfl, hb, hcase⟩
 have HN := hid (HN.out.kept hb)
 clear hb
 have hls := HN.out.s.lt
 have hlq := HN.out.q.lt
 have hlo := HN.out.o.lt
 have hln := HN.out.n.lt
 clear HA
 rcases hcase with ⟨rfl, hno⟩ | ⟨k2, yy, rfl, hyy, hso2⟩
 · have HR := hid (show G = (6, st, now) from HG.out.symm.trans (grantN_node Hso.out hno))
   clear hno HG Htr
   go_wp2_with fail
   refine rq (Γ := Unit) 184 (fun _ => nxFV st x now 6) [2] (fun p _ => nxE w O N st x now now q st x (p + 1)) () (show NxAt w (w3).drew O N st x now now q st x from HN.out.drewN) ?_ ?_
   · clear HN
     refine ⟨?_, ?_, ?_, ?_, ?_, trivial⟩
     · refine okQ 0 0 fun p γ a wx _ _ hp hk => ?_
       have h1 := hk.k 7 rfl
       obtain rfl : p = 0 := by omega
       have hp := (show NxAt w wx O N st x now now q st x from nxE_lt (by omega) hp)
       obtain ⟨hc0, hc1, hc2, hc3⟩ := Blk.c4 (hp.o)
       simp [go_sem, Oper.wp, execOp, Act.eval, h1, hc0, hc1, hc2, hc3]
       exact ⟨_, rfl, rfl, nxE_mk (by omega) hp⟩
     · refine okQ 0 1 fun p γ a wx _ _ hp hk => ?_
       have h1 := hk.k 8 rfl
       have hc0 : wx.cell? ⟨N, 0, none⟩ = some (.int .i64 now) := (nxE_n hp).cell 0
       simp [go_sem, Oper.wp, execOp, Act.eval, h1, hc0]
       exact ⟨_, rfl, rfl, hp⟩
     · refine .inl ⟨0, rfl, fun γ a wx hp hk => wantWp_free rfl ?_⟩
       have h1 := hk.k 4 rfl
       obtain ⟨u2, h2, rfl⟩ := hk.g 0 106 rfl rfl
       have hp := (show NxAt w wx O N st x now now q st x from hp)
       have hB := hp.r
       obtain ⟨z0, z1, z2, z3⟩ := Blk.z4 (hB)
       obtain ⟨c0, c1, c2, c3⟩ := Blk.c4 (hB)
       obtain ⟨hb4, hg4⟩ := Blk.S4 hB (.int .i64 st.rev) (.slice x.aj x.nj x.cj) (.slice x.an x.nn x.cn) (.slice x.al x.nl x.cl)
       have hfin : nxE w O N st x now now q st x 2 _ := ⟨wx, hp, hg4, hb4⟩
       clear hB hp
       simp [go_sem, Oper.wp, execOp, Act.eval, h1, h2, c0, c1, c2, c3, z0, z1, z2, z3]
       exact ⟨⟨.int .i64 0, trivial⟩, hfin⟩
     · exact ok1 1 1 1 107 rfl rfl (fun _ _ h => h) fun _ => rfl
     · refine okQ 1 1 fun p γ a wx _ _ hp hk => ?_
       simp [go_sem, Oper.wp, execOp, Act.eval]
       exact ⟨_, rfl, rfl, hp⟩
   intro γ act wz hd
   obtain ⟨wm, hm, hg, hr⟩ := (show ∃ wm, NxAt w wm O N st x now now q st x ∧ wm.grownBy wz (some (w.heap.size + 2)) ∧ Blk wz (w.heap.size + 2) 26 (stC st x) from hd.ph)
   obtain ⟨fv, rfl, hfv⟩ := hd.frame [106, 107, 5, 6] rfl
   have f5 : fv 5 = .int .i64 now := hfv 3 _ 5 rfl rfl
   have f6 : fv 6 = .int .i64 6 := hfv 4 _ 6 rfl rfl
   obtain ⟨y0, y1, y2, y3⟩ := Blk.c4 (hr)
   have Hend := hid (hm.end_ hg 6)
   clear hd hfv hm hg hr HN
   simp only [foldl_cons, foldl_nil, setIfInBounds_toArray, set_cons_succ, set_cons_zero, f5, f6]
   clear f5 f6
   go_wp2
   refine bodyPost_ret (v := .tuple #[.agg (stC st x), .int .i64 now, .int .i64 6]) (by simp [results, Tryz.results39, go_sem, stC, *]) rfl ?_
   rw [HR.out]
   exact Hend.out
 have d1 : decide ((k2 : Int) < 0) = false := decide_eq_false (by omega)
 have Hso2 := hid hso2
 clear hyy hso2
 have c9 : w3.cell? ⟨w.heap.size + 1, 9, none⟩ = some (.string q.lease.job) := HN.out.q.cell 9
 have s3 : w3.cell? ⟨w.heap.size, 3, none⟩ = some (.slice x.al x.nl x.cl) := HN.out.s.cell 3
 have HA := hid (leaseAt_any st.leases q.lease.job x.al x.nl x.cl w3 HN.out.at_.l HN.out.at_.ll (by omega))
 go_wp2_with fail
 refine Calls.mono HA.out ?_
 rintro e w4 ⟨ix, rfl, hb, hcase⟩
 have HN := hid (HN.out.kept hb)
 clear hb
 have hls := HN.out.s.lt
 have hlq := HN.out.q.lt
 have hlo := HN.out.o.lt
 have hln := HN.out.n.lt
 clear HA
 rcases hcase with ⟨rfl, hno⟩ | ⟨k3, zz, rfl, hzz, hso3⟩
 rotate_left
 · have HR := hid (show G = (7, st, now) from HG.out.symm.trans (grantN_has Hso.out Hso2.out hso3))
   have d2 : decide ((k3 : Int) ≥ 0) = true := decide_eq_true (by omega)
   have d3 : decide (0 ≤ (k3 : Int)) = true := decide_eq_true (by omega)
   clear hzz hso3 HG Htr
   go_wp2_with fail
   refine rq (Γ := Unit) 184 (fun _ => nxFV st x now 7) [2] (fun p _ => nxE w O N st x now now q st x (p + 1)) () (show NxAt w (w4).drew O N st x now now q st x from HN.out.drewN) ?_ ?_
   · clear HN
     refine ⟨?_, ?_, ?_, ?_, ?_, trivial⟩
     · refine okQ 0 0 fun p γ a wx _ _ hp hk => ?_
       have h1 := hk.k 7 rfl
       obtain rfl : p = 0 := by omega
       have hp := (show NxAt w wx O N st x now now q st x from nxE_lt (by omega) hp)
       obtain ⟨hc0, hc1, hc2, hc3⟩ := Blk.c4 (hp.o)
       simp [go_sem, Oper.wp, execOp, Act.eval, h1, hc0, hc1, hc2, hc3]
       exact ⟨_, rfl, rfl, nxE_mk (by omega) hp⟩
     · refine okQ 0 1 fun p γ a wx _ _ hp hk => ?_
       have h1 := hk.k 8 rfl
       have hc0 : wx.cell? ⟨N, 0, none⟩ = some (.int .i64 now) := (nxE_n hp).cell 0
       simp [go_sem, Oper.wp, execOp, Act.eval, h1, hc0]
       exact ⟨_, rfl, rfl, hp⟩
     · refine .inl ⟨0, rfl, fun γ a wx hp hk => wantWp_free rfl ?_⟩
       have h1 := hk.k 4 rfl
       obtain ⟨u2, h2, rfl⟩ := hk.g 0 116 rfl rfl
       have hp := (show NxAt w wx O N st x now now q st x from hp)
       have hB := hp.r
       obtain ⟨z0, z1, z2, z3⟩ := Blk.z4 (hB)
       obtain ⟨c0, c1, c2, c3⟩ := Blk.c4 (hB)
       obtain ⟨hb4, hg4⟩ := Blk.S4 hB (.int .i64 st.rev) (.slice x.aj x.nj x.cj) (.slice x.an x.nn x.cn) (.slice x.al x.nl x.cl)
       have hfin : nxE w O N st x now now q st x 2 _ := ⟨wx, hp, hg4, hb4⟩
       clear hB hp
       simp [go_sem, Oper.wp, execOp, Act.eval, h1, h2, c0, c1, c2, c3, z0, z1, z2, z3]
       exact ⟨⟨.int .i64 0, trivial⟩, hfin⟩
     · exact ok1 1 1 1 117 rfl rfl (fun _ _ h => h) fun _ => rfl
     · refine okQ 1 1 fun p γ a wx _ _ hp hk => ?_
       simp [go_sem, Oper.wp, execOp, Act.eval]
       exact ⟨_, rfl, rfl, hp⟩
   intro γ act wz hd
   obtain ⟨wm, hm, hg, hr⟩ := (show ∃ wm, NxAt w wm O N st x now now q st x ∧ wm.grownBy wz (some (w.heap.size + 2)) ∧ Blk wz (w.heap.size + 2) 26 (stC st x) from hd.ph)
   obtain ⟨fv, rfl, hfv⟩ := hd.frame [116, 117, 5, 6] rfl
   have f5 : fv 5 = .int .i64 now := hfv 3 _ 5 rfl rfl
   have f6 : fv 6 = .int .i64 7 := hfv 4 _ 6 rfl rfl
   obtain ⟨y0, y1, y2, y3⟩ := Blk.c4 (hr)
   have Hend := hid (hm.end_ hg 7)
   clear hd hfv hm hg hr HN
   simp only [foldl_cons, foldl_nil, setIfInBounds_toArray, set_cons_succ, set_cons_zero, f5, f6]
   clear f5 f6
   go_wp2
   refine bodyPost_ret (v := .tuple #[.agg (stC st x), .int .i64 now, .int .i64 7]) (by simp [results, Tryz.results39, go_sem, stC, *]) rfl ?_
   rw [HR.out]
   exact Hend.out
 have Hso3 := hid hno
 clear hno
 have c11 : w4.cell? ⟨w.heap.size + 1, 11, none⟩ = some (.int .i64 q.lease.till) := HN.out.q.cell 11
 have n0 : w4.cell? ⟨N, 0, none⟩ = some (.int .i64 now) := HN.out.n.cell 0
 by_cases hlate : q.lease.till ≤ now
 · have HR := hid (show G = (1, st, now) from HG.out.symm.trans (grantN_late Hso.out Hso2.out Hso3.out hlate))
   have d2 : decide (q.lease.till ≤ now) = true := decide_eq_true hlate
   clear hlate HG Htr
   go_wp2_with fail
   refine rq (Γ := Unit) 184 (fun _ => nxFV st x now 1) [2] (fun p _ => nxE w O N st x now now q st x (p + 1)) () (show NxAt w (w4).drew O N st x now now q st x from HN.out.drewN) ?_ ?_
   · clear HN
     refine ⟨?_, ?_, ?_, ?_, ?_, trivial⟩
     · refine okQ 0 0 fun p γ a wx _ _ hp hk => ?_
       have h1 := hk.k 7 rfl
       obtain rfl : p = 0 := by omega
       have hp := (show NxAt w wx O N st x now now q st x from nxE_lt (by omega) hp)
       obtain ⟨hc0, hc1, hc2, hc3⟩ := Blk.c4 (hp.o)
       simp [go_sem, Oper.wp, execOp, Act.eval, h1, hc0, hc1, hc2, hc3]
       exact ⟨_, rfl, rfl, nxE_mk (by omega) hp⟩
     · refine okQ 0 1 fun p γ a wx _ _ hp hk => ?_
       have h1 := hk.k 8 rfl
       have hc0 : wx.cell? ⟨N, 0, none⟩ = some (.int .i64 now) := (nxE_n hp).cell 0
       simp [go_sem, Oper.wp, execOp, Act.eval, h1, hc0]
       exact ⟨_, rfl, rfl, hp⟩
     · refine .inl ⟨0, rfl, fun γ a wx hp hk => wantWp_free rfl ?_⟩
       have h1 := hk.k 4 rfl
       obtain ⟨u2, h2, rfl⟩ := hk.g 0 123 rfl rfl
       have hp := (show NxAt w wx O N st x now now q st x from hp)
       have hB := hp.r
       obtain ⟨z0, z1, z2, z3⟩ := Blk.z4 (hB)
       obtain ⟨c0, c1, c2, c3⟩ := Blk.c4 (hB)
       obtain ⟨hb4, hg4⟩ := Blk.S4 hB (.int .i64 st.rev) (.slice x.aj x.nj x.cj) (.slice x.an x.nn x.cn) (.slice x.al x.nl x.cl)
       have hfin : nxE w O N st x now now q st x 2 _ := ⟨wx, hp, hg4, hb4⟩
       clear hB hp
       simp [go_sem, Oper.wp, execOp, Act.eval, h1, h2, c0, c1, c2, c3, z0, z1, z2, z3]
       exact ⟨⟨.int .i64 0, trivial⟩, hfin⟩
     · exact ok1 1 1 1 124 rfl rfl (fun _ _ h => h) fun _ => rfl
     · refine okQ 1 1 fun p γ a wx _ _ hp hk => ?_
       simp [go_sem, Oper.wp, execOp, Act.eval]
       exact ⟨_, rfl, rfl, hp⟩
   intro γ act wz hd
   obtain ⟨wm, hm, hg, hr⟩ := (show ∃ wm, NxAt w wm O N st x now now q st x ∧ wm.grownBy wz (some (w.heap.size + 2)) ∧ Blk wz (w.heap.size + 2) 26 (stC st x) from hd.ph)
   obtain ⟨fv, rfl, hfv⟩ := hd.frame [123, 124, 5, 6] rfl
   have f5 : fv 5 = .int .i64 now := hfv 3 _ 5 rfl rfl
   have f6 : fv 6 = .int .i64 1 := hfv 4 _ 6 rfl rfl
   obtain ⟨y0, y1, y2, y3⟩ := Blk.c4 (hr)
   have Hend := hid (hm.end_ hg 1)
   clear hd hfv hm hg hr HN
   simp only [foldl_cons, foldl_nil, setIfInBounds_toArray, set_cons_succ, set_cons_zero, f5, f6]
   clear f5 f6
   go_wp2
   refine bodyPost_ret (v := .tuple #[.agg (stC st x), .int .i64 now, .int .i64 1]) (by simp [results, Tryz.results39, go_sem, stC, *]) rfl ?_
   rw [HR.out]
   exact Hend.out
 have d2 : decide (q.lease.till ≤ now) = false := decide_eq_false hlate
 have Hlate := hid hlate
 clear hlate
 obtain ⟨b, off, haj, hbB, hc⟩ := HN.out.at_.j.rec_ jobV_len HN.out.at_.lj Hxx.out
 obtain ⟨j0, j1, j2, j3, j4⟩ := rc5 hc
 have s1 : w4.cell? ⟨w.heap.size, 1, none⟩ = some (.slice (some ⟨b, off, none⟩) x.nj x.cj) := by rw [← haj]; exact HN.out.s.cell 1
 have hlk : kk * 5 + 5 ≤ x.nj * 5 := by omega
 have ht1 := Ht.out.1
 have ht2 := Ht.out.2
 obtain ⟨w5, hw5⟩ : ∃ w5, w4.alloc (.cells #[.string xx.name, .int .i64 xx.prio, .int .i64 xx.need, .int .i64 (xx.tries + 1), .string xx.tag] 38) = w5 := ⟨_, rfl⟩
 have hb5 : Below w4.heap.size w4 w5 := by rw [← hw5]; exact (Below.refl _ _).alloc (Nat.le_refl _) _
 have hJ : Blk w5 w4.heap.size 38 #[.string xx.name, .int .i64 xx.prio, .int .i64 xx.need, .int .i64 (xx.tries + 1), .string xx.tag] := by rw [← hw5]; exact heap_alloc_new w4 _
 have HN5 := hid (HN.out.kept hb5)
 have HJ := hid hJ
 have Hw5 := hid hw5
 have Haj := hid haj
 clear hw5 hb5 hJ hc haj
 by_cases htries : 100 < xx.tries + 1
 · have HR := hid (show G = (2, st, now) from HG.out.symm.trans (grantN_tries Hso.out Hso2.out Hso3.out Hlate.out htries))
   have d3 : decide (100 < xx.tries + 1) = true := decide_eq_true htries
   clear htries HG Htr
   go_wp2_with fail
   simp only [Hw5.out]
   clear Hw5 HJ HN
   refine rq (Γ := Unit) 184 (fun _ => nxFV st x now 2) [2] (fun p _ => nxE w O N st x now now q st x (p + 1)) () (show NxAt w (w5).drew O N st x now now q st x from HN5.out.drewN) ?_ ?_
   · clear HN5
     refine ⟨?_, ?_, ?_, ?_, ?_, trivial⟩
     · refine okQ 0 0 fun p γ a wx _ _ hp hk => ?_
       have h1 := hk.k 7 rfl
       obtain rfl : p = 0 := by omega
       have hp := (show NxAt w wx O N st x now now q st x from nxE_lt (by omega) hp)
       obtain ⟨hc0, hc1, hc2, hc3⟩ := Blk.c4 (hp.o)
       simp [go_sem, Oper.wp, execOp, Act.eval, h1, hc0, hc1, hc2, hc3]
       exact ⟨_, rfl, rfl, nxE_mk (by omega) hp⟩
     · refine okQ 0 1 fun p γ a wx _ _ hp hk => ?_
       have h1 := hk.k 8 rfl
       have hc0 : wx.cell? ⟨N, 0, none⟩ = some (.int .i64 now) := (nxE_n hp).cell 0
       simp [go_sem, Oper.wp, execOp, Act.eval, h1, hc0]
       exact ⟨_, rfl, rfl, hp⟩
     · refine .inl ⟨0, rfl, fun γ a wx hp hk => wantWp_free rfl ?_⟩
       have h1 := hk.k 4 rfl
       obtain ⟨u2, h2, rfl⟩ := hk.g 0 138 rfl rfl
       have hp := (show NxAt w wx O N st x now now q st x from hp)
       have hB := hp.r
       obtain ⟨z0, z1, z2, z3⟩ := Blk.z4 (hB)
       obtain ⟨c0, c1, c2, c3⟩ := Blk.c4 (hB)
       obtain ⟨hb4, hg4⟩ := Blk.S4 hB (.int .i64 st.rev) (.slice x.aj x.nj x.cj) (.slice x.an x.nn x.cn) (.slice x.al x.nl x.cl)
       have hfin : nxE w O N st x now now q st x 2 _ := ⟨wx, hp, hg4, hb4⟩
       clear hB hp
       simp [go_sem, Oper.wp, execOp, Act.eval, h1, h2, c0, c1, c2, c3, z0, z1, z2, z3]
       exact ⟨⟨.int .i64 0, trivial⟩, hfin⟩
     · exact ok1 1 1 1 139 rfl rfl (fun _ _ h => h) fun _ => rfl
     · refine okQ 1 1 fun p γ a wx _ _ hp hk => ?_
       simp [go_sem, Oper.wp, execOp, Act.eval]
       exact ⟨_, rfl, rfl, hp⟩
   intro γ act wz hd
   obtain ⟨wm, hm, hg, hr⟩ := (show ∃ wm, NxAt w wm O N st x now now q st x ∧ wm.grownBy wz (some (w.heap.size + 2)) ∧ Blk wz (w.heap.size + 2) 26 (stC st x) from hd.ph)
   obtain ⟨fv, rfl, hfv⟩ := hd.frame [138, 139, 5, 6] rfl
   have f5 : fv 5 = .int .i64 now := hfv 3 _ 5 rfl rfl
   have f6 : fv 6 = .int .i64 2 := hfv 4 _ 6 rfl rfl
   obtain ⟨y0, y1, y2, y3⟩ := Blk.c4 (hr)
   have Hend := hid (hm.end_ hg 2)
   clear hd hfv hm hg hr HN5
   simp only [foldl_cons, foldl_nil, setIfInBounds_toArray, set_cons_succ, set_cons_zero, f5, f6]
   clear f5 f6
   go_wp2
   refine bodyPost_ret (v := .tuple #[.agg (stC st x), .int .i64 now, .int .i64 2]) (by simp [results, Tryz.results39, go_sem, stC, *]) rfl ?_
   rw [HR.out]
   exact Hend.out
 have d3 : decide (100 < xx.tries + 1) = false := decide_eq_false htries
 have HR := hid (show G = (checkE (stGrant st xx q.lease), stGrant st xx q.lease, now) from HG.out.symm.trans (grantN_ok Hso.out Hso2.out Hso3.out Hlate.out htries))
 clear htries HG
 have HP := hid (show Calls Tryz.prog 60 #[.slice x.aj x.nj x.cj, .agg #[.string xx.name, .int .i64 xx.prio, .int .i64 xx.need, .int .i64 (xx.tries + 1), .string xx.tag], .func (.func 61) #[] #[]] w5 _ from rput_job (tryJ xx) st.jobs x.aj x.nj x.cj w5 HN5.out.at_.j HN5.out.at_.lj h1)
 rw [Haj.out] at HP
 have hjr := List.mem_of_getElem? Hxx.out
 have HjO := hid (HN.out.at_.oj xx hjr)
 clear hjr HN
 have k1 : w5.cell? ⟨w.heap.size, 1, none⟩ = some (.slice (some ⟨b, off, none⟩) x.nj x.cj) := by rw [← Haj.out]; exact HN5.out.s.cell 1
 have hls5 := HN5.out.s.lt
 have hlo5 := HN5.out.o.lt
 go_wp2_with fail
 simp only [Hw5.out]
 clear Hw5 HJ s1 j0 j1 j2 j3 j4 n0 c11
 refine Calls.mono HP.out ?_
 rintro e w6 ⟨A, c, rfl, ho, hb6⟩
 obtain ⟨m, hm⟩ : ∃ m, (putK JobD.name st.jobs (tryJ xx)).length = m := ⟨_, rfl⟩
 have hmb : m ≤ 1001 := by
  have h := putFrom_len JobD.name (tryJ xx) st.jobs false
  have h2 := HN5.out.at_.lj
  rw [← hm]
  unfold putK
  simp only [Bool.false_eq_true, if_false] at h
  omega
 have hN6 := HN5.out.kept hb6
 rw [hm] at ho ⊢
 have H7 := hid (show NxAt w (w6.setCell ⟨O, 1, none⟩ (.slice A m c)) O N st x now now q ⟨st.rev, putK JobD.name st.jobs (tryJ xx), st.nodes, st.leases⟩ ⟨A, m, c, x.an, x.nn, x.cn, x.al, x.nl, x.cl⟩ from
  hN6.setO 1 _ rfl (hN6.ao.withJ c (own_slAt ho) hm (by omega) (fun z hz => by
   rcases putK_mem hz with rfl | hz
   · exact HjO.out
   · exact hN6.at_.oj z hz)))
 have o1 : w6.cell? ⟨O, 1, none⟩ = some (.slice x.aj x.nj x.cj) := hN6.o.cell 1
 have z1 : w6.frozen? ⟨O, 1, none⟩ = false := hN6.o.thaw 1
 have hlo6 := hN6.o.lt
 obtain ⟨w7, hw7⟩ : ∃ w7, w6.setCell ⟨O, 1, none⟩ (.slice A m c) = w7 := ⟨_, rfl⟩
 rw [hw7] at H7
 have Hw7 := hid hw7
 have c9 : w7.cell? ⟨w.heap.size + 1, 9, none⟩ = some (.string q.lease.job) := H7.out.q.cell 9
 have c10 : w7.cell? ⟨w.heap.size + 1, 10, none⟩ = some (.string q.lease.node) := H7.out.q.cell 10
 have c11 : w7.cell? ⟨w.heap.size + 1, 11, none⟩ = some (.int .i64 q.lease.till) := H7.out.q.cell 11
 have s3 : w7.cell? ⟨w.heap.size, 3, none⟩ = some (.slice x.al x.nl x.cl) := H7.out.s.cell 3
 have HP2 := hid (show Calls Tryz.prog 64 #[.slice x.al x.nl x.cl, .agg #[.string q.lease.job, .string q.lease.node, .int .i64 q.lease.till], .func (.func 65) #[] #[]] w7 _ from rput_lease q.lease st.leases x.al x.nl x.cl w7 H7.out.at_.l H7.out.at_.ll h3)
 have hls7 := H7.out.s.lt
 have hlq7 := H7.out.q.lt
 have hlo7 := H7.out.o.lt
 have t9 : (w6.setCell ⟨O, 1, none⟩ (.slice A m c)).cell? ⟨w.heap.size + 1, 9, none⟩ = some (.string q.lease.job) := by rw [Hw7.out]; exact c9
 have t10 : (w6.setCell ⟨O, 1, none⟩ (.slice A m c)).cell? ⟨w.heap.size + 1, 10, none⟩ = some (.string q.lease.node) := by rw [Hw7.out]; exact c10
 have t11 : (w6.setCell ⟨O, 1, none⟩ (.slice A m c)).cell? ⟨w.heap.size + 1, 11, none⟩ = some (.int .i64 q.lease.till) := by rw [Hw7.out]; exact c11
 have t3 : (w6.setCell ⟨O, 1, none⟩ (.slice A m c)).cell? ⟨w.heap.size, 3, none⟩ = some (.slice x.al x.nl x.cl) := by rw [Hw7.out]; exact s3
 clear hw7 hm ho hb6 hN6 HP HN5 k1
 go_wp2_with fail
 simp only [Hw7.out]
 clear t9 t10 t11 t3 Hw7 o1 z1
 refine Calls.mono HP2.out ?_
 rintro e w8 ⟨A2, c2, rfl, ho, hb8⟩
 obtain ⟨m2, hm2⟩ : ∃ m2, (putK LeaseD.job st.leases q.lease).length = m2 := ⟨_, rfl⟩
 have hmb2 : m2 ≤ 1001 := by
  have h := putFrom_len LeaseD.job q.lease st.leases false
  have h2 := H7.out.at_.ll
  rw [← hm2]
  unfold putK
  simp only [Bool.false_eq_true, if_false] at h
  omega
 obtain ⟨so, hso⟩ : ∃ so, stGrant st xx q.lease = so := ⟨_, rfl⟩
 have hN8 := H7.out.kept hb8
 rw [hm2] at ho ⊢
 have H9 := hid (show NxAt w (w8.setCell ⟨O, 3, none⟩ (.slice A2 m2 c2)) O N st x now now q so ⟨A, m, c, x.an, x.nn, x.cn, A2, m2, c2⟩ from by
  rw [← hso]
  exact hN8.setO 3 _ rfl (hN8.ao.withL c2 (own_slAt ho) hm2 (by omega) (fun z hz => by
   rcases putK_mem hz with rfl | hz
   · exact ⟨hok.l1, hok.l2⟩
   · exact hN8.at_.ol z hz)))
 have o3 : w8.cell? ⟨O, 3, none⟩ = some (.slice x.al x.nl x.cl) := hN8.o.cell 3
 have z3 : w8.frozen? ⟨O, 3, none⟩ = false := hN8.o.thaw 3
 have hlo8 := hN8.o.lt
 obtain ⟨xo, hxo⟩ : ∃ xo : StA, ⟨A, m, c, x.an, x.nn, x.cn, A2, m2, c2⟩ = xo := ⟨_, rfl⟩
 rw [hxo] at H9
 have HsoG := hid hso
 clear hxo hso hm2 ho hb8 hN8 HP2 H7 c9 c10 c11 s3
 obtain ⟨w9, hw9⟩ : ∃ w9, w8.setCell ⟨O, 3, none⟩ (.slice A2 m2 c2) = w9 := ⟨_, rfl⟩
 rw [hw9] at H9
 have Hw9 := hid hw9
 clear hw9
 go_wp2_with fail
 simp only [Hw9.out]
 clear Hw9 o3 z3
 obtain ⟨E, hE⟩ : ∃ E, checkE so = E := ⟨_, rfl⟩
 have HE := hid (show Value.int .i64 (checkE so) = Value.int .i64 E from by rw [hE])
 have HE2 := hid hE
 clear hE
 refine rq (Γ := Unit) 184 (fun _ => nxEV so xo now E) [3, 4] (fun p _ => nxE w O N st x now now q so xo p) () (show NxAt w (w9).drew O N st x now now q so xo from H9.out.drewN) ?_ ?_
 · clear H9
   refine ⟨?_, ?_, ?_, ?_, ?_, ?_, ?_, trivial⟩
   · refine okQ 0 1 fun p γ a wx _ _ hp hk => ?_
     have h1 := hk.k 7 rfl
     have hp := (show NxAt w wx O N st x now now q so xo from nxE_lt (by omega) hp)
     obtain ⟨hc0, hc1, hc2, hc3⟩ := Blk.c4 (hp.o)
     simp [go_sem, Oper.wp, execOp, Act.eval, h1, hc0, hc1, hc2, hc3]
     exact ⟨_, rfl, rfl, nxE_mk (by omega) hp⟩
   · refine okQ 0 2 fun p γ a wx _ _ hp hk => ?_
     have h1 := hk.k 8 rfl
     have hc0 : wx.cell? ⟨N, 0, none⟩ = some (.int .i64 now) := (nxE_n hp).cell 0
     simp [go_sem, Oper.wp, execOp, Act.eval, h1, hc0]
     exact ⟨_, rfl, rfl, hp⟩
   · refine okQ 0 0 fun p γ a wx _ _ hp hk => ?_
     have h1 := hk.k 7 rfl
     have hp := (show NxAt w wx O N st x now now q so xo from nxE_lt (by omega) hp)
     obtain ⟨hc0, hc1, hc2, hc3⟩ := Blk.c4 (hp.o)
     simp [go_sem, Oper.wp, execOp, Act.eval, h1, hc0, hc1, hc2, hc3]
     exact ⟨_, rfl, rfl, nxE_mk (by omega) hp⟩
   · refine .inl ⟨0, rfl, fun γ a wx hp hk => wantWp_free rfl ?_⟩
     obtain ⟨u1, h1, rfl⟩ := hk.g 2 182 rfl rfl
     simp [go_sem, Oper.wp, execOp, Act.eval, h1]
     have hp := (show NxAt w wx O N st x now now q so xo from hp)
     refine (rcheck_any so xo wx hp.ao).mono ?_
     rintro e w' ⟨rfl, hb⟩
     exact ⟨_, rfl, HE.out, hp.kept hb⟩
   · refine .inl ⟨1, rfl, fun γ a wx hp hk => wantWp_free rfl ?_⟩
     have h1 := hk.k 4 rfl
     obtain ⟨u2, h2, rfl⟩ := hk.g 0 180 rfl rfl
     have hp := (show NxAt w wx O N st x now now q so xo from hp)
     have hB := hp.r
     obtain ⟨z0, z1, z2, z3⟩ := Blk.z4 (hB)
     obtain ⟨c0, c1, c2, c3⟩ := Blk.c4 (hB)
     obtain ⟨hb4, hg4⟩ := Blk.S4 hB (.int .i64 so.rev) (.slice xo.aj xo.nj xo.cj) (.slice xo.an xo.nn xo.cn) (.slice xo.al xo.nl xo.cl)
     have hfin : nxE w O N st x now now q so xo 2 _ := ⟨wx, hp, hg4, hb4⟩
     clear hB hp
     simp [go_sem, Oper.wp, execOp, Act.eval, h1, h2, c0, c1, c2, c3, z0, z1, z2, z3]
     exact ⟨⟨.int .i64 0, trivial⟩, hfin⟩
   · exact ok1 2 2 1 181 rfl rfl (fun _ _ h => h) fun _ => rfl
   · exact ok1 2 2 3 183 rfl rfl (fun _ _ h => h) fun _ => rfl
 intro γ act wz hd
 obtain ⟨wm, hm, hg, hr⟩ := (show ∃ wm, NxAt w wm O N st x now now q so xo ∧ wm.grownBy wz (some (w.heap.size + 2)) ∧ Blk wz (w.heap.size + 2) 26 (stC so xo) from hd.ph)
 obtain ⟨fv, rfl, hfv⟩ := hd.frame [180, 181, 182, 183, 5, 6] rfl
 have f5 : fv 5 = .int .i64 now := hfv 5 _ 5 rfl rfl
 have f6 : fv 6 = .int .i64 E := hfv 6 _ 6 rfl rfl
 obtain ⟨y0, y1, y2, y3⟩ := Blk.c4 (hr)
 have Hend := hid (hm.end_ hg E)
 clear hd hfv hm hg hr H9
 simp only [foldl_cons, foldl_nil, setIfInBounds_toArray, set_cons_succ, set_cons_zero, f5, f6]
 clear f5 f6
 go_wp2
 refine bodyPost_ret (v := .tuple #[.agg (stC so xo), .int .i64 now, .int .i64 E]) (by simp [results, Tryz.results39, go_sem, stC, *]) rfl ?_
 rw [HR.out, HsoG.out, HE2.out]
 exact Hend.out
end Go.Proofs.YtjgnnobccecpeaaGreatDoor
