/- Of the proof. -/
import Derived.Test.YtjgnnobccecpeaaGreatDoorPRcE
set_option linter.unusedVariables false
set_option linter.unusedSimpArgs false
set_option maxRecDepth 100000
set_option maxHeartbeats 8000000
namespace Go.Proofs.YtjgnnobccecpeaaGreatDoor
open Go.Lib (hid)
open List (foldl_cons foldl_nil setIfInBounds_toArray set_cons_succ set_cons_zero)
open Go.RowKit
structure RqAt (w : World) (S : Nat) (q q1 : ReqD) (wx : World) : Prop where
 qb : Blk wx w.heap.size 44 (reqC q)
 ob : Blk wx S 44 (reqC q1)
 below : Below w.heap.size w wx
 s : w.heap.size < S
theorem RqAt.next {w w' wx : World} {S : Nat} {q q1 : ReqD} (h : RqAt w S q q1 wx) (hb : Below wx.heap.size wx w') : RqAt w S q q1 w' :=
 ⟨h.qb.below hb h.qb.lt, h.ob.below hb h.ob.lt, h.below.trans (hb.mono h.below.size), h.s⟩
theorem RqAt.set {w wx w' : World} {S : Nat} {q q1 q2 : ReqD} (h : RqAt w S q q1 wx) (hg : wx.grownBy w' (some S)) (hb : Blk w' S 44 (reqC q2)) : RqAt w S q q2 w' :=
 ⟨grow_blk hg h.qb (by have := h.s; omega), hb, grow_keep h.below hg (Nat.le_of_lt h.s), h.s⟩
def rqjobV (B S : Nat) (q : ReqD) (E : Int) : Nat → Value → Prop
 | 0, u => u = .pointer (some ⟨B, 1, none⟩)
 | 1, u => u = .agg #[.string q.job.name, .int .i64 q.job.prio, .int .i64 q.job.need, .int .i64 q.job.tries, .string q.job.tag]
 | 2, u => u = .pointer (some ⟨B, 1, none⟩)
 | 3, u => u = .agg #[.string q.job.name, .int .i64 q.job.prio, .int .i64 q.job.need, .int .i64 q.job.tries, .string q.job.tag]
 | 4, u => u = .int .i64 E
 | 5, u => u = .pointer (some ⟨S, 1, none⟩)
 | 6, _ => True
 | 7, u => u = .int .i64 E
 | _, _ => False
theorem rreq_1 (q : ReqD) (w : World) (hq : q.kind = 1) (hok : ROk q) : Calls Tryz.prog 123 #[reqA q] w (ErrPost (reqE q) w) := by
 obtain ⟨W0, hW0⟩ : ∃ W0, w.alloc (.cells (reqC q) 44) = W0 := ⟨_, rfl⟩
 have hb : Blk W0 w.heap.size 44 (reqC q) := by rw [← hW0]; exact heap_alloc_new w _
 have hbW : Below w.heap.size w W0 := by rw [← hW0]; exact (Below.refl _ _).alloc (Nat.le_refl _) _
 have Hsz := hid (show W0.heap.size = w.heap.size + 1 from by rw [← hW0]; simp)
 have HO := hid (outside_any q.kind 1 9 W0)
 rw [show ranged q.kind 1 9 = true from by rw [hq]; rfl] at HO
 have d1 : (q.kind == 1) = true := by rw [hq]; rfl
 have how : ownQ q = ⟨q.kind, q.job, noNode, noLease, ⟨#[]⟩, 0⟩ := by unfold ownQ; simp [hq]
 have hpe0 : partE q = jobE q.job := by unfold partE; simp [hq]
 obtain ⟨E, hE⟩ : ∃ E : Int, (jobE q.job) = E := ⟨_, rfl⟩
 have HPe := hid (hpe0.trans hE)
 have HRe := hid (show ((⟨q.kind, q.job, noNode, noLease, ⟨#[]⟩, 0⟩ : ReqD) ≠ q → reqE q = 4) ∧ ((⟨q.kind, q.job, noNode, noLease, ⟨#[]⟩, 0⟩ : ReqD) = q → reqE q = partE q) from by
  unfold reqE
  rw [how, if_neg (by rw [show ranged q.kind 1 9 = true from by rw [hq]; rfl]; decide)]
  exact ⟨fun h => if_pos h, fun h => if_neg (fun h' => h' h)⟩)
 obtain ⟨t, ht, hrun0⟩ := neqv_req ⟨q.kind, q.job, noNode, noLease, ⟨#[]⟩, 0⟩ q
 have Hrun := hid (show ∀ W, (binOp .neq 44 (.agg #[.int .i64 q.kind, .string q.job.name, .int .i64 q.job.prio, .int .i64 q.job.need, .int .i64 q.job.tries, .string q.job.tag, .string ⟨#[]⟩, .int .i64 0, .string ⟨#[]⟩, .string ⟨#[]⟩, .string ⟨#[]⟩, .int .i64 0, .string ⟨#[]⟩, .int .i64 0]) (.agg (reqL q))).run Tryz.prog W = .ok (.bool (!t)) W from hrun0)
 have Ht := hid ht
 have HE := hid hE
 have Hq := hid hb
 have HbW := hid hbW
 have HW0 := hid hW0
 have hlt := hb.lt
 have c0 : W0.cell? ⟨w.heap.size, 0, none⟩ = some (.int .i64 q.kind) := hb.cell 0
 clear hrun0 ht how hpe0 hE hb hbW hW0 hq
 unfold reqA
 unfold reqC at HW0 ⊢
 go_enter Tryz.func123, Tryz.ntmps123
 go_wp2_with fail
 try simp only [HW0.out]
 refine Calls.mono HO.out ?_
 rintro e w' ⟨rfl, rfl⟩
 clear HO HW0
 obtain ⟨W, hW⟩ : ∃ W, W0.alloc (.cells (reqC (kindQ q.kind)) 44) = W := ⟨_, rfl⟩
 obtain ⟨S, hS⟩ : ∃ S, W0.heap.size = S := ⟨_, rfl⟩
 have H0 := hid (show RqAt w S q (kindQ q.kind) W from by
  rw [← hW, ← hS]
  exact ⟨Blk.alloc Hq.out _, heap_alloc_new W0 _, HbW.out.alloc HbW.out.size _, by have := Hsz.out; omega⟩)
 have HW := hid (show W0.alloc (.cells #[.int .i64 q.kind, .string ⟨#[]⟩, .int .i64 0, .int .i64 0, .int .i64 0, .string ⟨#[]⟩, .string ⟨#[]⟩, .int .i64 0, .string ⟨#[]⟩, .string ⟨#[]⟩, .string ⟨#[]⟩, .int .i64 0, .string ⟨#[]⟩, .int .i64 0] 44) = W from hW)
 have HSz := hid hS
 clear hW Hq HbW hS
 have HC := hid (fun wx => show Calls Tryz.prog 103 #[.agg #[.string q.job.name, .int .i64 q.job.prio, .int .i64 q.job.need, .int .i64 q.job.tries, .string q.job.tag]] wx (fun e w' => e = .returned (.int .i64 E) ∧ Below wx.heap.size wx w') from by rw [← HE.out]; exact jobCheck_any q.job wx hok.j1 hok.j2)
 go_wp2_with fail
 rw [HW.out]
 clear HW c0
 rw [HSz.out]
 refine rq (Γ := Unit) 60 (fun _ => rqjobV w.heap.size S q E) [6] (fun p _ wx => RqAt w S q (if p = 0 then kindQ q.kind else ⟨q.kind, q.job, noNode, noLease, ⟨#[]⟩, 0⟩) wx) () (show RqAt w S q (kindQ q.kind) W.drew from H0.out.next (Below.refl _ _).drew) ?_ ?_
 · clear H0
   refine ⟨?_, ?_, ?_, ?_, ?_, ?_, ?_, ?_, trivial⟩
   · exact ok0 0 1 1 rfl fun _ => rfl
   · refine okQ 0 1 fun p γ a wx _ _ hp hk => ?_
     obtain ⟨u1, h1, rfl⟩ := hk.g 0 15 rfl rfl
     have hc0 : wx.cell? ⟨w.heap.size, 1, none⟩ = some (.string q.job.name) := hp.qb.cell 1
     have hc1 : wx.cell? ⟨w.heap.size, 2, none⟩ = some (.int .i64 q.job.prio) := hp.qb.cell 2
     have hc2 : wx.cell? ⟨w.heap.size, 3, none⟩ = some (.int .i64 q.job.need) := hp.qb.cell 3
     have hc3 : wx.cell? ⟨w.heap.size, 4, none⟩ = some (.int .i64 q.job.tries) := hp.qb.cell 4
     have hc4 : wx.cell? ⟨w.heap.size, 5, none⟩ = some (.string q.job.tag) := hp.qb.cell 5
     simp [go_sem, Oper.wp, execOp, Act.eval, h1, hc0, hc1, hc2, hc3, hc4]
     exact ⟨_, rfl, rfl, hp⟩
   · exact ok0 0 1 1 rfl fun _ => rfl
   · refine okQ 0 1 fun p γ a wx _ _ hp hk => ?_
     obtain ⟨u1, h1, rfl⟩ := hk.g 2 17 rfl rfl
     have hc0 : wx.cell? ⟨w.heap.size, 1, none⟩ = some (.string q.job.name) := hp.qb.cell 1
     have hc1 : wx.cell? ⟨w.heap.size, 2, none⟩ = some (.int .i64 q.job.prio) := hp.qb.cell 2
     have hc2 : wx.cell? ⟨w.heap.size, 3, none⟩ = some (.int .i64 q.job.need) := hp.qb.cell 3
     have hc3 : wx.cell? ⟨w.heap.size, 4, none⟩ = some (.int .i64 q.job.tries) := hp.qb.cell 4
     have hc4 : wx.cell? ⟨w.heap.size, 5, none⟩ = some (.string q.job.tag) := hp.qb.cell 5
     simp [go_sem, Oper.wp, execOp, Act.eval, h1, hc0, hc1, hc2, hc3, hc4]
     exact ⟨_, rfl, rfl, hp⟩
   · refine okQ 0 1 fun p γ a wx _ _ hp hk => ?_
     obtain ⟨u1, h1, rfl⟩ := hk.g 3 18 rfl rfl
     simp [go_sem, Oper.wp, execOp, Act.eval, h1]
     refine (HC.out wx).mono ?_
     rintro e w' ⟨rfl, hb⟩
     exact ⟨_, rfl, rfl, hp.next hb⟩
   · exact ok0 0 1 3 rfl fun _ => rfl
   · refine .inl ⟨0, rfl, fun γ a wx hp hk => wantWp_free rfl ?_⟩
     obtain ⟨u1, h1, rfl⟩ := hk.g 5 20 rfl rfl
     obtain ⟨u2, h2, rfl⟩ := hk.g 1 16 rfl rfl
     have hp := (show RqAt w S q (kindQ q.kind) wx from hp)
     have hB := hp.ob
     have s1 : wx.cell? ⟨S, 1, none⟩ = some (.string ⟨#[]⟩) := hp.ob.cell 1
     have s2 : wx.cell? ⟨S, 2, none⟩ = some (.int .i64 0) := hp.ob.cell 2
     have s3 : wx.cell? ⟨S, 3, none⟩ = some (.int .i64 0) := hp.ob.cell 3
     have s4 : wx.cell? ⟨S, 4, none⟩ = some (.int .i64 0) := hp.ob.cell 4
     have s5 : wx.cell? ⟨S, 5, none⟩ = some (.string ⟨#[]⟩) := hp.ob.cell 5
     have z1 : wx.frozen? ⟨S, 1, none⟩ = false := hp.ob.thaw 1
     have z2 : wx.frozen? ⟨S, 2, none⟩ = false := hp.ob.thaw 2
     have z3 : wx.frozen? ⟨S, 3, none⟩ = false := hp.ob.thaw 3
     have z4 : wx.frozen? ⟨S, 4, none⟩ = false := hp.ob.thaw 4
     have z5 : wx.frozen? ⟨S, 5, none⟩ = false := hp.ob.thaw 5
     have hfin : RqAt w S q ⟨q.kind, q.job, noNode, noLease, ⟨#[]⟩, 0⟩ _ := hp.set (bes_set (bes_set (bes_set (bes_set (bes_set (grow_refl wx S) 1 _) 2 _) 3 _) 4 _) 5 _) (Blk.eq (((((hB.set 1 _).set 2 _).set 3 _).set 4 _).set 5 _) rfl)
     clear hB hp
     simp [go_sem, Oper.wp, execOp, Act.eval, h1, h2, s1, z1, s2, z2, s3, z3, s4, z4, s5, z5]
     exact ⟨⟨.int .i64 0, trivial⟩, hfin⟩
   · exact ok1 0 1 4 19 rfl rfl (fun _ _ h => h) fun _ => rfl
 intro γ a wy hd
 have H1 := hid (show RqAt w S q ⟨q.kind, q.job, noNode, noLease, ⟨#[]⟩, 0⟩ wy from hd.ph)
 obtain ⟨fv, rfl, hfv⟩ := hd.frame [15, 16, 17, 18, 19, 20, 4] rfl
 have f4 : fv 4 = .int .i64 E := hfv 7 _ 4 rfl rfl
 clear hd hfv H0 HC
 simp only [foldl_cons, foldl_nil, setIfInBounds_toArray, set_cons_succ, set_cons_zero, f4]
 clear f4
 obtain ⟨c0, c1, c2, c3, c4, c5, c6, c7, c8, c9, c10, c11, c12, c13⟩ := Blk.c14 (H1.out.qb)
 obtain ⟨o0, o1, o2, o3, o4, o5, o6, o7, o8, o9, o10, o11, o12, o13⟩ := Blk.c14 (show Blk wy (S) _ #[.int .i64 q.kind, .string q.job.name, .int .i64 q.job.prio, .int .i64 q.job.need, .int .i64 q.job.tries, .string q.job.tag, .string ⟨#[]⟩, .int .i64 0, .string ⟨#[]⟩, .string ⟨#[]⟩, .string ⟨#[]⟩, .int .i64 0, .string ⟨#[]⟩, .int .i64 0] from H1.out.ob)
 have hlS := H1.out.ob.lt
 have hlq := H1.out.qb.lt
 have hrun := Hrun.out
 cases t
 · have Hfin := hid (show ErrPost (reqE q) w (.returned (.int .i64 4)) wy from ⟨by rw [HRe.out.1 (fun h => by have := Ht.out.2 h; cases this)], H1.out.below⟩)
   go_wp2
   go_ret
   exact Hfin.out
 · have Hfin := hid (show ErrPost (reqE q) w (.returned (.int .i64 E)) wy from ⟨by rw [HRe.out.2 (Ht.out.1 rfl), HPe.out], H1.out.below⟩)
   go_wp2
   go_ret
   exact Hfin.out
def rqnodeV (B S : Nat) (q : ReqD) (E : Int) : Nat → Value → Prop
 | 0, u => u = .pointer (some ⟨B, 6, none⟩)
 | 1, u => u = .agg #[.string q.node.name, .int .i64 q.node.room, .string q.node.zone]
 | 2, u => u = .pointer (some ⟨B, 6, none⟩)
 | 3, u => u = .agg #[.string q.node.name, .int .i64 q.node.room, .string q.node.zone]
 | 4, u => u = .int .i64 E
 | 5, u => u = .pointer (some ⟨S, 6, none⟩)
 | 6, _ => True
 | 7, u => u = .int .i64 E
 | _, _ => False
theorem rreq_2 (q : ReqD) (w : World) (hq : q.kind = 2) (hok : ROk q) : Calls Tryz.prog 123 #[reqA q] w (ErrPost (reqE q) w) := by
 obtain ⟨W0, hW0⟩ : ∃ W0, w.alloc (.cells (reqC q) 44) = W0 := ⟨_, rfl⟩
 have hb : Blk W0 w.heap.size 44 (reqC q) := by rw [← hW0]; exact heap_alloc_new w _
 have hbW : Below w.heap.size w W0 := by rw [← hW0]; exact (Below.refl _ _).alloc (Nat.le_refl _) _
 have Hsz := hid (show W0.heap.size = w.heap.size + 1 from by rw [← hW0]; simp)
 have HO := hid (outside_any q.kind 1 9 W0)
 rw [show ranged q.kind 1 9 = true from by rw [hq]; rfl] at HO
 have d1 : (q.kind == 1) = false := by rw [hq]; rfl
 have d2 : (q.kind == 2) = true := by rw [hq]; rfl
 have how : ownQ q = ⟨q.kind, noJob, q.node, noLease, ⟨#[]⟩, 0⟩ := by unfold ownQ; simp [hq]
 have hpe0 : partE q = nodeE q.node := by unfold partE; simp [hq]
 obtain ⟨E, hE⟩ : ∃ E : Int, (nodeE q.node) = E := ⟨_, rfl⟩
 have HPe := hid (hpe0.trans hE)
 have HRe := hid (show ((⟨q.kind, noJob, q.node, noLease, ⟨#[]⟩, 0⟩ : ReqD) ≠ q → reqE q = 4) ∧ ((⟨q.kind, noJob, q.node, noLease, ⟨#[]⟩, 0⟩ : ReqD) = q → reqE q = partE q) from by
  unfold reqE
  rw [how, if_neg (by rw [show ranged q.kind 1 9 = true from by rw [hq]; rfl]; decide)]
  exact ⟨fun h => if_pos h, fun h => if_neg (fun h' => h' h)⟩)
 obtain ⟨t, ht, hrun0⟩ := neqv_req ⟨q.kind, noJob, q.node, noLease, ⟨#[]⟩, 0⟩ q
 have Hrun := hid (show ∀ W, (binOp .neq 44 (.agg #[.int .i64 q.kind, .string ⟨#[]⟩, .int .i64 0, .int .i64 0, .int .i64 0, .string ⟨#[]⟩, .string q.node.name, .int .i64 q.node.room, .string q.node.zone, .string ⟨#[]⟩, .string ⟨#[]⟩, .int .i64 0, .string ⟨#[]⟩, .int .i64 0]) (.agg (reqL q))).run Tryz.prog W = .ok (.bool (!t)) W from hrun0)
 have Ht := hid ht
 have HE := hid hE
 have Hq := hid hb
 have HbW := hid hbW
 have HW0 := hid hW0
 have hlt := hb.lt
 have c0 : W0.cell? ⟨w.heap.size, 0, none⟩ = some (.int .i64 q.kind) := hb.cell 0
 clear hrun0 ht how hpe0 hE hb hbW hW0 hq
 unfold reqA
 unfold reqC at HW0 ⊢
 go_enter Tryz.func123, Tryz.ntmps123
 go_wp2_with fail
 try simp only [HW0.out]
 refine Calls.mono HO.out ?_
 rintro e w' ⟨rfl, rfl⟩
 clear HO HW0
 obtain ⟨W, hW⟩ : ∃ W, W0.alloc (.cells (reqC (kindQ q.kind)) 44) = W := ⟨_, rfl⟩
 obtain ⟨S, hS⟩ : ∃ S, W0.heap.size = S := ⟨_, rfl⟩
 have H0 := hid (show RqAt w S q (kindQ q.kind) W from by
  rw [← hW, ← hS]
  exact ⟨Blk.alloc Hq.out _, heap_alloc_new W0 _, HbW.out.alloc HbW.out.size _, by have := Hsz.out; omega⟩)
 have HW := hid (show W0.alloc (.cells #[.int .i64 q.kind, .string ⟨#[]⟩, .int .i64 0, .int .i64 0, .int .i64 0, .string ⟨#[]⟩, .string ⟨#[]⟩, .int .i64 0, .string ⟨#[]⟩, .string ⟨#[]⟩, .string ⟨#[]⟩, .int .i64 0, .string ⟨#[]⟩, .int .i64 0] 44) = W from hW)
 have HSz := hid hS
 clear hW Hq HbW hS
 have HC := hid (fun wx => show Calls Tryz.prog 104 #[.agg #[.string q.node.name, .int .i64 q.node.room, .string q.node.zone]] wx (fun e w' => e = .returned (.int .i64 E) ∧ Below wx.heap.size wx w') from by rw [← HE.out]; exact nodeCheck_any q.node wx hok.n1 hok.n2)
 go_wp2_with fail
 rw [HW.out]
 clear HW c0
 rw [HSz.out]
 refine rq (Γ := Unit) 60 (fun _ => rqnodeV w.heap.size S q E) [6] (fun p _ wx => RqAt w S q (if p = 0 then kindQ q.kind else ⟨q.kind, noJob, q.node, noLease, ⟨#[]⟩, 0⟩) wx) () (show RqAt w S q (kindQ q.kind) W.drew from H0.out.next (Below.refl _ _).drew) ?_ ?_
 · clear H0
   refine ⟨?_, ?_, ?_, ?_, ?_, ?_, ?_, ?_, trivial⟩
   · exact ok0 0 1 1 rfl fun _ => rfl
   · refine okQ 0 1 fun p γ a wx _ _ hp hk => ?_
     obtain ⟨u1, h1, rfl⟩ := hk.g 0 23 rfl rfl
     have hc0 : wx.cell? ⟨w.heap.size, 6, none⟩ = some (.string q.node.name) := hp.qb.cell 6
     have hc1 : wx.cell? ⟨w.heap.size, 7, none⟩ = some (.int .i64 q.node.room) := hp.qb.cell 7
     have hc2 : wx.cell? ⟨w.heap.size, 8, none⟩ = some (.string q.node.zone) := hp.qb.cell 8
     simp [go_sem, Oper.wp, execOp, Act.eval, h1, hc0, hc1, hc2]
     exact ⟨_, rfl, rfl, hp⟩
   · exact ok0 0 1 1 rfl fun _ => rfl
   · refine okQ 0 1 fun p γ a wx _ _ hp hk => ?_
     obtain ⟨u1, h1, rfl⟩ := hk.g 2 25 rfl rfl
     have hc0 : wx.cell? ⟨w.heap.size, 6, none⟩ = some (.string q.node.name) := hp.qb.cell 6
     have hc1 : wx.cell? ⟨w.heap.size, 7, none⟩ = some (.int .i64 q.node.room) := hp.qb.cell 7
     have hc2 : wx.cell? ⟨w.heap.size, 8, none⟩ = some (.string q.node.zone) := hp.qb.cell 8
     simp [go_sem, Oper.wp, execOp, Act.eval, h1, hc0, hc1, hc2]
     exact ⟨_, rfl, rfl, hp⟩
   · refine okQ 0 1 fun p γ a wx _ _ hp hk => ?_
     obtain ⟨u1, h1, rfl⟩ := hk.g 3 26 rfl rfl
     simp [go_sem, Oper.wp, execOp, Act.eval, h1]
     refine (HC.out wx).mono ?_
     rintro e w' ⟨rfl, hb⟩
     exact ⟨_, rfl, rfl, hp.next hb⟩
   · exact ok0 0 1 3 rfl fun _ => rfl
   · refine .inl ⟨0, rfl, fun γ a wx hp hk => wantWp_free rfl ?_⟩
     obtain ⟨u1, h1, rfl⟩ := hk.g 5 28 rfl rfl
     obtain ⟨u2, h2, rfl⟩ := hk.g 1 24 rfl rfl
     have hp := (show RqAt w S q (kindQ q.kind) wx from hp)
     have hB := hp.ob
     have s6 : wx.cell? ⟨S, 6, none⟩ = some (.string ⟨#[]⟩) := hp.ob.cell 6
     have s7 : wx.cell? ⟨S, 7, none⟩ = some (.int .i64 0) := hp.ob.cell 7
     have s8 : wx.cell? ⟨S, 8, none⟩ = some (.string ⟨#[]⟩) := hp.ob.cell 8
     have z6 : wx.frozen? ⟨S, 6, none⟩ = false := hp.ob.thaw 6
     have z7 : wx.frozen? ⟨S, 7, none⟩ = false := hp.ob.thaw 7
     have z8 : wx.frozen? ⟨S, 8, none⟩ = false := hp.ob.thaw 8
     have hfin : RqAt w S q ⟨q.kind, noJob, q.node, noLease, ⟨#[]⟩, 0⟩ _ := hp.set (bes_set (bes_set (bes_set (grow_refl wx S) 6 _) 7 _) 8 _) (Blk.eq (((hB.set 6 _).set 7 _).set 8 _) rfl)
     clear hB hp
     simp [go_sem, Oper.wp, execOp, Act.eval, h1, h2, s6, z6, s7, z7, s8, z8]
     exact ⟨⟨.int .i64 0, trivial⟩, hfin⟩
   · exact ok1 0 1 4 27 rfl rfl (fun _ _ h => h) fun _ => rfl
 intro γ a wy hd
 have H1 := hid (show RqAt w S q ⟨q.kind, noJob, q.node, noLease, ⟨#[]⟩, 0⟩ wy from hd.ph)
 obtain ⟨fv, rfl, hfv⟩ := hd.frame [23, 24, 25, 26, 27, 28, 4] rfl
 have f4 : fv 4 = .int .i64 E := hfv 7 _ 4 rfl rfl
 clear hd hfv H0 HC
 simp only [foldl_cons, foldl_nil, setIfInBounds_toArray, set_cons_succ, set_cons_zero, f4]
 clear f4
 obtain ⟨c0, c1, c2, c3, c4, c5, c6, c7, c8, c9, c10, c11, c12, c13⟩ := Blk.c14 (H1.out.qb)
 obtain ⟨o0, o1, o2, o3, o4, o5, o6, o7, o8, o9, o10, o11, o12, o13⟩ := Blk.c14 (show Blk wy (S) _ #[.int .i64 q.kind, .string ⟨#[]⟩, .int .i64 0, .int .i64 0, .int .i64 0, .string ⟨#[]⟩, .string q.node.name, .int .i64 q.node.room, .string q.node.zone, .string ⟨#[]⟩, .string ⟨#[]⟩, .int .i64 0, .string ⟨#[]⟩, .int .i64 0] from H1.out.ob)
 have hlS := H1.out.ob.lt
 have hlq := H1.out.qb.lt
 have hrun := Hrun.out
 cases t
 · have Hfin := hid (show ErrPost (reqE q) w (.returned (.int .i64 4)) wy from ⟨by rw [HRe.out.1 (fun h => by have := Ht.out.2 h; cases this)], H1.out.below⟩)
   go_wp2
   go_ret
   exact Hfin.out
 · have Hfin := hid (show ErrPost (reqE q) w (.returned (.int .i64 E)) wy from ⟨by rw [HRe.out.2 (Ht.out.1 rfl), HPe.out], H1.out.below⟩)
   go_wp2
   go_ret
   exact Hfin.out
def rqleaseV (B S : Nat) (q : ReqD) (E : Int) : Nat → Value → Prop
 | 0, u => u = .pointer (some ⟨B, 9, none⟩)
 | 1, u => u = .agg #[.string q.lease.job, .string q.lease.node, .int .i64 q.lease.till]
 | 2, u => u = .pointer (some ⟨B, 9, none⟩)
 | 3, u => u = .agg #[.string q.lease.job, .string q.lease.node, .int .i64 q.lease.till]
 | 4, u => u = .int .i64 E
 | 5, u => u = .pointer (some ⟨S, 9, none⟩)
 | 6, _ => True
 | 7, u => u = .int .i64 E
 | _, _ => False
theorem rreq_5 (q : ReqD) (w : World) (hq : q.kind = 5) (hok : ROk q) : Calls Tryz.prog 123 #[reqA q] w (ErrPost (reqE q) w) := by
 obtain ⟨W0, hW0⟩ : ∃ W0, w.alloc (.cells (reqC q) 44) = W0 := ⟨_, rfl⟩
 have hb : Blk W0 w.heap.size 44 (reqC q) := by rw [← hW0]; exact heap_alloc_new w _
 have hbW : Below w.heap.size w W0 := by rw [← hW0]; exact (Below.refl _ _).alloc (Nat.le_refl _) _
 have Hsz := hid (show W0.heap.size = w.heap.size + 1 from by rw [← hW0]; simp)
 have HO := hid (outside_any q.kind 1 9 W0)
 rw [show ranged q.kind 1 9 = true from by rw [hq]; rfl] at HO
 have d1 : (q.kind == 1) = false := by rw [hq]; rfl
 have d2 : (q.kind == 2) = false := by rw [hq]; rfl
 have d3 : (q.kind == 3) = false := by rw [hq]; rfl
 have d4 : (q.kind == 4) = false := by rw [hq]; rfl
 have d5 : (q.kind == 5) = true := by rw [hq]; rfl
 have how : ownQ q = ⟨q.kind, noJob, noNode, q.lease, ⟨#[]⟩, 0⟩ := by unfold ownQ; simp [hq]
 have hpe0 : partE q = lsE q.lease := by unfold partE; simp [hq]
 obtain ⟨E, hE⟩ : ∃ E : Int, (lsE q.lease) = E := ⟨_, rfl⟩
 have HPe := hid (hpe0.trans hE)
 have HRe := hid (show ((⟨q.kind, noJob, noNode, q.lease, ⟨#[]⟩, 0⟩ : ReqD) ≠ q → reqE q = 4) ∧ ((⟨q.kind, noJob, noNode, q.lease, ⟨#[]⟩, 0⟩ : ReqD) = q → reqE q = partE q) from by
  unfold reqE
  rw [how, if_neg (by rw [show ranged q.kind 1 9 = true from by rw [hq]; rfl]; decide)]
  exact ⟨fun h => if_pos h, fun h => if_neg (fun h' => h' h)⟩)
 obtain ⟨t, ht, hrun0⟩ := neqv_req ⟨q.kind, noJob, noNode, q.lease, ⟨#[]⟩, 0⟩ q
 have Hrun := hid (show ∀ W, (binOp .neq 44 (.agg #[.int .i64 q.kind, .string ⟨#[]⟩, .int .i64 0, .int .i64 0, .int .i64 0, .string ⟨#[]⟩, .string ⟨#[]⟩, .int .i64 0, .string ⟨#[]⟩, .string q.lease.job, .string q.lease.node, .int .i64 q.lease.till, .string ⟨#[]⟩, .int .i64 0]) (.agg (reqL q))).run Tryz.prog W = .ok (.bool (!t)) W from hrun0)
 have Ht := hid ht
 have HE := hid hE
 have Hq := hid hb
 have HbW := hid hbW
 have HW0 := hid hW0
 have hlt := hb.lt
 have c0 : W0.cell? ⟨w.heap.size, 0, none⟩ = some (.int .i64 q.kind) := hb.cell 0
 clear hrun0 ht how hpe0 hE hb hbW hW0 hq
 unfold reqA
 unfold reqC at HW0 ⊢
 go_enter Tryz.func123, Tryz.ntmps123
 go_wp2_with fail
 try simp only [HW0.out]
 refine Calls.mono HO.out ?_
 rintro e w' ⟨rfl, rfl⟩
 clear HO HW0
 obtain ⟨W, hW⟩ : ∃ W, W0.alloc (.cells (reqC (kindQ q.kind)) 44) = W := ⟨_, rfl⟩
 obtain ⟨S, hS⟩ : ∃ S, W0.heap.size = S := ⟨_, rfl⟩
 have H0 := hid (show RqAt w S q (kindQ q.kind) W from by
  rw [← hW, ← hS]
  exact ⟨Blk.alloc Hq.out _, heap_alloc_new W0 _, HbW.out.alloc HbW.out.size _, by have := Hsz.out; omega⟩)
 have HW := hid (show W0.alloc (.cells #[.int .i64 q.kind, .string ⟨#[]⟩, .int .i64 0, .int .i64 0, .int .i64 0, .string ⟨#[]⟩, .string ⟨#[]⟩, .int .i64 0, .string ⟨#[]⟩, .string ⟨#[]⟩, .string ⟨#[]⟩, .int .i64 0, .string ⟨#[]⟩, .int .i64 0] 44) = W from hW)
 have HSz := hid hS
 clear hW Hq HbW hS
 have HC := hid (fun wx => show Calls Tryz.prog 144 #[.agg #[.string q.lease.job, .string q.lease.node, .int .i64 q.lease.till]] wx (fun e w' => e = .returned (.int .i64 E) ∧ Below wx.heap.size wx w') from by rw [← HE.out]; exact leaseCheck_any q.lease wx hok.l1 hok.l2)
 go_wp2_with fail
 rw [HW.out]
 clear HW c0
 rw [HSz.out]
 refine rq (Γ := Unit) 60 (fun _ => rqleaseV w.heap.size S q E) [6] (fun p _ wx => RqAt w S q (if p = 0 then kindQ q.kind else ⟨q.kind, noJob, noNode, q.lease, ⟨#[]⟩, 0⟩) wx) () (show RqAt w S q (kindQ q.kind) W.drew from H0.out.next (Below.refl _ _).drew) ?_ ?_
 · clear H0
   refine ⟨?_, ?_, ?_, ?_, ?_, ?_, ?_, ?_, trivial⟩
   · exact ok0 0 1 1 rfl fun _ => rfl
   · refine okQ 0 1 fun p γ a wx _ _ hp hk => ?_
     obtain ⟨u1, h1, rfl⟩ := hk.g 0 42 rfl rfl
     have hc0 : wx.cell? ⟨w.heap.size, 9, none⟩ = some (.string q.lease.job) := hp.qb.cell 9
     have hc1 : wx.cell? ⟨w.heap.size, 10, none⟩ = some (.string q.lease.node) := hp.qb.cell 10
     have hc2 : wx.cell? ⟨w.heap.size, 11, none⟩ = some (.int .i64 q.lease.till) := hp.qb.cell 11
     simp [go_sem, Oper.wp, execOp, Act.eval, h1, hc0, hc1, hc2]
     exact ⟨_, rfl, rfl, hp⟩
   · exact ok0 0 1 1 rfl fun _ => rfl
   · refine okQ 0 1 fun p γ a wx _ _ hp hk => ?_
     obtain ⟨u1, h1, rfl⟩ := hk.g 2 44 rfl rfl
     have hc0 : wx.cell? ⟨w.heap.size, 9, none⟩ = some (.string q.lease.job) := hp.qb.cell 9
     have hc1 : wx.cell? ⟨w.heap.size, 10, none⟩ = some (.string q.lease.node) := hp.qb.cell 10
     have hc2 : wx.cell? ⟨w.heap.size, 11, none⟩ = some (.int .i64 q.lease.till) := hp.qb.cell 11
     simp [go_sem, Oper.wp, execOp, Act.eval, h1, hc0, hc1, hc2]
     exact ⟨_, rfl, rfl, hp⟩
   · refine okQ 0 1 fun p γ a wx _ _ hp hk => ?_
     obtain ⟨u1, h1, rfl⟩ := hk.g 3 45 rfl rfl
     simp [go_sem, Oper.wp, execOp, Act.eval, h1]
     refine (HC.out wx).mono ?_
     rintro e w' ⟨rfl, hb⟩
     exact ⟨_, rfl, rfl, hp.next hb⟩
   · exact ok0 0 1 3 rfl fun _ => rfl
   · refine .inl ⟨0, rfl, fun γ a wx hp hk => wantWp_free rfl ?_⟩
     obtain ⟨u1, h1, rfl⟩ := hk.g 5 47 rfl rfl
     obtain ⟨u2, h2, rfl⟩ := hk.g 1 43 rfl rfl
     have hp := (show RqAt w S q (kindQ q.kind) wx from hp)
     have hB := hp.ob
     have s9 : wx.cell? ⟨S, 9, none⟩ = some (.string ⟨#[]⟩) := hp.ob.cell 9
     have s10 : wx.cell? ⟨S, 10, none⟩ = some (.string ⟨#[]⟩) := hp.ob.cell 10
     have s11 : wx.cell? ⟨S, 11, none⟩ = some (.int .i64 0) := hp.ob.cell 11
     have z9 : wx.frozen? ⟨S, 9, none⟩ = false := hp.ob.thaw 9
     have z10 : wx.frozen? ⟨S, 10, none⟩ = false := hp.ob.thaw 10
     have z11 : wx.frozen? ⟨S, 11, none⟩ = false := hp.ob.thaw 11
     have hfin : RqAt w S q ⟨q.kind, noJob, noNode, q.lease, ⟨#[]⟩, 0⟩ _ := hp.set (bes_set (bes_set (bes_set (grow_refl wx S) 9 _) 10 _) 11 _) (Blk.eq (((hB.set 9 _).set 10 _).set 11 _) rfl)
     clear hB hp
     simp [go_sem, Oper.wp, execOp, Act.eval, h1, h2, s9, z9, s10, z10, s11, z11]
     exact ⟨⟨.int .i64 0, trivial⟩, hfin⟩
   · exact ok1 0 1 4 46 rfl rfl (fun _ _ h => h) fun _ => rfl
 intro γ a wy hd
 have H1 := hid (show RqAt w S q ⟨q.kind, noJob, noNode, q.lease, ⟨#[]⟩, 0⟩ wy from hd.ph)
 obtain ⟨fv, rfl, hfv⟩ := hd.frame [42, 43, 44, 45, 46, 47, 4] rfl
 have f4 : fv 4 = .int .i64 E := hfv 7 _ 4 rfl rfl
 clear hd hfv H0 HC
 simp only [foldl_cons, foldl_nil, setIfInBounds_toArray, set_cons_succ, set_cons_zero, f4]
 clear f4
 obtain ⟨c0, c1, c2, c3, c4, c5, c6, c7, c8, c9, c10, c11, c12, c13⟩ := Blk.c14 (H1.out.qb)
 obtain ⟨o0, o1, o2, o3, o4, o5, o6, o7, o8, o9, o10, o11, o12, o13⟩ := Blk.c14 (show Blk wy (S) _ #[.int .i64 q.kind, .string ⟨#[]⟩, .int .i64 0, .int .i64 0, .int .i64 0, .string ⟨#[]⟩, .string ⟨#[]⟩, .int .i64 0, .string ⟨#[]⟩, .string q.lease.job, .string q.lease.node, .int .i64 q.lease.till, .string ⟨#[]⟩, .int .i64 0] from H1.out.ob)
 have hlS := H1.out.ob.lt
 have hlq := H1.out.qb.lt
 have hrun := Hrun.out
 cases t
 · have Hfin := hid (show ErrPost (reqE q) w (.returned (.int .i64 4)) wy from ⟨by rw [HRe.out.1 (fun h => by have := Ht.out.2 h; cases this)], H1.out.below⟩)
   go_wp2
   go_ret
   exact Hfin.out
 · have Hfin := hid (show ErrPost (reqE q) w (.returned (.int .i64 E)) wy from ⟨by rw [HRe.out.2 (Ht.out.1 rfl), HPe.out], H1.out.below⟩)
   go_wp2
   go_ret
   exact Hfin.out
theorem rreq_3 (q : ReqD) (w : World) (hq : q.kind = 3) (hok : ROk q) : Calls Tryz.prog 123 #[reqA q] w (ErrPost (reqE q) w) := by
 obtain ⟨W0, hW0⟩ : ∃ W0, w.alloc (.cells (reqC q) 44) = W0 := ⟨_, rfl⟩
 have hb : Blk W0 w.heap.size 44 (reqC q) := by rw [← hW0]; exact heap_alloc_new w _
 have hbW : Below w.heap.size w W0 := by rw [← hW0]; exact (Below.refl _ _).alloc (Nat.le_refl _) _
 have Hsz := hid (show W0.heap.size = w.heap.size + 1 from by rw [← hW0]; simp)
 have Hk := hid (show W0.cell? ⟨w.heap.size, 12, none⟩ = some (.string q.name) from hb.cell 12)
 have HO := hid (outside_any q.kind 1 9 W0)
 rw [show ranged q.kind 1 9 = true from by rw [hq]; rfl] at HO
 have d1 : (q.kind == 1) = false := by rw [hq]; rfl
 have d2 : (q.kind == 2) = false := by rw [hq]; rfl
 have d3 : (q.kind == 3) = true := by rw [hq]; rfl
 have how : ownQ q = ⟨q.kind, noJob, noNode, noLease, q.name, 0⟩ := by unfold ownQ; simp [hq]
 have hpe0 : partE q = if nameOk q.name = true then 0 else 4 := by unfold partE; simp [hq]
 obtain ⟨E, hE⟩ : ∃ E : Int, (if nameOk q.name = true then 0 else 4) = E := ⟨_, rfl⟩
 have HPe := hid (hpe0.trans hE)
 have HRe := hid (show ((⟨q.kind, noJob, noNode, noLease, q.name, 0⟩ : ReqD) ≠ q → reqE q = 4) ∧ ((⟨q.kind, noJob, noNode, noLease, q.name, 0⟩ : ReqD) = q → reqE q = partE q) from by
  unfold reqE
  rw [how, if_neg (by rw [show ranged q.kind 1 9 = true from by rw [hq]; rfl]; decide)]
  exact ⟨fun h => if_pos h, fun h => if_neg (fun h' => h' h)⟩)
 obtain ⟨t, ht, hrun0⟩ := neqv_req ⟨q.kind, noJob, noNode, noLease, q.name, 0⟩ q
 have Hrun := hid (show ∀ W, (binOp .neq 44 (.agg #[.int .i64 q.kind, .string ⟨#[]⟩, .int .i64 0, .int .i64 0, .int .i64 0, .string ⟨#[]⟩, .string ⟨#[]⟩, .int .i64 0, .string ⟨#[]⟩, .string ⟨#[]⟩, .string ⟨#[]⟩, .int .i64 0, .string q.name, .int .i64 0]) (.agg (reqL q))).run Tryz.prog W = .ok (.bool (!t)) W from hrun0)
 have Ht := hid ht
 have HE := hid hE
 have Hq := hid hb
 have HbW := hid hbW
 have HW0 := hid hW0
 have hlt := hb.lt
 have c0 : W0.cell? ⟨w.heap.size, 0, none⟩ = some (.int .i64 q.kind) := hb.cell 0
 clear hrun0 ht how hpe0 hE hb hbW hW0 hq
 unfold reqA
 unfold reqC at HW0 ⊢
 go_enter Tryz.func123, Tryz.ntmps123
 go_wp2_with fail
 try simp only [HW0.out]
 refine Calls.mono HO.out ?_
 rintro e w' ⟨rfl, rfl⟩
 clear HO HW0
 obtain ⟨W, hW⟩ : ∃ W, W0.alloc (.cells (reqC (⟨q.kind, noJob, noNode, noLease, q.name, 0⟩ : ReqD)) 44) = W := ⟨_, rfl⟩
 obtain ⟨S, hS⟩ : ∃ S, W0.heap.size = S := ⟨_, rfl⟩
 have H0 := hid (show RqAt w S q (⟨q.kind, noJob, noNode, noLease, q.name, 0⟩ : ReqD) W from by
  rw [← hW, ← hS]
  exact ⟨Blk.alloc Hq.out _, heap_alloc_new W0 _, HbW.out.alloc HbW.out.size _, by have := Hsz.out; omega⟩)
 have HW := hid (show W0.alloc (.cells #[.int .i64 q.kind, .string ⟨#[]⟩, .int .i64 0, .int .i64 0, .int .i64 0, .string ⟨#[]⟩, .string ⟨#[]⟩, .int .i64 0, .string ⟨#[]⟩, .string ⟨#[]⟩, .string ⟨#[]⟩, .int .i64 0, .string q.name, .int .i64 0] 44) = W from hW)
 have HSz := hid hS
 clear hW Hq HbW hS
 have k12 : W0.cell? ⟨w.heap.size, 12, none⟩ = some (.string q.name) := Hk.out
 have HN := hid (rIsName_any q.name W hok.s)
 obtain ⟨ok, hok'⟩ : ∃ ok, nameOk q.name = ok := ⟨_, rfl⟩
 rw [hok'] at HN HE
 have HE := hid HE.out
 have H1 := H0
 clear H0 hok'
 go_wp2_with fail
 simp only [HW.out, HSz.out]
 clear HW
 refine Calls.mono HN.out ?_
 rintro e w5 ⟨rfl, rfl⟩
 clear HN c0 k12
 cases ok
 · have hE : (4 : Int) = E := HE.out
   clear HE
   subst hE
   obtain ⟨c0, c1, c2, c3, c4, c5, c6, c7, c8, c9, c10, c11, c12, c13⟩ := Blk.c14 (H1.out.qb)
   obtain ⟨o0, o1, o2, o3, o4, o5, o6, o7, o8, o9, o10, o11, o12, o13⟩ := Blk.c14 (show Blk W (S) _ #[.int .i64 q.kind, .string ⟨#[]⟩, .int .i64 0, .int .i64 0, .int .i64 0, .string ⟨#[]⟩, .string ⟨#[]⟩, .int .i64 0, .string ⟨#[]⟩, .string ⟨#[]⟩, .string ⟨#[]⟩, .int .i64 0, .string q.name, .int .i64 0] from H1.out.ob)
   have hlS := H1.out.ob.lt
   have hlq := H1.out.qb.lt
   have hrun := Hrun.out
   cases t
   · have Hfin := hid (show ErrPost (reqE q) w (.returned (.int .i64 4)) W from ⟨by rw [HRe.out.1 (fun h => by have := Ht.out.2 h; cases this)], H1.out.below⟩)
     go_wp2
     go_ret
     exact Hfin.out
   · have Hfin := hid (show ErrPost (reqE q) w (.returned (.int .i64 4)) W from ⟨by rw [HRe.out.2 (Ht.out.1 rfl), HPe.out], H1.out.below⟩)
     go_wp2
     go_ret
     exact Hfin.out
 · have hE : (0 : Int) = E := HE.out
   clear HE
   subst hE
   obtain ⟨c0, c1, c2, c3, c4, c5, c6, c7, c8, c9, c10, c11, c12, c13⟩ := Blk.c14 (H1.out.qb)
   obtain ⟨o0, o1, o2, o3, o4, o5, o6, o7, o8, o9, o10, o11, o12, o13⟩ := Blk.c14 (show Blk W (S) _ #[.int .i64 q.kind, .string ⟨#[]⟩, .int .i64 0, .int .i64 0, .int .i64 0, .string ⟨#[]⟩, .string ⟨#[]⟩, .int .i64 0, .string ⟨#[]⟩, .string ⟨#[]⟩, .string ⟨#[]⟩, .int .i64 0, .string q.name, .int .i64 0] from H1.out.ob)
   have hlS := H1.out.ob.lt
   have hlq := H1.out.qb.lt
   have hrun := Hrun.out
   cases t
   · have Hfin := hid (show ErrPost (reqE q) w (.returned (.int .i64 4)) W from ⟨by rw [HRe.out.1 (fun h => by have := Ht.out.2 h; cases this)], H1.out.below⟩)
     go_wp2
     go_ret
     exact Hfin.out
   · have Hfin := hid (show ErrPost (reqE q) w (.returned (.int .i64 0)) W from ⟨by rw [HRe.out.2 (Ht.out.1 rfl), HPe.out], H1.out.below⟩)
     go_wp2
     go_ret
     exact Hfin.out
theorem rreq_4 (q : ReqD) (w : World) (hq : q.kind = 4) (hok : ROk q) : Calls Tryz.prog 123 #[reqA q] w (ErrPost (reqE q) w) := by
 obtain ⟨W0, hW0⟩ : ∃ W0, w.alloc (.cells (reqC q) 44) = W0 := ⟨_, rfl⟩
 have hb : Blk W0 w.heap.size 44 (reqC q) := by rw [← hW0]; exact heap_alloc_new w _
 have hbW : Below w.heap.size w W0 := by rw [← hW0]; exact (Below.refl _ _).alloc (Nat.le_refl _) _
 have Hsz := hid (show W0.heap.size = w.heap.size + 1 from by rw [← hW0]; simp)
 have Hk := hid (show W0.cell? ⟨w.heap.size, 12, none⟩ = some (.string q.name) from hb.cell 12)
 have HO := hid (outside_any q.kind 1 9 W0)
 rw [show ranged q.kind 1 9 = true from by rw [hq]; rfl] at HO
 have d1 : (q.kind == 1) = false := by rw [hq]; rfl
 have d2 : (q.kind == 2) = false := by rw [hq]; rfl
 have d3 : (q.kind == 3) = false := by rw [hq]; rfl
 have d4 : (q.kind == 4) = true := by rw [hq]; rfl
 have how : ownQ q = ⟨q.kind, noJob, noNode, noLease, q.name, 0⟩ := by unfold ownQ; simp [hq]
 have hpe0 : partE q = if nameOk q.name = true then 0 else 4 := by unfold partE; simp [hq]
 obtain ⟨E, hE⟩ : ∃ E : Int, (if nameOk q.name = true then 0 else 4) = E := ⟨_, rfl⟩
 have HPe := hid (hpe0.trans hE)
 have HRe := hid (show ((⟨q.kind, noJob, noNode, noLease, q.name, 0⟩ : ReqD) ≠ q → reqE q = 4) ∧ ((⟨q.kind, noJob, noNode, noLease, q.name, 0⟩ : ReqD) = q → reqE q = partE q) from by
  unfold reqE
  rw [how, if_neg (by rw [show ranged q.kind 1 9 = true from by rw [hq]; rfl]; decide)]
  exact ⟨fun h => if_pos h, fun h => if_neg (fun h' => h' h)⟩)
 obtain ⟨t, ht, hrun0⟩ := neqv_req ⟨q.kind, noJob, noNode, noLease, q.name, 0⟩ q
 have Hrun := hid (show ∀ W, (binOp .neq 44 (.agg #[.int .i64 q.kind, .string ⟨#[]⟩, .int .i64 0, .int .i64 0, .int .i64 0, .string ⟨#[]⟩, .string ⟨#[]⟩, .int .i64 0, .string ⟨#[]⟩, .string ⟨#[]⟩, .string ⟨#[]⟩, .int .i64 0, .string q.name, .int .i64 0]) (.agg (reqL q))).run Tryz.prog W = .ok (.bool (!t)) W from hrun0)
 have Ht := hid ht
 have HE := hid hE
 have Hq := hid hb
 have HbW := hid hbW
 have HW0 := hid hW0
 have hlt := hb.lt
 have c0 : W0.cell? ⟨w.heap.size, 0, none⟩ = some (.int .i64 q.kind) := hb.cell 0
 clear hrun0 ht how hpe0 hE hb hbW hW0 hq
 unfold reqA
 unfold reqC at HW0 ⊢
 go_enter Tryz.func123, Tryz.ntmps123
 go_wp2_with fail
 try simp only [HW0.out]
 refine Calls.mono HO.out ?_
 rintro e w' ⟨rfl, rfl⟩
 clear HO HW0
 obtain ⟨W, hW⟩ : ∃ W, W0.alloc (.cells (reqC (⟨q.kind, noJob, noNode, noLease, q.name, 0⟩ : ReqD)) 44) = W := ⟨_, rfl⟩
 obtain ⟨S, hS⟩ : ∃ S, W0.heap.size = S := ⟨_, rfl⟩
 have H0 := hid (show RqAt w S q (⟨q.kind, noJob, noNode, noLease, q.name, 0⟩ : ReqD) W from by
  rw [← hW, ← hS]
  exact ⟨Blk.alloc Hq.out _, heap_alloc_new W0 _, HbW.out.alloc HbW.out.size _, by have := Hsz.out; omega⟩)
 have HW := hid (show W0.alloc (.cells #[.int .i64 q.kind, .string ⟨#[]⟩, .int .i64 0, .int .i64 0, .int .i64 0, .string ⟨#[]⟩, .string ⟨#[]⟩, .int .i64 0, .string ⟨#[]⟩, .string ⟨#[]⟩, .string ⟨#[]⟩, .int .i64 0, .string q.name, .int .i64 0] 44) = W from hW)
 have HSz := hid hS
 clear hW Hq HbW hS
 have k12 : W0.cell? ⟨w.heap.size, 12, none⟩ = some (.string q.name) := Hk.out
 have HN := hid (rIsName_any q.name W hok.s)
 obtain ⟨ok, hok'⟩ : ∃ ok, nameOk q.name = ok := ⟨_, rfl⟩
 rw [hok'] at HN HE
 have HE := hid HE.out
 have H1 := H0
 clear H0 hok'
 go_wp2_with fail
 simp only [HW.out, HSz.out]
 clear HW
 refine Calls.mono HN.out ?_
 rintro e w5 ⟨rfl, rfl⟩
 clear HN c0 k12
 cases ok
 · have hE : (4 : Int) = E := HE.out
   clear HE
   subst hE
   obtain ⟨c0, c1, c2, c3, c4, c5, c6, c7, c8, c9, c10, c11, c12, c13⟩ := Blk.c14 (H1.out.qb)
   obtain ⟨o0, o1, o2, o3, o4, o5, o6, o7, o8, o9, o10, o11, o12, o13⟩ := Blk.c14 (show Blk W (S) _ #[.int .i64 q.kind, .string ⟨#[]⟩, .int .i64 0, .int .i64 0, .int .i64 0, .string ⟨#[]⟩, .string ⟨#[]⟩, .int .i64 0, .string ⟨#[]⟩, .string ⟨#[]⟩, .string ⟨#[]⟩, .int .i64 0, .string q.name, .int .i64 0] from H1.out.ob)
   have hlS := H1.out.ob.lt
   have hlq := H1.out.qb.lt
   have hrun := Hrun.out
   cases t
   · have Hfin := hid (show ErrPost (reqE q) w (.returned (.int .i64 4)) W from ⟨by rw [HRe.out.1 (fun h => by have := Ht.out.2 h; cases this)], H1.out.below⟩)
     go_wp2
     go_ret
     exact Hfin.out
   · have Hfin := hid (show ErrPost (reqE q) w (.returned (.int .i64 4)) W from ⟨by rw [HRe.out.2 (Ht.out.1 rfl), HPe.out], H1.out.below⟩)
     go_wp2
     go_ret
     exact Hfin.out
 · have hE : (0 : Int) = E := HE.out
   clear HE
   subst hE
   obtain ⟨c0, c1, c2, c3, c4, c5, c6, c7, c8, c9, c10, c11, c12, c13⟩ := Blk.c14 (H1.out.qb)
   obtain ⟨o0, o1, o2, o3, o4, o5, o6, o7, o8, o9, o10, o11, o12, o13⟩ := Blk.c14 (show Blk W (S) _ #[.int .i64 q.kind, .string ⟨#[]⟩, .int .i64 0, .int .i64 0, .int .i64 0, .string ⟨#[]⟩, .string ⟨#[]⟩, .int .i64 0, .string ⟨#[]⟩, .string ⟨#[]⟩, .string ⟨#[]⟩, .int .i64 0, .string q.name, .int .i64 0] from H1.out.ob)
   have hlS := H1.out.ob.lt
   have hlq := H1.out.qb.lt
   have hrun := Hrun.out
   cases t
   · have Hfin := hid (show ErrPost (reqE q) w (.returned (.int .i64 4)) W from ⟨by rw [HRe.out.1 (fun h => by have := Ht.out.2 h; cases this)], H1.out.below⟩)
     go_wp2
     go_ret
     exact Hfin.out
   · have Hfin := hid (show ErrPost (reqE q) w (.returned (.int .i64 0)) W from ⟨by rw [HRe.out.2 (Ht.out.1 rfl), HPe.out], H1.out.below⟩)
     go_wp2
     go_ret
     exact Hfin.out
theorem rreq_6 (q : ReqD) (w : World) (hq : q.kind = 6) (hok : ROk q) : Calls Tryz.prog 123 #[reqA q] w (ErrPost (reqE q) w) := by
 obtain ⟨W0, hW0⟩ : ∃ W0, w.alloc (.cells (reqC q) 44) = W0 := ⟨_, rfl⟩
 have hb : Blk W0 w.heap.size 44 (reqC q) := by rw [← hW0]; exact heap_alloc_new w _
 have hbW : Below w.heap.size w W0 := by rw [← hW0]; exact (Below.refl _ _).alloc (Nat.le_refl _) _
 have Hsz := hid (show W0.heap.size = w.heap.size + 1 from by rw [← hW0]; simp)
 have Hk := hid (show W0.cell? ⟨w.heap.size, 12, none⟩ = some (.string q.name) from hb.cell 12)
 have HO := hid (outside_any q.kind 1 9 W0)
 rw [show ranged q.kind 1 9 = true from by rw [hq]; rfl] at HO
 have d1 : (q.kind == 1) = false := by rw [hq]; rfl
 have d2 : (q.kind == 2) = false := by rw [hq]; rfl
 have d3 : (q.kind == 3) = false := by rw [hq]; rfl
 have d4 : (q.kind == 4) = false := by rw [hq]; rfl
 have d5 : (q.kind == 5) = false := by rw [hq]; rfl
 have d6 : (q.kind == 6) = true := by rw [hq]; rfl
 have how : ownQ q = ⟨q.kind, noJob, noNode, noLease, q.name, 0⟩ := by unfold ownQ; simp [hq]
 have hpe0 : partE q = if nameOk q.name = true then 0 else 4 := by unfold partE; simp [hq]
 obtain ⟨E, hE⟩ : ∃ E : Int, (if nameOk q.name = true then 0 else 4) = E := ⟨_, rfl⟩
 have HPe := hid (hpe0.trans hE)
 have HRe := hid (show ((⟨q.kind, noJob, noNode, noLease, q.name, 0⟩ : ReqD) ≠ q → reqE q = 4) ∧ ((⟨q.kind, noJob, noNode, noLease, q.name, 0⟩ : ReqD) = q → reqE q = partE q) from by
  unfold reqE
  rw [how, if_neg (by rw [show ranged q.kind 1 9 = true from by rw [hq]; rfl]; decide)]
  exact ⟨fun h => if_pos h, fun h => if_neg (fun h' => h' h)⟩)
 obtain ⟨t, ht, hrun0⟩ := neqv_req ⟨q.kind, noJob, noNode, noLease, q.name, 0⟩ q
 have Hrun := hid (show ∀ W, (binOp .neq 44 (.agg #[.int .i64 q.kind, .string ⟨#[]⟩, .int .i64 0, .int .i64 0, .int .i64 0, .string ⟨#[]⟩, .string ⟨#[]⟩, .int .i64 0, .string ⟨#[]⟩, .string ⟨#[]⟩, .string ⟨#[]⟩, .int .i64 0, .string q.name, .int .i64 0]) (.agg (reqL q))).run Tryz.prog W = .ok (.bool (!t)) W from hrun0)
 have Ht := hid ht
 have HE := hid hE
 have Hq := hid hb
 have HbW := hid hbW
 have HW0 := hid hW0
 have hlt := hb.lt
 have c0 : W0.cell? ⟨w.heap.size, 0, none⟩ = some (.int .i64 q.kind) := hb.cell 0
 clear hrun0 ht how hpe0 hE hb hbW hW0 hq
 unfold reqA
 unfold reqC at HW0 ⊢
 go_enter Tryz.func123, Tryz.ntmps123
 go_wp2_with fail
 try simp only [HW0.out]
 refine Calls.mono HO.out ?_
 rintro e w' ⟨rfl, rfl⟩
 clear HO HW0
 obtain ⟨W, hW⟩ : ∃ W, W0.alloc (.cells (reqC (⟨q.kind, noJob, noNode, noLease, q.name, 0⟩ : ReqD)) 44) = W := ⟨_, rfl⟩
 obtain ⟨S, hS⟩ : ∃ S, W0.heap.size = S := ⟨_, rfl⟩
 have H0 := hid (show RqAt w S q (⟨q.kind, noJob, noNode, noLease, q.name, 0⟩ : ReqD) W from by
  rw [← hW, ← hS]
  exact ⟨Blk.alloc Hq.out _, heap_alloc_new W0 _, HbW.out.alloc HbW.out.size _, by have := Hsz.out; omega⟩)
 have HW := hid (show W0.alloc (.cells #[.int .i64 q.kind, .string ⟨#[]⟩, .int .i64 0, .int .i64 0, .int .i64 0, .string ⟨#[]⟩, .string ⟨#[]⟩, .int .i64 0, .string ⟨#[]⟩, .string ⟨#[]⟩, .string ⟨#[]⟩, .int .i64 0, .string q.name, .int .i64 0] 44) = W from hW)
 have HSz := hid hS
 clear hW Hq HbW hS
 have k12 : W0.cell? ⟨w.heap.size, 12, none⟩ = some (.string q.name) := Hk.out
 have HN := hid (rIsName_any q.name W hok.s)
 obtain ⟨ok, hok'⟩ : ∃ ok, nameOk q.name = ok := ⟨_, rfl⟩
 rw [hok'] at HN HE
 have HE := hid HE.out
 have H1 := H0
 clear H0 hok'
 go_wp2_with fail
 simp only [HW.out, HSz.out]
 clear HW
 refine Calls.mono HN.out ?_
 rintro e w5 ⟨rfl, rfl⟩
 clear HN c0 k12
 cases ok
 · have hE : (4 : Int) = E := HE.out
   clear HE
   subst hE
   obtain ⟨c0, c1, c2, c3, c4, c5, c6, c7, c8, c9, c10, c11, c12, c13⟩ := Blk.c14 (H1.out.qb)
   obtain ⟨o0, o1, o2, o3, o4, o5, o6, o7, o8, o9, o10, o11, o12, o13⟩ := Blk.c14 (show Blk W (S) _ #[.int .i64 q.kind, .string ⟨#[]⟩, .int .i64 0, .int .i64 0, .int .i64 0, .string ⟨#[]⟩, .string ⟨#[]⟩, .int .i64 0, .string ⟨#[]⟩, .string ⟨#[]⟩, .string ⟨#[]⟩, .int .i64 0, .string q.name, .int .i64 0] from H1.out.ob)
   have hlS := H1.out.ob.lt
   have hlq := H1.out.qb.lt
   have hrun := Hrun.out
   cases t
   · have Hfin := hid (show ErrPost (reqE q) w (.returned (.int .i64 4)) W from ⟨by rw [HRe.out.1 (fun h => by have := Ht.out.2 h; cases this)], H1.out.below⟩)
     go_wp2
     go_ret
     exact Hfin.out
   · have Hfin := hid (show ErrPost (reqE q) w (.returned (.int .i64 4)) W from ⟨by rw [HRe.out.2 (Ht.out.1 rfl), HPe.out], H1.out.below⟩)
     go_wp2
     go_ret
     exact Hfin.out
 · have hE : (0 : Int) = E := HE.out
   clear HE
   subst hE
   obtain ⟨c0, c1, c2, c3, c4, c5, c6, c7, c8, c9, c10, c11, c12, c13⟩ := Blk.c14 (H1.out.qb)
   obtain ⟨o0, o1, o2, o3, o4, o5, o6, o7, o8, o9, o10, o11, o12, o13⟩ := Blk.c14 (show Blk W (S) _ #[.int .i64 q.kind, .string ⟨#[]⟩, .int .i64 0, .int .i64 0, .int .i64 0, .string ⟨#[]⟩, .string ⟨#[]⟩, .int .i64 0, .string ⟨#[]⟩, .string ⟨#[]⟩, .string ⟨#[]⟩, .int .i64 0, .string q.name, .int .i64 0] from H1.out.ob)
   have hlS := H1.out.ob.lt
   have hlq := H1.out.qb.lt
   have hrun := Hrun.out
   cases t
   · have Hfin := hid (show ErrPost (reqE q) w (.returned (.int .i64 4)) W from ⟨by rw [HRe.out.1 (fun h => by have := Ht.out.2 h; cases this)], H1.out.below⟩)
     go_wp2
     go_ret
     exact Hfin.out
   · have Hfin := hid (show ErrPost (reqE q) w (.returned (.int .i64 0)) W from ⟨by rw [HRe.out.2 (Ht.out.1 rfl), HPe.out], H1.out.below⟩)
     go_wp2
     go_ret
     exact Hfin.out
theorem rreq_7 (q : ReqD) (w : World) (hq : q.kind = 7) (hok : ROk q) : Calls Tryz.prog 123 #[reqA q] w (ErrPost (reqE q) w) := by
 obtain ⟨W0, hW0⟩ : ∃ W0, w.alloc (.cells (reqC q) 44) = W0 := ⟨_, rfl⟩
 have hb : Blk W0 w.heap.size 44 (reqC q) := by rw [← hW0]; exact heap_alloc_new w _
 have hbW : Below w.heap.size w W0 := by rw [← hW0]; exact (Below.refl _ _).alloc (Nat.le_refl _) _
 have Hsz := hid (show W0.heap.size = w.heap.size + 1 from by rw [← hW0]; simp)
 have Hk := hid (show W0.cell? ⟨w.heap.size, 13, none⟩ = some (.int .i64 q.n) from hb.cell 13)
 have HO := hid (outside_any q.kind 1 9 W0)
 rw [show ranged q.kind 1 9 = true from by rw [hq]; rfl] at HO
 have d1 : (q.kind == 1) = false := by rw [hq]; rfl
 have d2 : (q.kind == 2) = false := by rw [hq]; rfl
 have d3 : (q.kind == 3) = false := by rw [hq]; rfl
 have d4 : (q.kind == 4) = false := by rw [hq]; rfl
 have d5 : (q.kind == 5) = false := by rw [hq]; rfl
 have d6 : (q.kind == 6) = false := by rw [hq]; rfl
 have d7 : (q.kind == 7) = true := by rw [hq]; rfl
 have how : ownQ q = ⟨q.kind, noJob, noNode, noLease, ⟨#[]⟩, q.n⟩ := by unfold ownQ; simp [hq]
 have hpe0 : partE q = if ranged q.n 0 1099511627776 = true then 0 else 1 := by unfold partE; simp [hq]
 obtain ⟨E, hE⟩ : ∃ E : Int, (if ranged q.n 0 1099511627776 = true then 0 else 1) = E := ⟨_, rfl⟩
 have HPe := hid (hpe0.trans hE)
 have HRe := hid (show ((⟨q.kind, noJob, noNode, noLease, ⟨#[]⟩, q.n⟩ : ReqD) ≠ q → reqE q = 4) ∧ ((⟨q.kind, noJob, noNode, noLease, ⟨#[]⟩, q.n⟩ : ReqD) = q → reqE q = partE q) from by
  unfold reqE
  rw [how, if_neg (by rw [show ranged q.kind 1 9 = true from by rw [hq]; rfl]; decide)]
  exact ⟨fun h => if_pos h, fun h => if_neg (fun h' => h' h)⟩)
 obtain ⟨t, ht, hrun0⟩ := neqv_req ⟨q.kind, noJob, noNode, noLease, ⟨#[]⟩, q.n⟩ q
 have Hrun := hid (show ∀ W, (binOp .neq 44 (.agg #[.int .i64 q.kind, .string ⟨#[]⟩, .int .i64 0, .int .i64 0, .int .i64 0, .string ⟨#[]⟩, .string ⟨#[]⟩, .int .i64 0, .string ⟨#[]⟩, .string ⟨#[]⟩, .string ⟨#[]⟩, .int .i64 0, .string ⟨#[]⟩, .int .i64 q.n]) (.agg (reqL q))).run Tryz.prog W = .ok (.bool (!t)) W from hrun0)
 have Ht := hid ht
 have HE := hid hE
 have Hq := hid hb
 have HbW := hid hbW
 have HW0 := hid hW0
 have hlt := hb.lt
 have c0 : W0.cell? ⟨w.heap.size, 0, none⟩ = some (.int .i64 q.kind) := hb.cell 0
 clear hrun0 ht how hpe0 hE hb hbW hW0 hq
 unfold reqA
 unfold reqC at HW0 ⊢
 go_enter Tryz.func123, Tryz.ntmps123
 go_wp2_with fail
 try simp only [HW0.out]
 refine Calls.mono HO.out ?_
 rintro e w' ⟨rfl, rfl⟩
 clear HO HW0
 obtain ⟨W, hW⟩ : ∃ W, W0.alloc (.cells (reqC (⟨q.kind, noJob, noNode, noLease, ⟨#[]⟩, q.n⟩ : ReqD)) 44) = W := ⟨_, rfl⟩
 obtain ⟨S, hS⟩ : ∃ S, W0.heap.size = S := ⟨_, rfl⟩
 have H0 := hid (show RqAt w S q (⟨q.kind, noJob, noNode, noLease, ⟨#[]⟩, q.n⟩ : ReqD) W from by
  rw [← hW, ← hS]
  exact ⟨Blk.alloc Hq.out _, heap_alloc_new W0 _, HbW.out.alloc HbW.out.size _, by have := Hsz.out; omega⟩)
 have HW := hid (show W0.alloc (.cells #[.int .i64 q.kind, .string ⟨#[]⟩, .int .i64 0, .int .i64 0, .int .i64 0, .string ⟨#[]⟩, .string ⟨#[]⟩, .int .i64 0, .string ⟨#[]⟩, .string ⟨#[]⟩, .string ⟨#[]⟩, .int .i64 0, .string ⟨#[]⟩, .int .i64 q.n] 44) = W from hW)
 have HSz := hid hS
 clear hW Hq HbW hS
 have k13 : W0.cell? ⟨w.heap.size, 13, none⟩ = some (.int .i64 q.n) := Hk.out
 have HN := hid (outside_any q.n 0 1099511627776 W)
 obtain ⟨ok, hok'⟩ : ∃ ok, ranged q.n 0 1099511627776 = ok := ⟨_, rfl⟩
 rw [hok'] at HN HE
 have HE := hid HE.out
 have H1 := H0
 clear H0 hok'
 go_wp2_with fail
 simp only [HW.out, HSz.out]
 clear HW
 refine Calls.mono HN.out ?_
 rintro e w5 ⟨rfl, rfl⟩
 clear HN c0 k13
 cases ok
 · have hE : (1 : Int) = E := HE.out
   clear HE
   subst hE
   obtain ⟨c0, c1, c2, c3, c4, c5, c6, c7, c8, c9, c10, c11, c12, c13⟩ := Blk.c14 (H1.out.qb)
   obtain ⟨o0, o1, o2, o3, o4, o5, o6, o7, o8, o9, o10, o11, o12, o13⟩ := Blk.c14 (show Blk W (S) _ #[.int .i64 q.kind, .string ⟨#[]⟩, .int .i64 0, .int .i64 0, .int .i64 0, .string ⟨#[]⟩, .string ⟨#[]⟩, .int .i64 0, .string ⟨#[]⟩, .string ⟨#[]⟩, .string ⟨#[]⟩, .int .i64 0, .string ⟨#[]⟩, .int .i64 q.n] from H1.out.ob)
   have hlS := H1.out.ob.lt
   have hlq := H1.out.qb.lt
   have hrun := Hrun.out
   cases t
   · have Hfin := hid (show ErrPost (reqE q) w (.returned (.int .i64 4)) W from ⟨by rw [HRe.out.1 (fun h => by have := Ht.out.2 h; cases this)], H1.out.below⟩)
     go_wp2
     go_ret
     exact Hfin.out
   · have Hfin := hid (show ErrPost (reqE q) w (.returned (.int .i64 1)) W from ⟨by rw [HRe.out.2 (Ht.out.1 rfl), HPe.out], H1.out.below⟩)
     go_wp2
     go_ret
     exact Hfin.out
 · have hE : (0 : Int) = E := HE.out
   clear HE
   subst hE
   obtain ⟨c0, c1, c2, c3, c4, c5, c6, c7, c8, c9, c10, c11, c12, c13⟩ := Blk.c14 (H1.out.qb)
   obtain ⟨o0, o1, o2, o3, o4, o5, o6, o7, o8, o9, o10, o11, o12, o13⟩ := Blk.c14 (show Blk W (S) _ #[.int .i64 q.kind, .string ⟨#[]⟩, .int .i64 0, .int .i64 0, .int .i64 0, .string ⟨#[]⟩, .string ⟨#[]⟩, .int .i64 0, .string ⟨#[]⟩, .string ⟨#[]⟩, .string ⟨#[]⟩, .int .i64 0, .string ⟨#[]⟩, .int .i64 q.n] from H1.out.ob)
   have hlS := H1.out.ob.lt
   have hlq := H1.out.qb.lt
   have hrun := Hrun.out
   cases t
   · have Hfin := hid (show ErrPost (reqE q) w (.returned (.int .i64 4)) W from ⟨by rw [HRe.out.1 (fun h => by have := Ht.out.2 h; cases this)], H1.out.below⟩)
     go_wp2
     go_ret
     exact Hfin.out
   · have Hfin := hid (show ErrPost (reqE q) w (.returned (.int .i64 0)) W from ⟨by rw [HRe.out.2 (Ht.out.1 rfl), HPe.out], H1.out.below⟩)
     go_wp2
     go_ret
     exact Hfin.out
theorem rreq_8 (q : ReqD) (w : World) (h8 : 8 ≤ q.kind ∧ q.kind ≤ 9) (hok : ROk q) : Calls Tryz.prog 123 #[reqA q] w (ErrPost (reqE q) w) := by
 obtain ⟨W0, hW0⟩ : ∃ W0, w.alloc (.cells (reqC q) 44) = W0 := ⟨_, rfl⟩
 have hb : Blk W0 w.heap.size 44 (reqC q) := by rw [← hW0]; exact heap_alloc_new w _
 have hbW : Below w.heap.size w W0 := by rw [← hW0]; exact (Below.refl _ _).alloc (Nat.le_refl _) _
 have Hsz := hid (show W0.heap.size = w.heap.size + 1 from by rw [← hW0]; simp)
 have k1 : W0.cell? ⟨w.heap.size, 1, none⟩ = some (.string q.job.name) := hb.cell 1
 have k2 : W0.cell? ⟨w.heap.size, 2, none⟩ = some (.int .i64 q.job.prio) := hb.cell 2
 have k3 : W0.cell? ⟨w.heap.size, 3, none⟩ = some (.int .i64 q.job.need) := hb.cell 3
 have k4 : W0.cell? ⟨w.heap.size, 4, none⟩ = some (.int .i64 q.job.tries) := hb.cell 4
 have k5 : W0.cell? ⟨w.heap.size, 5, none⟩ = some (.string q.job.tag) := hb.cell 5
 have k6 : W0.cell? ⟨w.heap.size, 6, none⟩ = some (.string q.node.name) := hb.cell 6
 have k7 : W0.cell? ⟨w.heap.size, 7, none⟩ = some (.int .i64 q.node.room) := hb.cell 7
 have k8 : W0.cell? ⟨w.heap.size, 8, none⟩ = some (.string q.node.zone) := hb.cell 8
 have k9 : W0.cell? ⟨w.heap.size, 9, none⟩ = some (.string q.lease.job) := hb.cell 9
 have k10 : W0.cell? ⟨w.heap.size, 10, none⟩ = some (.string q.lease.node) := hb.cell 10
 have k11 : W0.cell? ⟨w.heap.size, 11, none⟩ = some (.int .i64 q.lease.till) := hb.cell 11
 have k12 : W0.cell? ⟨w.heap.size, 12, none⟩ = some (.string q.name) := hb.cell 12
 have k13 : W0.cell? ⟨w.heap.size, 13, none⟩ = some (.int .i64 q.n) := hb.cell 13
 have HO := hid (outside_any q.kind 1 9 W0)
 rw [show ranged q.kind 1 9 = true from ranged_iff.2 ⟨by omega, h8.2⟩] at HO
 have d1 : (q.kind == 1) = false := beq_false_of_ne (by omega)
 have d2 : (q.kind == 2) = false := beq_false_of_ne (by omega)
 have d3 : (q.kind == 3) = false := beq_false_of_ne (by omega)
 have d4 : (q.kind == 4) = false := beq_false_of_ne (by omega)
 have d5 : (q.kind == 5) = false := beq_false_of_ne (by omega)
 have d6 : (q.kind == 6) = false := beq_false_of_ne (by omega)
 have d7 : (q.kind == 7) = false := beq_false_of_ne (by omega)
 have how : ownQ q = ⟨q.kind, noJob, noNode, noLease, ⟨#[]⟩, 0⟩ := by unfold ownQ; simp [show q.kind ≠ 1 from by omega, show q.kind ≠ 2 from by omega, show q.kind ≠ 3 from by omega, show q.kind ≠ 4 from by omega, show q.kind ≠ 5 from by omega, show q.kind ≠ 6 from by omega, show q.kind ≠ 7 from by omega]
 have hpe0 : partE q = (0 : Int) := by unfold partE; simp [show q.kind ≠ 1 from by omega, show q.kind ≠ 2 from by omega, show q.kind ≠ 3 from by omega, show q.kind ≠ 4 from by omega, show q.kind ≠ 5 from by omega, show q.kind ≠ 6 from by omega, show q.kind ≠ 7 from by omega]
 obtain ⟨E, hE⟩ : ∃ E : Int, ((0 : Int)) = E := ⟨_, rfl⟩
 have HPe := hid (hpe0.trans hE)
 have HRe := hid (show ((⟨q.kind, noJob, noNode, noLease, ⟨#[]⟩, 0⟩ : ReqD) ≠ q → reqE q = 4) ∧ ((⟨q.kind, noJob, noNode, noLease, ⟨#[]⟩, 0⟩ : ReqD) = q → reqE q = partE q) from by
  unfold reqE
  rw [how, if_neg (by rw [show ranged q.kind 1 9 = true from ranged_iff.2 ⟨by omega, h8.2⟩]; decide)]
  exact ⟨fun h => if_pos h, fun h => if_neg (fun h' => h' h)⟩)
 obtain ⟨t, ht, hrun0⟩ := neqv_req ⟨q.kind, noJob, noNode, noLease, ⟨#[]⟩, 0⟩ q
 have Hrun := hid (show ∀ W, (binOp .neq 44 (.agg #[.int .i64 q.kind, .string ⟨#[]⟩, .int .i64 0, .int .i64 0, .int .i64 0, .string ⟨#[]⟩, .string ⟨#[]⟩, .int .i64 0, .string ⟨#[]⟩, .string ⟨#[]⟩, .string ⟨#[]⟩, .int .i64 0, .string ⟨#[]⟩, .int .i64 0]) (.agg (reqL q))).run Tryz.prog W = .ok (.bool (!t)) W from hrun0)
 have Ht := hid ht
 have HE := hid hE
 have Hq := hid hb
 have HbW := hid hbW
 have HW0 := hid hW0
 have hlt := hb.lt
 have c0 : W0.cell? ⟨w.heap.size, 0, none⟩ = some (.int .i64 q.kind) := hb.cell 0
 clear hrun0 ht how hpe0 hE hb hbW hW0 h8
 unfold reqA
 unfold reqC at HW0 ⊢
 go_enter Tryz.func123, Tryz.ntmps123
 go_wp2_with fail
 try simp only [HW0.out]
 refine Calls.mono HO.out ?_
 rintro e w' ⟨rfl, rfl⟩
 clear HO HW0
 obtain ⟨W, hW⟩ : ∃ W, W0.alloc (.cells (reqC (kindQ q.kind)) 44) = W := ⟨_, rfl⟩
 obtain ⟨S, hS⟩ : ∃ S, W0.heap.size = S := ⟨_, rfl⟩
 have H0 := hid (show RqAt w S q (kindQ q.kind) W from by
  rw [← hW, ← hS]
  exact ⟨Blk.alloc Hq.out _, heap_alloc_new W0 _, HbW.out.alloc HbW.out.size _, by have := Hsz.out; omega⟩)
 have HW := hid (show W0.alloc (.cells #[.int .i64 q.kind, .string ⟨#[]⟩, .int .i64 0, .int .i64 0, .int .i64 0, .string ⟨#[]⟩, .string ⟨#[]⟩, .int .i64 0, .string ⟨#[]⟩, .string ⟨#[]⟩, .string ⟨#[]⟩, .int .i64 0, .string ⟨#[]⟩, .int .i64 0] 44) = W from hW)
 have HSz := hid hS
 clear hW Hq HbW hS
 have H1 := H0
 have hE : (0 : Int) = E := HE.out
 clear HE H0
 subst hE
 have hrun := Hrun.out
 clear Hrun
 cases t
 · have Hfin := hid (show ErrPost (reqE q) w (.returned (.int .i64 4)) W from ⟨by rw [HRe.out.1 (fun h => by have := Ht.out.2 h; cases this)], H1.out.below⟩)
   go_wp2
   simp only [HW.out]
   go_ret
   exact Hfin.out
 · have Hfin := hid (show ErrPost (reqE q) w (.returned (.int .i64 0)) W from ⟨by rw [HRe.out.2 (Ht.out.1 rfl), HPe.out], H1.out.below⟩)
   go_wp2
   simp only [HW.out]
   go_ret
   exact Hfin.out
theorem rreq_0 (q : ReqD) (w : World) (hq : ranged q.kind 1 9 = false) : Calls Tryz.prog 123 #[reqA q] w (ErrPost (reqE q) w) := by
 obtain ⟨W0, hW0⟩ : ∃ W0, w.alloc (.cells (reqC q) 44) = W0 := ⟨_, rfl⟩
 have hb : Blk W0 w.heap.size 44 (reqC q) := by rw [← hW0]; exact heap_alloc_new w _
 have HbW := hid (show Below w.heap.size w W0 from by rw [← hW0]; exact (Below.refl _ _).alloc (Nat.le_refl _) _)
 have HO := hid (outside_any q.kind 1 9 W0)
 rw [hq] at HO
 have hre : reqE q = 1 := by unfold reqE; rw [if_pos hq]
 rw [hre]
 have hlt := hb.lt
 have c0 : W0.cell? ⟨w.heap.size, 0, none⟩ = some (.int .i64 q.kind) := hb.cell 0
 have HW0 := hid hW0
 clear hb hW0 hre hq
 unfold reqA
 unfold reqC at HW0 ⊢
 go_enter Tryz.func123, Tryz.ntmps123
 go_wp2_with fail
 try simp only [HW0.out]
 refine Calls.mono HO.out ?_
 rintro e w' ⟨rfl, rfl⟩
 clear HO HW0
 have Hfin := hid (show ErrPost 1 w (.returned (.int .i64 1)) W0 from ⟨rfl, HbW.out⟩)
 go_wp2
 go_ret
 exact Hfin.out
theorem rreq_any (q : ReqD) (w : World) (hok : ROk q) : Calls Tryz.prog 123 #[reqA q] w (ErrPost (reqE q) w) := by
 cases hr : ranged q.kind 1 9 with
 | false => exact rreq_0 q w hr
 | true =>
  obtain ⟨h1, h2⟩ := ranged_iff.1 hr
  have : q.kind = 1 ∨ q.kind = 2 ∨ q.kind = 3 ∨ q.kind = 4 ∨ q.kind = 5 ∨ q.kind = 6 ∨ q.kind = 7 ∨ 8 ≤ q.kind := by omega
  rcases this with h | h | h | h | h | h | h | h
  · exact rreq_1 q w h hok
  · exact rreq_2 q w h hok
  · exact rreq_3 q w h hok
  · exact rreq_4 q w h hok
  · exact rreq_5 q w h hok
  · exact rreq_6 q w h hok
  · exact rreq_7 q w h hok
  · exact rreq_8 q w ⟨h, h2⟩ hok
end Go.Proofs.YtjgnnobccecpeaaGreatDoor
