/- Of the proof of a statement: RcF, RcG. -/
import Derived.Test.YtoeejfhdjmkpcaaGreatDoorTRcE
set_option linter.unusedVariables false
set_option linter.unusedSimpArgs false
set_option maxRecDepth 100000
set_option maxHeartbeats 8000000
/- req.Check at the kinds without a part, and at no kind; req.Check at any request. -/
namespace Go.Proofs.YtoeejfhdjmkpcaaGreatDoor
open Go.Lib (hid)
open List (foldl_cons foldl_nil setIfInBounds_toArray set_cons_succ set_cons_zero)
open Go.RowKit
theorem IG (q:aH) (w:World) (hq:q.kind=8):Calls Tryz.prog 133 #[bP q] w fun e w'=>e = .returned (.iface 338 (.agg #[]))∧Below w.heap.size w w':=by
 obtain⟨W,hW⟩:∃ W,w.alloc (.cells (aB q) 40)=W:=⟨_,rfl⟩
 have hb:Blk W w.heap.size 40 (aB q):=by rw [← hW]; exact heap_alloc_new w _
 have hbW:Below w.heap.size w W:=by rw [← hW]; exact (Below.refl _ _).alloc (Nat.le_refl _) _
 have h0:W.cell? ⟨w.heap.size,0,none⟩=some (.int .i64 8):=by rw [hb.cell 0,← hq]; rfl
 have HbW:=hid hbW
 unfold bP
 unfold aB at hW ⊢
 clear hq hb hbW
 go_enter Tryz.func133,Tryz.ntmps133
 go_wp2
 try rw [hW]
 clear hW
 go_ret
 exact⟨rfl,HbW.out⟩
theorem IH (q:aH) (w:World) (hq:q.kind=9):Calls Tryz.prog 133 #[bP q] w fun e w'=>e = .returned (.iface 338 (.agg #[]))∧Below w.heap.size w w':=by
 obtain⟨W,hW⟩:∃ W,w.alloc (.cells (aB q) 40)=W:=⟨_,rfl⟩
 have hb:Blk W w.heap.size 40 (aB q):=by rw [← hW]; exact heap_alloc_new w _
 have hbW:Below w.heap.size w W:=by rw [← hW]; exact (Below.refl _ _).alloc (Nat.le_refl _) _
 have h0:W.cell? ⟨w.heap.size,0,none⟩=some (.int .i64 9):=by rw [hb.cell 0,← hq]; rfl
 have HbW:=hid hbW
 unfold bP
 unfold aB at hW ⊢
 clear hq hb hbW
 go_enter Tryz.func133,Tryz.ntmps133
 go_wp2
 try rw [hW]
 clear hW
 go_ret
 exact⟨rfl,HbW.out⟩
theorem II (q:aH) (w:World) (hq:ranged q.kind 1 9=false):Calls Tryz.prog 133 #[bP q] w fun e w'=>e = .returned .nilIface∧Below w.heap.size w w':=by
 obtain⟨W,hW⟩:∃ W,w.alloc (.cells (aB q) 40)=W:=⟨_,rfl⟩
 have hb:Blk W w.heap.size 40 (aB q):=by rw [← hW]; exact heap_alloc_new w _
 have hbW:Below w.heap.size w W:=by rw [← hW]; exact (Below.refl _ _).alloc (Nat.le_refl _) _
 have h0:W.cell? ⟨w.heap.size,0,none⟩=some (.int .i64 q.kind):=hb.cell 0
 have hk:=gK.1 hq
 have d1:(q.kind == 1)=false:=beq_false_of_ne (by omega)
 have d2:(q.kind == 2)=false:=beq_false_of_ne (by omega)
 have d3:(q.kind == 3)=false:=beq_false_of_ne (by omega)
 have d4:(q.kind == 4)=false:=beq_false_of_ne (by omega)
 have d5:(q.kind == 5)=false:=beq_false_of_ne (by omega)
 have d6:(q.kind == 6)=false:=beq_false_of_ne (by omega)
 have d7:(q.kind == 7)=false:=beq_false_of_ne (by omega)
 have d8:(q.kind == 8)=false:=beq_false_of_ne (by omega)
 have d9:(q.kind == 9)=false:=beq_false_of_ne (by omega)
 have HbW:=hid hbW
 unfold bP
 unfold aB at hW ⊢
 clear hq hb hbW hk
 go_enter Tryz.func133,Tryz.ntmps133
 go_wp2
 try rw [hW]
 clear hW
 go_ret
 exact⟨rfl,HbW.out⟩
theorem CT (p:Value) (w:World):Calls Tryz.prog 487 #[.agg #[],p] w fun e w'=>e = .returned (.tuple #[])∧Below w.heap.size w w':=by
 go_enter Tryz.func487,Tryz.ntmps487
 go_wp2
 go_end0
 exact⟨rfl,(Below.refl _ _).alloc (Nat.le_refl _) _⟩
theorem sA (w:World):Calls Tryz.prog 486 #[.agg #[]] w (bG 0 w):=by
 go_enter Tryz.func486,Tryz.ntmps486
 go_wp2
 go_ret
 exact⟨rfl,(Below.refl _ _).alloc (Nat.le_refl _) _⟩
end Go.Proofs.YtoeejfhdjmkpcaaGreatDoor
/- req.Check at the kinds without a part, and at no kind; req.Check at any request. -/
namespace Go.Proofs.YtoeejfhdjmkpcaaGreatDoor
open Go.Lib (hid)
open List (foldl_cons foldl_nil setIfInBounds_toArray set_cons_succ set_cons_zero)
open Go.RowKit
theorem uS (q:aH) (w:World):Calls Tryz.prog 134 #[.int .i64 q.kind,.iface 338 (.agg #[])] w fun e w'=>e = .returned (bP (bq q.kind))∧Below w.heap.size w w':=by
 obtain⟨W,hW⟩:∃ W,(w.alloc (.cells (aB (bq 0)) 40)).alloc (.cells (aB (bq q.kind)) 40)=W:=⟨_,rfl⟩
 have hbW:Below w.heap.size w W:=by rw [← hW]; exact ((Below.refl _ _).alloc (Nat.le_refl _) _).alloc (by simp) _
 have hr:Blk W w.heap.size 40 (aB (bq 0)):=by rw [← hW]; exact Blk.alloc (show Blk _ _ _ _ from heap_alloc_new w _) _
 have hs:Blk W (w.heap.size+1) 40 (aB (bq q.kind)):=by
  rw [← hW]
  have:=heap_alloc_new (w.alloc (.cells (aB (bq 0)) 40)) (.cells (aB (bq q.kind)) 40)
  rwa [show (w.alloc (.cells (aB (bq 0)) 40)).heap.size=w.heap.size+1 by simp] at this
 have HI:=hid (CT (.pointer (some ⟨w.heap.size+1,0,none⟩)) W)
 have HbW:=hid hbW
 have Hr:=hid hr
 have Hs:=hid hs
 have hm : ∀ w, (method 606 338 (.agg #[]) "bracken/req.into").run Tryz.prog w = .ok (487, .agg #[]) w := fun _ => by kernel_rfl
 clear hbW hr hs
 unfold bq aB bZ aU aI at hW
 have HW:=hid hW
 clear hW
 go_enter Tryz.func134,Tryz.ntmps134
 go_wp2_with fail
 rw [HW.out]
 clear HW
 refine Calls.mono HI.out ?_
 rintro e w1 ⟨rfl,hb1⟩
 have hr1:Blk w1 w.heap.size 40 (aB (bq 0)):=Hr.out.below hb1 Hr.out.lt
 have hs1:Blk w1 (w.heap.size+1) 40 (aB (bq q.kind)):=Hs.out.below hb1 Hs.out.lt
 have aV:=hid ((HbW.out.trans (hb1.mono HbW.out.size)))
 obtain⟨s0,s1,s2,s3,s4,s5,s6,s7,s8,s9,s10,s11,s12,s13⟩:=Blk.c14 (show Blk w1 (w.heap.size+1) _ #[.int .i64 q.kind,.string ⟨#[]⟩,.int .i64 0,.int .i64 0,.int .i64 0,.string ⟨#[]⟩,.string ⟨#[]⟩,.int .i64 0,.string ⟨#[]⟩,.string ⟨#[]⟩,.string ⟨#[]⟩,.int .i64 0,.string ⟨#[]⟩,.int .i64 0] from hs1)
 obtain⟨r0,r1,r2,r3,r4,r5,r6,r7,r8,r9,r10,r11,r12,r13⟩:=Blk.c14 (show Blk w1 (w.heap.size) _ #[.int .i64 0,.string ⟨#[]⟩,.int .i64 0,.int .i64 0,.int .i64 0,.string ⟨#[]⟩,.string ⟨#[]⟩,.int .i64 0,.string ⟨#[]⟩,.string ⟨#[]⟩,.string ⟨#[]⟩,.int .i64 0,.string ⟨#[]⟩,.int .i64 0] from hr1)
 obtain⟨z0,z1,z2,z3,z4,z5,z6,z7,z8,z9,z10,z11,z12,z13⟩:=Blk.z14 (hr1)
 have hl1:=hs1.lt
 have hl2:=hr1.lt
 have Hr1:=hid hr1
 clear hs1 hb1 hr1 HI
 go_wp2
 have hf:Blk (World.setCell (World.setCell (World.setCell (World.setCell (World.setCell (World.setCell (World.setCell (World.setCell (World.setCell (World.setCell (World.setCell (World.setCell (World.setCell (World.setCell w1 ⟨w.heap.size,0,none⟩ (.int .i64 q.kind)) ⟨w.heap.size,1,none⟩ (.string ⟨#[]⟩)) ⟨w.heap.size,2,none⟩ (.int .i64 0)) ⟨w.heap.size,3,none⟩ (.int .i64 0)) ⟨w.heap.size,4,none⟩ (.int .i64 0)) ⟨w.heap.size,5,none⟩ (.string ⟨#[]⟩)) ⟨w.heap.size,6,none⟩ (.string ⟨#[]⟩)) ⟨w.heap.size,7,none⟩ (.int .i64 0)) ⟨w.heap.size,8,none⟩ (.string ⟨#[]⟩)) ⟨w.heap.size,9,none⟩ (.string ⟨#[]⟩)) ⟨w.heap.size,10,none⟩ (.string ⟨#[]⟩)) ⟨w.heap.size,11,none⟩ (.int .i64 0)) ⟨w.heap.size,12,none⟩ (.string ⟨#[]⟩)) ⟨w.heap.size,13,none⟩ (.int .i64 0)) w.heap.size 40 (aB (bq q.kind)):=jm (bq q.kind) Hr1.out
 have hB:Below w.heap.size w (World.setCell (World.setCell (World.setCell (World.setCell (World.setCell (World.setCell (World.setCell (World.setCell (World.setCell (World.setCell (World.setCell (World.setCell (World.setCell (World.setCell w1 ⟨w.heap.size,0,none⟩ (.int .i64 q.kind)) ⟨w.heap.size,1,none⟩ (.string ⟨#[]⟩)) ⟨w.heap.size,2,none⟩ (.int .i64 0)) ⟨w.heap.size,3,none⟩ (.int .i64 0)) ⟨w.heap.size,4,none⟩ (.int .i64 0)) ⟨w.heap.size,5,none⟩ (.string ⟨#[]⟩)) ⟨w.heap.size,6,none⟩ (.string ⟨#[]⟩)) ⟨w.heap.size,7,none⟩ (.int .i64 0)) ⟨w.heap.size,8,none⟩ (.string ⟨#[]⟩)) ⟨w.heap.size,9,none⟩ (.string ⟨#[]⟩)) ⟨w.heap.size,10,none⟩ (.string ⟨#[]⟩)) ⟨w.heap.size,11,none⟩ (.int .i64 0)) ⟨w.heap.size,12,none⟩ (.string ⟨#[]⟩)) ⟨w.heap.size,13,none⟩ (.int .i64 0)):=aV.out.trans (gT w1 w.heap.size (bq q.kind))
 generalize (World.setCell (World.setCell (World.setCell (World.setCell (World.setCell (World.setCell (World.setCell (World.setCell (World.setCell (World.setCell (World.setCell (World.setCell (World.setCell (World.setCell w1 ⟨w.heap.size,0,none⟩ (.int .i64 q.kind)) ⟨w.heap.size,1,none⟩ (.string ⟨#[]⟩)) ⟨w.heap.size,2,none⟩ (.int .i64 0)) ⟨w.heap.size,3,none⟩ (.int .i64 0)) ⟨w.heap.size,4,none⟩ (.int .i64 0)) ⟨w.heap.size,5,none⟩ (.string ⟨#[]⟩)) ⟨w.heap.size,6,none⟩ (.string ⟨#[]⟩)) ⟨w.heap.size,7,none⟩ (.int .i64 0)) ⟨w.heap.size,8,none⟩ (.string ⟨#[]⟩)) ⟨w.heap.size,9,none⟩ (.string ⟨#[]⟩)) ⟨w.heap.size,10,none⟩ (.string ⟨#[]⟩)) ⟨w.heap.size,11,none⟩ (.int .i64 0)) ⟨w.heap.size,12,none⟩ (.string ⟨#[]⟩)) ⟨w.heap.size,13,none⟩ (.int .i64 0))=wf at hf hB ⊢
 clear s0 r0 z0 s1 r1 z1 s2 r2 z2 s3 r3 z3 s4 r4 z4 s5 r5 z5 s6 r6 z6 s7 r7 z7 s8 r8 z8 s9 r9 z9 s10 r10 z10 s11 r11 z11 s12 r12 z12 s13 r13 z13 hl1 hl2 hm
 obtain⟨f0,f1,f2,f3,f4,f5,f6,f7,f8,f9,f10,f11,f12,f13⟩:=Blk.c14 (show Blk wf (w.heap.size) _ #[.int .i64 q.kind,.string ⟨#[]⟩,.int .i64 0,.int .i64 0,.int .i64 0,.string ⟨#[]⟩,.string ⟨#[]⟩,.int .i64 0,.string ⟨#[]⟩,.string ⟨#[]⟩,.string ⟨#[]⟩,.int .i64 0,.string ⟨#[]⟩,.int .i64 0] from hf)
 have HB:=hid hB
 clear hf hB
 refine bodyPost_ret (v:=.agg #[.int .i64 q.kind,.string ⟨#[]⟩,.int .i64 0,.int .i64 0,.int .i64 0,.string ⟨#[]⟩,.string ⟨#[]⟩,.int .i64 0,.string ⟨#[]⟩,.string ⟨#[]⟩,.string ⟨#[]⟩,.int .i64 0,.string ⟨#[]⟩,.int .i64 0]) (by simp [results,Tryz.results134,go_sem, *]) rfl ?_
 exact⟨rfl,HB.out⟩
def BI (B:Nat) (q:aH) (t:Bool):Nat→Value→Prop
 | 0,u=>u = .pointer (some ⟨B,0,none⟩)
 | 1,u=>u = .int .i64 q.kind
 | 2,u=>u = .iface 338 (.agg #[])
 | 3,u=>u = .agg #[.int .i64 q.kind,.string ⟨#[]⟩,.int .i64 0,.int .i64 0,.int .i64 0,.string ⟨#[]⟩,.string ⟨#[]⟩,.int .i64 0,.string ⟨#[]⟩,.string ⟨#[]⟩,.string ⟨#[]⟩,.int .i64 0,.string ⟨#[]⟩,.int .i64 0]
 | 4,u=>u = .agg #[.int .i64 q.kind,.string q.job.name,.int .i64 q.job.prio,.int .i64 q.job.need,.int .i64 q.job.tries,.string q.job.tag,.string q.node.name,.int .i64 q.node.room,.string q.node.zone,.string q.lease.job,.string q.lease.node,.int .i64 q.lease.till,.string q.name,.int .i64 q.n]
 | 5,u=>u = .bool (!t)
 | 6,u=>u = .bool (!t)
 | _,_=>False
theorem EX (q:aH) (w:World) (hq:q.kind=8):Calls Tryz.prog 44 #[bP q] w (bG (bK q) w):=by
 obtain⟨W,hW⟩:∃ W,w.alloc (.cells (aB q) 40)=W:=⟨_,rfl⟩
 have hb:Blk W w.heap.size 40 (aB q):=by rw [← hW]; exact heap_alloc_new w _
 have hbW:Below w.heap.size w W:=by rw [← hW]; exact (Below.refl _ _).alloc (Nat.le_refl _) _
 have HPt:=hid (IG q W hq)
 have how:kB q=(bq q.kind):=by unfold kB bq; simp [hq]
 have hpe:cN q=0:=by unfold cN; simp [hq]
 have hre:(((bq q.kind):aH)≠q→bK q=4)∧(((bq q.kind):aH)=q→bK q=cN q):=by
  unfold bK
  rw [how,if_neg (by rw [hq]; decide)]
  exact⟨fun h=>if_pos h,fun h=>if_neg (fun h'=>h' h)⟩
 obtain⟨t,ht,fQ⟩:=iY (bq q.kind) q
 have hrun:∀ W,(binOp .neq 40 (.agg #[.int .i64 q.kind,.string ⟨#[]⟩,.int .i64 0,.int .i64 0,.int .i64 0,.string ⟨#[]⟩,.string ⟨#[]⟩,.int .i64 0,.string ⟨#[]⟩,.string ⟨#[]⟩,.string ⟨#[]⟩,.int .i64 0,.string ⟨#[]⟩,.int .i64 0]) (.agg (mg q))).run Tryz.prog W = .ok (.bool (!t)) W:=fQ
 clear fQ how
 obtain⟨c0,c1,c2,c3,c4,c5,c6,c7,c8,c9,c10,c11,c12,c13⟩:=Blk.c14 (hb)
 have hlt:=hb.lt
 have Hq:=hid hb
 have HbW:=hid hbW
 have HRe:=hid hre
 have HPe:=hid hpe
 have Ht:=hid ht
 have jG:=hid hrun
 have HW:=hid hW
 clear hb hbW hre hpe ht hrun hW
 obtain⟨E0,hE0⟩:∃ E0,bK q=E0:=⟨_,rfl⟩
 rw [hE0]
 have HE0:=hid hE0
 clear hE0
 unfold bP at HPt ⊢
 unfold aB at HPt ⊢
 unfold aB at HW
 clear hq
 have hn:∀ (w:World),(binOp .eql 225 (.iface 338 (.agg #[])) .nilIface).run Tryz.prog w = .ok (.bool false) w:=fun _=>rfl
 go_enter Tryz.func44,Tryz.ntmps44
 go_wp2_with fail
 try simp only [HW.out]
 clear HW
 refine Calls.mono HPt.out ?_
 rintro e w1 ⟨rfl,hb1⟩
 have H0:fE w q w.heap.size 40 (aB q) w1:=⟨Hq.out.below hb1 Hq.out.lt,Hq.out.below hb1 Hq.out.lt,HbW.out.trans (hb1.mono HbW.out.size)⟩
 clear hb1 HPt c0 c1 c2 c3 c4 c5 c6 c7 c8 c9 c10 c11 c12 c13 hlt
 go_wp2_with fail
 have hrun:=jG.out
 refine rq (Γ:=Unit) 18 (fun _=>BI w.heap.size q t) [] (fun _ _ wx=>fE w q w.heap.size 40 (aB q) wx) () (H0.next (Below.refl _ _).drew) ?_ ?_
 · refine⟨?_,?_,?_,?_,?_,?_,?_,trivial⟩
   · exact ok0 0 0 1 rfl fun _=>rfl
   · refine okQ 0 0 fun p γ a wx _ _ hp hk=>?_
     obtain⟨u1,h1,rfl⟩:=hk.g 0 10 rfl rfl
     have hc0:wx.cell? ⟨w.heap.size,0,none⟩=some (.int .i64 q.kind):=hp.qb.cell 0
     simp [go_sem,Oper.wp,execOp,Act.eval,h1,hc0]
     exact⟨_,rfl,rfl,hp⟩
   · exact ok0 0 0 3 rfl fun _=>rfl
   · refine okQ 0 0 fun p γ a wx _ _ hp hk=>?_
     obtain⟨u1,h1,rfl⟩:=hk.g 1 11 rfl rfl
     obtain⟨u2,h2,rfl⟩:=hk.g 2 12 rfl rfl
     simp [go_sem,Oper.wp,execOp,Act.eval,h1,h2]
     refine (uS q wx).mono ?_
     rintro e w' ⟨rfl,hb⟩
     exact⟨_,rfl,rfl,hp.next hb⟩
   · refine okQ 0 0 fun p γ a wx _ _ hp hk=>?_
     have h1:=hk.k 1 rfl
     obtain⟨hc0,hc1,hc2,hc3,hc4,hc5,hc6,hc7,hc8,hc9,mq,mA,mB,mC⟩:=Blk.c14 (hp.qb)
     simp [go_sem,Oper.wp,execOp,Act.eval,h1,hc0,hc1,hc2,hc3,hc4,hc5,hc6,hc7,hc8,hc9,mq,mA,mB,mC]
     exact⟨_,rfl,rfl,hp⟩
   · refine okQ 0 0 fun p γ a wx _ _ hp hk=>?_
     obtain⟨u1,h1,rfl⟩:=hk.g 3 13 rfl rfl
     obtain⟨u2,h2,rfl⟩:=hk.g 4 14 rfl rfl
     simp [go_sem,Oper.wp,execOp,Act.eval,h1,h2,hrun]
     exact⟨_,rfl,rfl,hp⟩
   · exact ok1 0 0 5 15 rfl rfl (fun _ _ h=>h) fun _=>rfl
 intro γ a wy hd
 have H1:=hid hd.ph
 obtain⟨fv,rfl,hfv⟩:=hd.frame [10,11,12,13,14,15,9] rfl
 have h9:fv 9 = .bool (!t):=hfv 6 _ 9 rfl rfl
 clear hd hfv H0 hrun jG
 simp only [foldl_cons,foldl_nil,setIfInBounds_toArray,set_cons_succ,set_cons_zero,h9]
 clear h9
 cases t
 · have hE:bK q=4:=HRe.out.1 (fun h=>by have:=Ht.out.2 h; cases this)
   obtain rfl:(4:Int)=E0:=hE.symm.trans HE0.out
   have aV:=hid (show bG 4 w (.returned (.int .i64 4)) wy from ⟨rfl,H1.out.below⟩)
   clear hE HRe HPe Ht HE0
   go_wp2
   go_ret
   exact aV.out
 · have hE:bK q=cN q:=HRe.out.2 (Ht.out.1 rfl)
   obtain rfl:(0:Int)=E0:=(hE.trans HPe.out).symm.trans HE0.out
   have HK:=hid (sA wy)
   clear hE HPe HRe HE0
   have hm : ∀ w, (method 606 338 (.agg #[]) "bracken/req.check").run Tryz.prog w = .ok (486, .agg #[]) w := fun _ => by kernel_rfl
   go_wp2_with fail
   refine Calls.mono HK.out ?_
   rintro e w5 ⟨rfl,hb5⟩
   have HB:=hid (H1.out.below.trans (hb5.mono H1.out.below.size))
   have aV:=hid (show bG 0 w (.returned (.int .i64 0)) w5 from ⟨rfl,HB.out⟩)
   clear hb5 HK H1 HB
   go_wp2
   go_ret
   exact aV.out
theorem EY (q:aH) (w:World) (hq:q.kind=9):Calls Tryz.prog 44 #[bP q] w (bG (bK q) w):=by
 obtain⟨W,hW⟩:∃ W,w.alloc (.cells (aB q) 40)=W:=⟨_,rfl⟩
 have hb:Blk W w.heap.size 40 (aB q):=by rw [← hW]; exact heap_alloc_new w _
 have hbW:Below w.heap.size w W:=by rw [← hW]; exact (Below.refl _ _).alloc (Nat.le_refl _) _
 have HPt:=hid (IH q W hq)
 have how:kB q=(bq q.kind):=by unfold kB bq; simp [hq]
 have hpe:cN q=0:=by unfold cN; simp [hq]
 have hre:(((bq q.kind):aH)≠q→bK q=4)∧(((bq q.kind):aH)=q→bK q=cN q):=by
  unfold bK
  rw [how,if_neg (by rw [hq]; decide)]
  exact⟨fun h=>if_pos h,fun h=>if_neg (fun h'=>h' h)⟩
 obtain⟨t,ht,fQ⟩:=iY (bq q.kind) q
 have hrun:∀ W,(binOp .neq 40 (.agg #[.int .i64 q.kind,.string ⟨#[]⟩,.int .i64 0,.int .i64 0,.int .i64 0,.string ⟨#[]⟩,.string ⟨#[]⟩,.int .i64 0,.string ⟨#[]⟩,.string ⟨#[]⟩,.string ⟨#[]⟩,.int .i64 0,.string ⟨#[]⟩,.int .i64 0]) (.agg (mg q))).run Tryz.prog W = .ok (.bool (!t)) W:=fQ
 clear fQ how
 obtain⟨c0,c1,c2,c3,c4,c5,c6,c7,c8,c9,c10,c11,c12,c13⟩:=Blk.c14 (hb)
 have hlt:=hb.lt
 have Hq:=hid hb
 have HbW:=hid hbW
 have HRe:=hid hre
 have HPe:=hid hpe
 have Ht:=hid ht
 have jG:=hid hrun
 have HW:=hid hW
 clear hb hbW hre hpe ht hrun hW
 obtain⟨E0,hE0⟩:∃ E0,bK q=E0:=⟨_,rfl⟩
 rw [hE0]
 have HE0:=hid hE0
 clear hE0
 unfold bP at HPt ⊢
 unfold aB at HPt ⊢
 unfold aB at HW
 clear hq
 have hn:∀ (w:World),(binOp .eql 225 (.iface 338 (.agg #[])) .nilIface).run Tryz.prog w = .ok (.bool false) w:=fun _=>rfl
 go_enter Tryz.func44,Tryz.ntmps44
 go_wp2_with fail
 try simp only [HW.out]
 clear HW
 refine Calls.mono HPt.out ?_
 rintro e w1 ⟨rfl,hb1⟩
 have H0:fE w q w.heap.size 40 (aB q) w1:=⟨Hq.out.below hb1 Hq.out.lt,Hq.out.below hb1 Hq.out.lt,HbW.out.trans (hb1.mono HbW.out.size)⟩
 clear hb1 HPt c0 c1 c2 c3 c4 c5 c6 c7 c8 c9 c10 c11 c12 c13 hlt
 go_wp2_with fail
 have hrun:=jG.out
 refine rq (Γ:=Unit) 18 (fun _=>BI w.heap.size q t) [] (fun _ _ wx=>fE w q w.heap.size 40 (aB q) wx) () (H0.next (Below.refl _ _).drew) ?_ ?_
 · refine⟨?_,?_,?_,?_,?_,?_,?_,trivial⟩
   · exact ok0 0 0 1 rfl fun _=>rfl
   · refine okQ 0 0 fun p γ a wx _ _ hp hk=>?_
     obtain⟨u1,h1,rfl⟩:=hk.g 0 10 rfl rfl
     have hc0:wx.cell? ⟨w.heap.size,0,none⟩=some (.int .i64 q.kind):=hp.qb.cell 0
     simp [go_sem,Oper.wp,execOp,Act.eval,h1,hc0]
     exact⟨_,rfl,rfl,hp⟩
   · exact ok0 0 0 3 rfl fun _=>rfl
   · refine okQ 0 0 fun p γ a wx _ _ hp hk=>?_
     obtain⟨u1,h1,rfl⟩:=hk.g 1 11 rfl rfl
     obtain⟨u2,h2,rfl⟩:=hk.g 2 12 rfl rfl
     simp [go_sem,Oper.wp,execOp,Act.eval,h1,h2]
     refine (uS q wx).mono ?_
     rintro e w' ⟨rfl,hb⟩
     exact⟨_,rfl,rfl,hp.next hb⟩
   · refine okQ 0 0 fun p γ a wx _ _ hp hk=>?_
     have h1:=hk.k 1 rfl
     obtain⟨hc0,hc1,hc2,hc3,hc4,hc5,hc6,hc7,hc8,hc9,mq,mA,mB,mC⟩:=Blk.c14 (hp.qb)
     simp [go_sem,Oper.wp,execOp,Act.eval,h1,hc0,hc1,hc2,hc3,hc4,hc5,hc6,hc7,hc8,hc9,mq,mA,mB,mC]
     exact⟨_,rfl,rfl,hp⟩
   · refine okQ 0 0 fun p γ a wx _ _ hp hk=>?_
     obtain⟨u1,h1,rfl⟩:=hk.g 3 13 rfl rfl
     obtain⟨u2,h2,rfl⟩:=hk.g 4 14 rfl rfl
     simp [go_sem,Oper.wp,execOp,Act.eval,h1,h2,hrun]
     exact⟨_,rfl,rfl,hp⟩
   · exact ok1 0 0 5 15 rfl rfl (fun _ _ h=>h) fun _=>rfl
 intro γ a wy hd
 have H1:=hid hd.ph
 obtain⟨fv,rfl,hfv⟩:=hd.frame [10,11,12,13,14,15,9] rfl
 have h9:fv 9 = .bool (!t):=hfv 6 _ 9 rfl rfl
 clear hd hfv H0 hrun jG
 simp only [foldl_cons,foldl_nil,setIfInBounds_toArray,set_cons_succ,set_cons_zero,h9]
 clear h9
 cases t
 · have hE:bK q=4:=HRe.out.1 (fun h=>by have:=Ht.out.2 h; cases this)
   obtain rfl:(4:Int)=E0:=hE.symm.trans HE0.out
   have aV:=hid (show bG 4 w (.returned (.int .i64 4)) wy from ⟨rfl,H1.out.below⟩)
   clear hE HRe HPe Ht HE0
   go_wp2
   go_ret
   exact aV.out
 · have hE:bK q=cN q:=HRe.out.2 (Ht.out.1 rfl)
   obtain rfl:(0:Int)=E0:=(hE.trans HPe.out).symm.trans HE0.out
   have HK:=hid (sA wy)
   clear hE HPe HRe HE0
   have hm : ∀ w, (method 606 338 (.agg #[]) "bracken/req.check").run Tryz.prog w = .ok (486, .agg #[]) w := fun _ => by kernel_rfl
   go_wp2_with fail
   refine Calls.mono HK.out ?_
   rintro e w5 ⟨rfl,hb5⟩
   have HB:=hid (H1.out.below.trans (hb5.mono H1.out.below.size))
   have aV:=hid (show bG 0 w (.returned (.int .i64 0)) w5 from ⟨rfl,HB.out⟩)
   clear hb5 HK H1 HB
   go_wp2
   go_ret
   exact aV.out
theorem EZ (q:aH) (w:World) (hq:ranged q.kind 1 9=false):Calls Tryz.prog 44 #[bP q] w (bG (bK q) w):=by
 obtain⟨W,hW⟩:∃ W,w.alloc (.cells (aB q) 40)=W:=⟨_,rfl⟩
 have hb:Blk W w.heap.size 40 (aB q):=by rw [← hW]; exact heap_alloc_new w _
 have hbW:Below w.heap.size w W:=by rw [← hW]; exact (Below.refl _ _).alloc (Nat.le_refl _) _
 have HPt:=hid (II q W hq)
 have hre:bK q=1:=by unfold bK; rw [if_pos hq]
 rw [hre]
 obtain⟨c0,c1,c2,c3,c4,c5,c6,c7,c8,c9,c10,c11,c12,c13⟩:=Blk.c14 (hb)
 have hlt:=hb.lt
 have HbW:=hid hbW
 have HW:=hid hW
 clear hb hbW hre hW hq
 unfold bP at HPt ⊢
 unfold aB at HPt ⊢
 unfold aB at HW
 have hn:∀ (w:World),(binOp .eql 225 .nilIface .nilIface).run Tryz.prog w = .ok (.bool true) w:=fun _=>rfl
 go_enter Tryz.func44,Tryz.ntmps44
 go_wp2_with fail
 try simp only [HW.out]
 clear HW
 refine Calls.mono HPt.out ?_
 rintro e w1 ⟨rfl,hb1⟩
 have aV:=hid (show bG 1 w (.returned (.int .i64 1)) w1 from ⟨rfl,HbW.out.trans (hb1.mono HbW.out.size)⟩)
 clear hb1 HPt c0 c1 c2 c3 c4 c5 c6 c7 c8 c9 c10 c11 c12 c13 hlt
 go_wp2
 go_ret
 exact aV.out
theorem jH (q:aH) (w:World) (hok:ROk q) (hT:Tabs w):Calls Tryz.prog 44 #[bP q] w (bG (bK q) w):=by
 cases hr:ranged q.kind 1 9 with
 | false=>exact EZ q w hr
 | true=>
  obtain⟨h1,h2⟩:=bB.1 hr
  have:q.kind=1∨q.kind=2∨q.kind=3∨q.kind=4∨q.kind=5∨q.kind=6∨q.kind=7∨q.kind=8∨q.kind=9:=by omega
  rcases this with h | h | h | h | h | h | h | h | h
  · exact sY q w h hok hT
  · exact EP q w h hok hT
  · exact ES q w h hok hT
  · exact ET q w h hok hT
  · exact ER q w h hok hT
  · exact EU q w h hok hT
  · exact EW q w h hok hT
  · exact EX q w h
  · exact EY q w h
end Go.Proofs.YtoeejfhdjmkpcaaGreatDoor
