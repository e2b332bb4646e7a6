/- Of the proof of a statement: RcD, RcE. -/
import Derived.Test.YtoeejfhdjmkpcaaGreatDoorTDoB
import Derived.Test.YtoeejfhdjmkpcaaGreatDoorTRcB
import Derived.Test.YtoeejfhdjmkpcaaGreatDoorTRcC
set_option linter.unusedVariables false
set_option linter.unusedSimpArgs false
set_option maxRecDepth 100000
set_option maxHeartbeats 8000000
/- != at requests. -/
namespace Go.Proofs.YtoeejfhdjmkpcaaGreatDoor
open Go.Lib (hid)
open List (foldl_cons foldl_nil setIfInBounds_toArray set_cons_succ set_cons_zero)
open Go.RowKit
theorem CR (xk yk:Int) (xjn yjn:ByteArray) (xjp yjp:Int) (xjd yjd:Int) (xjt yjt:Int) (xjg yjg:ByteArray) (xnn ynn:ByteArray) (xnr ynr:Int) (xnz ynz:ByteArray) (xlj ylj:ByteArray) (xln yln:ByteArray) (xlt ylt:Int) (xnm ynm:ByteArray) (xn yn:Int) (h:(⟨xk,⟨xjn,xjp,xjd,xjt,xjg⟩,⟨xnn,xnr,xnz⟩,⟨xlj,xln,xlt⟩,xnm,xn⟩:aH)≠(⟨yk,⟨yjn,yjp,yjd,yjt,yjg⟩,⟨ynn,ynr,ynz⟩,⟨ylj,yln,ylt⟩,ynm,yn⟩:aH)) (W:World):(binOp .neq 40 (.agg #[.int .i64 xk,.string xjn,.int .i64 xjp,.int .i64 xjd,.int .i64 xjt,.string xjg,.string xnn,.int .i64 xnr,.string xnz,.string xlj,.string xln,.int .i64 xlt,.string xnm,.int .i64 xn]) (.agg #[.int .i64 yk,.string yjn,.int .i64 yjp,.int .i64 yjd,.int .i64 yjt,.string yjg,.string ynn,.int .i64 ynr,.string ynz,.string ylj,.string yln,.int .i64 ylt,.string ynm,.int .i64 yn])).run Tryz.prog W = .ok (.bool true) W:=by
 by_cases e_k:xk=yk
 rotate_left
 · simp [go_sem,e_k]
 by_cases oD:xjn.toList=yjn.toList
 rotate_left
 · simp [go_sem,e_k,oD]
 by_cases rI:xjp=yjp
 rotate_left
 · simp [go_sem,e_k,oD,rI]
 by_cases sG:xjd=yjd
 rotate_left
 · simp [go_sem,e_k,oD,rI,sG]
 by_cases uQ:xjt=yjt
 rotate_left
 · simp [go_sem,e_k,oD,rI,sG,uQ]
 by_cases sH:xjg.toList=yjg.toList
 rotate_left
 · simp [go_sem,e_k,oD,rI,sG,uQ,sH]
 by_cases uR:xnn.toList=ynn.toList
 rotate_left
 · simp [go_sem,e_k,oD,rI,sG,uQ,sH,uR]
 by_cases zK:xnr=ynr
 rotate_left
 · simp [go_sem,e_k,oD,rI,sG,uQ,sH,uR,zK]
 by_cases xK:xnz.toList=ynz.toList
 rotate_left
 · simp [go_sem,e_k,oD,rI,sG,uQ,sH,uR,zK,xK]
 by_cases zL:xlj.toList=ylj.toList
 rotate_left
 · simp [go_sem,e_k,oD,rI,sG,uQ,sH,uR,zK,xK,zL]
 by_cases Bb:xln.toList=yln.toList
 rotate_left
 · simp [go_sem,e_k,oD,rI,sG,uQ,sH,uR,zK,xK,zL,Bb]
 by_cases GH:xlt=ylt
 rotate_left
 · simp [go_sem,e_k,oD,rI,sG,uQ,sH,uR,zK,xK,zL,Bb,GH]
 by_cases EO:xnm.toList=ynm.toList
 rotate_left
 · simp [go_sem,e_k,oD,rI,sG,uQ,sH,uR,zK,xK,zL,Bb,GH,EO]
 by_cases e_n:xn=yn
 rotate_left
 · simp [go_sem,e_k,oD,rI,sG,uQ,sH,uR,zK,xK,zL,Bb,GH,EO,e_n]
 refine absurd ?_ h
 subst e_k
 have oD:=cK oD; subst oD
 subst rI
 subst sG
 subst uQ
 have sH:=cK sH; subst sH
 have uR:=cK uR; subst uR
 subst zK
 have xK:=cK xK; subst xK
 have zL:=cK zL; subst zL
 have Bb:=cK Bb; subst Bb
 subst GH
 have EO:=cK EO; subst EO
 subst e_n
 rfl
theorem iY (a b:aH):∃ t:Bool,(t=true↔a=b)∧∀ W,(binOp .neq 40 (bP a) (bP b)).run Tryz.prog W = .ok (.bool (!t)) W:=by
 by_cases h:a=b
 · subst h
   exact⟨true,⟨fun _=>rfl,fun _=>rfl⟩,fun W=>by simp [go_sem,bP,aB]⟩
 · exact⟨false,⟨fun h'=>(by cases h'),fun h'=>absurd h' h⟩,fun W=>CR _ _ _ _ _ _ _ _ _ _ _ _ _ _ _ _ _ _ _ _ _ _ _ _ _ _ _ _ h W⟩
end Go.Proofs.YtoeejfhdjmkpcaaGreatDoor
/- req.Check at the kinds whose part lies behind a pointer. -/
namespace Go.Proofs.YtoeejfhdjmkpcaaGreatDoor
open Go.Lib (hid)
open List (foldl_cons foldl_nil setIfInBounds_toArray set_cons_succ set_cons_zero)
open Go.RowKit
structure fE (w:World) (q:aH) (P:Nat) (T:TypeId) (cs:Array Value) (wx:World):Prop where
 qb:Blk wx w.heap.size 40 (aB q)
 pb:Blk wx P T cs
 below:Below w.heap.size w wx
theorem fE.next {w w' wx:World} {q:aH} {P:Nat} {T:TypeId} {cs:Array Value} (h:fE w q P T cs wx) (hb:Below wx.heap.size wx w'):fE w q P T cs w':=
 ⟨h.qb.below hb h.qb.lt,h.pb.below hb h.pb.lt,h.below.trans (hb.mono h.below.size)⟩
structure ROk (q:aH):Prop where
 j1:q.job.name.size≤9223372036854775807
 j2:q.job.tag.size≤9223372036854775807
 n1:q.node.name.size≤9223372036854775807
 n2:q.node.zone.size≤9223372036854775807
 l1:q.lease.job.size≤9223372036854775807
 l2:q.lease.node.size≤9223372036854775807
 s:q.name.size≤9223372036854775807
def IF (B P:Nat) (q:aH) (t:Bool):Nat→Value→Prop
 | 0,u=>u = .pointer (some ⟨B,0,none⟩)
 | 1,u=>u = .int .i64 q.kind
 | 2,u=>u = .iface 325 (.pointer (some ⟨P,0,none⟩))
 | 3,u=>u = .agg #[.int .i64 q.kind,.string q.job.name,.int .i64 q.job.prio,.int .i64 q.job.need,.int .i64 q.job.tries,.string q.job.tag,.string ⟨#[]⟩,.int .i64 0,.string ⟨#[]⟩,.string ⟨#[]⟩,.string ⟨#[]⟩,.int .i64 0,.string ⟨#[]⟩,.int .i64 0]
 | 4,u=>u = .agg #[.int .i64 q.kind,.string q.job.name,.int .i64 q.job.prio,.int .i64 q.job.need,.int .i64 q.job.tries,.string q.job.tag,.string q.node.name,.int .i64 q.node.room,.string q.node.zone,.string q.lease.job,.string q.lease.node,.int .i64 q.lease.till,.string q.name,.int .i64 q.n]
 | 5,u=>u = .bool (!t)
 | 6,u=>u = .bool (!t)
 | _,_=>False
theorem sY (q:aH) (w:World) (hq:q.kind=1) (hok:ROk q) (hT:Tabs w):Calls Tryz.prog 44 #[bP q] w (bG (bK q) w):=by
 obtain⟨W,hW⟩:∃ W,w.alloc (.cells (aB q) 40)=W:=⟨_,rfl⟩
 have hb:Blk W w.heap.size 40 (aB q):=by rw [← hW]; exact heap_alloc_new w _
 have hbW:Below w.heap.size w W:=by rw [← hW]; exact (Below.refl _ _).alloc (Nat.le_refl _) _
 have HPt:=hid (zZ q W hq)
 have how:kB q=⟨q.kind,q.job,aU,aI,⟨#[]⟩,0⟩:=by unfold kB; simp [hq]
 have hpe:cN q=fF q.job:=by unfold cN; simp [hq]
 have hre:((⟨q.kind,q.job,aU,aI,⟨#[]⟩,0⟩:aH)≠q→bK q=4)∧((⟨q.kind,q.job,aU,aI,⟨#[]⟩,0⟩:aH)=q→bK q=cN q):=by
  unfold bK
  rw [how,if_neg (by rw [hq]; decide)]
  exact⟨fun h=>if_pos h,fun h=>if_neg (fun h'=>h' h)⟩
 obtain⟨t,ht,fQ⟩:=iY ⟨q.kind,q.job,aU,aI,⟨#[]⟩,0⟩ q
 have hrun:∀ W,(binOp .neq 40 (.agg #[.int .i64 q.kind,.string q.job.name,.int .i64 q.job.prio,.int .i64 q.job.need,.int .i64 q.job.tries,.string q.job.tag,.string ⟨#[]⟩,.int .i64 0,.string ⟨#[]⟩,.string ⟨#[]⟩,.string ⟨#[]⟩,.int .i64 0,.string ⟨#[]⟩,.int .i64 0]) (.agg (mg q))).run Tryz.prog W = .ok (.bool (!t)) W:=fQ
 clear fQ how
 have h14:=hb
 obtain⟨c0,c1,c2,c3,c4,c5,c6,c7,c8,c9,c10,c11,c12,c13⟩:=Blk.c14 (hb)
 have hlt:=hb.lt
 have Hq:=hid hb
 have HbW:=hid hbW
 have HRe:=hid hre
 have HPe:=hid hpe
 have Ht:=hid ht
 have jG:=hid hrun
 have HW:=hid hW
 clear hb hbW hre hpe ht hrun hW h14
 obtain⟨E0,hE0⟩:∃ E0,bK q=E0:=⟨_,rfl⟩
 rw [hE0]
 have HE0:=hid hE0
 clear hE0
 unfold bP at HPt ⊢
 unfold aB at HPt ⊢
 unfold aB at HW
 clear hq
 have hn:∀ (w:World) (a:Addr),(binOp .eql 225 (.iface 325 (.pointer (some a))) .nilIface).run Tryz.prog w = .ok (.bool false) w:=fun _ _=>rfl
 go_enter Tryz.func44,Tryz.ntmps44
 go_wp2_with fail
 try simp only [HW.out]
 clear HW
 refine Calls.mono HPt.out ?_
 rintro e w1 ⟨P,rfl,hP,hpb,hb1⟩
 have H0:fE w q P 327 #[.string q.job.name,.int .i64 q.job.prio,.int .i64 q.job.need,.int .i64 q.job.tries,.string q.job.tag] w1:=⟨Hq.out.below hb1 Hq.out.lt,hpb,HbW.out.trans (hb1.mono HbW.out.size)⟩
 have HWh:=hid (fun (wx:World) (hp:fE w q P 327 #[.string q.job.name,.int .i64 q.job.prio,.int .i64 q.job.need,.int .i64 q.job.tries,.string q.job.tag] wx)=>wF q P wx hp.pb)
 clear hP hpb hb1 HPt c0 c1 c2 c3 c4 c5 c6 c7 c8 c9 c10 c11 c12 c13 hlt
 go_wp2_with fail
 have hrun:=jG.out
 refine rq (Γ:=Unit) 18 (fun _=>IF w.heap.size P q t) [] (fun _ _ wx=>fE w q P 327 #[.string q.job.name,.int .i64 q.job.prio,.int .i64 q.job.need,.int .i64 q.job.tries,.string q.job.tag] wx) () (H0.next (Below.refl _ _).drew) ?_ ?_
 · refine⟨?_,?_,?_,?_,?_,?_,?_,trivial⟩
   · exact ok0 0 0 1 rfl fun _=>rfl
   · refine okQ 0 0 fun p γ a wx _ _ hp hk=>?_
     obtain⟨u1,h1,rfl⟩:=hk.g 0 10 rfl rfl
     have hc0:wx.cell? ⟨w.heap.size,0,none⟩=some (.int .i64 q.kind):=hp.qb.cell 0
     simp [go_sem,Oper.wp,execOp,Act.eval,h1,hc0]
     exact⟨_,rfl,rfl,hp⟩
   · exact ok0 0 0 3 rfl fun _=>rfl
   · refine okQ 0 0 fun p γ a wx _ _ hp hk=>?_
     obtain⟨u1,h1,rfl⟩:=hk.g 1 11 rfl rfl
     obtain⟨u2,h2,rfl⟩:=hk.g 2 12 rfl rfl
     simp [go_sem,Oper.wp,execOp,Act.eval,h1,h2]
     refine (HWh.out wx hp).mono ?_
     rintro e w' ⟨rfl,hb⟩
     exact⟨_,rfl,rfl,hp.next hb⟩
   · refine okQ 0 0 fun p γ a wx _ _ hp hk=>?_
     have h1:=hk.k 1 rfl
     obtain⟨hc0,hc1,hc2,hc3,hc4,hc5,hc6,hc7,hc8,hc9,mq,mA,mB,mC⟩:=Blk.c14 (hp.qb)
     simp [go_sem,Oper.wp,execOp,Act.eval,h1,hc0,hc1,hc2,hc3,hc4,hc5,hc6,hc7,hc8,hc9,mq,mA,mB,mC]
     exact⟨_,rfl,rfl,hp⟩
   · refine okQ 0 0 fun p γ a wx _ _ hp hk=>?_
     obtain⟨u1,h1,rfl⟩:=hk.g 3 13 rfl rfl
     obtain⟨u2,h2,rfl⟩:=hk.g 4 14 rfl rfl
     simp [go_sem,Oper.wp,execOp,Act.eval,h1,h2,hrun]
     exact⟨_,rfl,rfl,hp⟩
   · exact ok1 0 0 5 15 rfl rfl (fun _ _ h=>h) fun _=>rfl
 intro γ a wy hd
 have H1:=hid hd.ph
 obtain⟨fv,rfl,hfv⟩:=hd.frame [10,11,12,13,14,15,9] rfl
 have h9:fv 9 = .bool (!t):=hfv 6 _ 9 rfl rfl
 clear hd hfv H0 HWh hrun jG
 simp only [foldl_cons,foldl_nil,setIfInBounds_toArray,set_cons_succ,set_cons_zero,h9]
 clear h9
 cases t
 · have hE:bK q=4:=HRe.out.1 (fun h=>by have:=Ht.out.2 h; cases this)
   obtain rfl:(4:Int)=E0:=hE.symm.trans HE0.out
   have aV:=hid (show bG 4 w (.returned (.int .i64 4)) wy from ⟨rfl,H1.out.below⟩)
   clear hE HRe HPe Ht HE0
   go_wp2
   go_ret
   exact aV.out
 · have hE:bK q=cN q:=HRe.out.2 (Ht.out.1 rfl)
   have HK:=hid (Ba q.job P wy H1.out.pb hok.j1 hok.j2 (hT.below H1.out.below))
   obtain⟨E,hEE⟩:∃ E:Int,(fF q.job)=E:=⟨_,rfl⟩
   rw [hEE] at HK
   obtain rfl:E=E0:=(hEE.symm.trans (HPe.out.symm.trans hE.symm)).trans HE0.out
   clear hEE hE HPe HRe HE0
   have hm : ∀ w, (method 606 325 (.pointer (some ⟨P, 0, none⟩)) "bracken/req.check").run Tryz.prog w = .ok (466, .pointer (some ⟨P, 0, none⟩)) w := fun _ => by kernel_rfl
   go_wp2_with fail
   refine Calls.mono HK.out ?_
   rintro e w5 ⟨rfl,hb5⟩
   have HB:=hid (H1.out.below.trans (hb5.mono H1.out.below.size))
   have aV:=hid (show bG E w (.returned (.int .i64 E)) w5 from ⟨rfl,HB.out⟩)
   clear hb5 HK H1 HB
   go_wp2
   go_ret
   exact aV.out
def GI (B P:Nat) (q:aH) (t:Bool):Nat→Value→Prop
 | 0,u=>u = .pointer (some ⟨B,0,none⟩)
 | 1,u=>u = .int .i64 q.kind
 | 2,u=>u = .iface 328 (.pointer (some ⟨P,0,none⟩))
 | 3,u=>u = .agg #[.int .i64 q.kind,.string ⟨#[]⟩,.int .i64 0,.int .i64 0,.int .i64 0,.string ⟨#[]⟩,.string q.node.name,.int .i64 q.node.room,.string q.node.zone,.string ⟨#[]⟩,.string ⟨#[]⟩,.int .i64 0,.string ⟨#[]⟩,.int .i64 0]
 | 4,u=>u = .agg #[.int .i64 q.kind,.string q.job.name,.int .i64 q.job.prio,.int .i64 q.job.need,.int .i64 q.job.tries,.string q.job.tag,.string q.node.name,.int .i64 q.node.room,.string q.node.zone,.string q.lease.job,.string q.lease.node,.int .i64 q.lease.till,.string q.name,.int .i64 q.n]
 | 5,u=>u = .bool (!t)
 | 6,u=>u = .bool (!t)
 | _,_=>False
theorem EP (q:aH) (w:World) (hq:q.kind=2) (hok:ROk q) (hT:Tabs w):Calls Tryz.prog 44 #[bP q] w (bG (bK q) w):=by
 obtain⟨W,hW⟩:∃ W,w.alloc (.cells (aB q) 40)=W:=⟨_,rfl⟩
 have hb:Blk W w.heap.size 40 (aB q):=by rw [← hW]; exact heap_alloc_new w _
 have hbW:Below w.heap.size w W:=by rw [← hW]; exact (Below.refl _ _).alloc (Nat.le_refl _) _
 have HPt:=hid (If q W hq)
 have how:kB q=⟨q.kind,bZ,q.node,aI,⟨#[]⟩,0⟩:=by unfold kB; simp [hq]
 have hpe:cN q=eP q.node:=by unfold cN; simp [hq]
 have hre:((⟨q.kind,bZ,q.node,aI,⟨#[]⟩,0⟩:aH)≠q→bK q=4)∧((⟨q.kind,bZ,q.node,aI,⟨#[]⟩,0⟩:aH)=q→bK q=cN q):=by
  unfold bK
  rw [how,if_neg (by rw [hq]; decide)]
  exact⟨fun h=>if_pos h,fun h=>if_neg (fun h'=>h' h)⟩
 obtain⟨t,ht,fQ⟩:=iY ⟨q.kind,bZ,q.node,aI,⟨#[]⟩,0⟩ q
 have hrun:∀ W,(binOp .neq 40 (.agg #[.int .i64 q.kind,.string ⟨#[]⟩,.int .i64 0,.int .i64 0,.int .i64 0,.string ⟨#[]⟩,.string q.node.name,.int .i64 q.node.room,.string q.node.zone,.string ⟨#[]⟩,.string ⟨#[]⟩,.int .i64 0,.string ⟨#[]⟩,.int .i64 0]) (.agg (mg q))).run Tryz.prog W = .ok (.bool (!t)) W:=fQ
 clear fQ how
 have h14:=hb
 obtain⟨c0,c1,c2,c3,c4,c5,c6,c7,c8,c9,c10,c11,c12,c13⟩:=Blk.c14 (hb)
 have hlt:=hb.lt
 have Hq:=hid hb
 have HbW:=hid hbW
 have HRe:=hid hre
 have HPe:=hid hpe
 have Ht:=hid ht
 have jG:=hid hrun
 have HW:=hid hW
 clear hb hbW hre hpe ht hrun hW h14
 obtain⟨E0,hE0⟩:∃ E0,bK q=E0:=⟨_,rfl⟩
 rw [hE0]
 have HE0:=hid hE0
 clear hE0
 unfold bP at HPt ⊢
 unfold aB at HPt ⊢
 unfold aB at HW
 clear hq
 have hn:∀ (w:World) (a:Addr),(binOp .eql 225 (.iface 328 (.pointer (some a))) .nilIface).run Tryz.prog w = .ok (.bool false) w:=fun _ _=>rfl
 go_enter Tryz.func44,Tryz.ntmps44
 go_wp2_with fail
 try simp only [HW.out]
 clear HW
 refine Calls.mono HPt.out ?_
 rintro e w1 ⟨P,rfl,hP,hpb,hb1⟩
 have H0:fE w q P 330 #[.string q.node.name,.int .i64 q.node.room,.string q.node.zone] w1:=⟨Hq.out.below hb1 Hq.out.lt,hpb,HbW.out.trans (hb1.mono HbW.out.size)⟩
 have HWh:=hid (fun (wx:World) (hp:fE w q P 330 #[.string q.node.name,.int .i64 q.node.room,.string q.node.zone] wx)=>A9 q P wx hp.pb)
 clear hP hpb hb1 HPt c0 c1 c2 c3 c4 c5 c6 c7 c8 c9 c10 c11 c12 c13 hlt
 go_wp2_with fail
 have hrun:=jG.out
 refine rq (Γ:=Unit) 18 (fun _=>GI w.heap.size P q t) [] (fun _ _ wx=>fE w q P 330 #[.string q.node.name,.int .i64 q.node.room,.string q.node.zone] wx) () (H0.next (Below.refl _ _).drew) ?_ ?_
 · refine⟨?_,?_,?_,?_,?_,?_,?_,trivial⟩
   · exact ok0 0 0 1 rfl fun _=>rfl
   · refine okQ 0 0 fun p γ a wx _ _ hp hk=>?_
     obtain⟨u1,h1,rfl⟩:=hk.g 0 10 rfl rfl
     have hc0:wx.cell? ⟨w.heap.size,0,none⟩=some (.int .i64 q.kind):=hp.qb.cell 0
     simp [go_sem,Oper.wp,execOp,Act.eval,h1,hc0]
     exact⟨_,rfl,rfl,hp⟩
   · exact ok0 0 0 3 rfl fun _=>rfl
   · refine okQ 0 0 fun p γ a wx _ _ hp hk=>?_
     obtain⟨u1,h1,rfl⟩:=hk.g 1 11 rfl rfl
     obtain⟨u2,h2,rfl⟩:=hk.g 2 12 rfl rfl
     simp [go_sem,Oper.wp,execOp,Act.eval,h1,h2]
     refine (HWh.out wx hp).mono ?_
     rintro e w' ⟨rfl,hb⟩
     exact⟨_,rfl,rfl,hp.next hb⟩
   · refine okQ 0 0 fun p γ a wx _ _ hp hk=>?_
     have h1:=hk.k 1 rfl
     obtain⟨hc0,hc1,hc2,hc3,hc4,hc5,hc6,hc7,hc8,hc9,mq,mA,mB,mC⟩:=Blk.c14 (hp.qb)
     simp [go_sem,Oper.wp,execOp,Act.eval,h1,hc0,hc1,hc2,hc3,hc4,hc5,hc6,hc7,hc8,hc9,mq,mA,mB,mC]
     exact⟨_,rfl,rfl,hp⟩
   · refine okQ 0 0 fun p γ a wx _ _ hp hk=>?_
     obtain⟨u1,h1,rfl⟩:=hk.g 3 13 rfl rfl
     obtain⟨u2,h2,rfl⟩:=hk.g 4 14 rfl rfl
     simp [go_sem,Oper.wp,execOp,Act.eval,h1,h2,hrun]
     exact⟨_,rfl,rfl,hp⟩
   · exact ok1 0 0 5 15 rfl rfl (fun _ _ h=>h) fun _=>rfl
 intro γ a wy hd
 have H1:=hid hd.ph
 obtain⟨fv,rfl,hfv⟩:=hd.frame [10,11,12,13,14,15,9] rfl
 have h9:fv 9 = .bool (!t):=hfv 6 _ 9 rfl rfl
 clear hd hfv H0 HWh hrun jG
 simp only [foldl_cons,foldl_nil,setIfInBounds_toArray,set_cons_succ,set_cons_zero,h9]
 clear h9
 cases t
 · have hE:bK q=4:=HRe.out.1 (fun h=>by have:=Ht.out.2 h; cases this)
   obtain rfl:(4:Int)=E0:=hE.symm.trans HE0.out
   have aV:=hid (show bG 4 w (.returned (.int .i64 4)) wy from ⟨rfl,H1.out.below⟩)
   clear hE HRe HPe Ht HE0
   go_wp2
   go_ret
   exact aV.out
 · have hE:bK q=cN q:=HRe.out.2 (Ht.out.1 rfl)
   have HK:=hid (zH q.node P wy H1.out.pb hok.n1 hok.n2 (hT.below H1.out.below))
   obtain⟨E,hEE⟩:∃ E:Int,(eP q.node)=E:=⟨_,rfl⟩
   rw [hEE] at HK
   obtain rfl:E=E0:=(hEE.symm.trans (HPe.out.symm.trans hE.symm)).trans HE0.out
   clear hEE hE HPe HRe HE0
   have hm : ∀ w, (method 606 328 (.pointer (some ⟨P, 0, none⟩)) "bracken/req.check").run Tryz.prog w = .ok (470, .pointer (some ⟨P, 0, none⟩)) w := fun _ => by kernel_rfl
   go_wp2_with fail
   refine Calls.mono HK.out ?_
   rintro e w5 ⟨rfl,hb5⟩
   have HB:=hid (H1.out.below.trans (hb5.mono H1.out.below.size))
   have aV:=hid (show bG E w (.returned (.int .i64 E)) w5 from ⟨rfl,HB.out⟩)
   clear hb5 HK H1 HB
   go_wp2
   go_ret
   exact aV.out
def EQ (B P:Nat) (q:aH) (t:Bool):Nat→Value→Prop
 | 0,u=>u = .pointer (some ⟨B,0,none⟩)
 | 1,u=>u = .int .i64 q.kind
 | 2,u=>u = .iface 331 (.pointer (some ⟨P,0,none⟩))
 | 3,u=>u = .agg #[.int .i64 q.kind,.string ⟨#[]⟩,.int .i64 0,.int .i64 0,.int .i64 0,.string ⟨#[]⟩,.string ⟨#[]⟩,.int .i64 0,.string ⟨#[]⟩,.string q.lease.job,.string q.lease.node,.int .i64 q.lease.till,.string ⟨#[]⟩,.int .i64 0]
 | 4,u=>u = .agg #[.int .i64 q.kind,.string q.job.name,.int .i64 q.job.prio,.int .i64 q.job.need,.int .i64 q.job.tries,.string q.job.tag,.string q.node.name,.int .i64 q.node.room,.string q.node.zone,.string q.lease.job,.string q.lease.node,.int .i64 q.lease.till,.string q.name,.int .i64 q.n]
 | 5,u=>u = .bool (!t)
 | 6,u=>u = .bool (!t)
 | _,_=>False
theorem ER (q:aH) (w:World) (hq:q.kind=5) (hok:ROk q) (hT:Tabs w):Calls Tryz.prog 44 #[bP q] w (bG (bK q) w):=by
 obtain⟨W,hW⟩:∃ W,w.alloc (.cells (aB q) 40)=W:=⟨_,rfl⟩
 have hb:Blk W w.heap.size 40 (aB q):=by rw [← hW]; exact heap_alloc_new w _
 have hbW:Below w.heap.size w W:=by rw [← hW]; exact (Below.refl _ _).alloc (Nat.le_refl _) _
 have HPt:=hid (Ig q W hq)
 have how:kB q=⟨q.kind,bZ,aU,q.lease,⟨#[]⟩,0⟩:=by unfold kB; simp [hq]
 have hpe:cN q=lsE q.lease:=by unfold cN; simp [hq]
 have hre:((⟨q.kind,bZ,aU,q.lease,⟨#[]⟩,0⟩:aH)≠q→bK q=4)∧((⟨q.kind,bZ,aU,q.lease,⟨#[]⟩,0⟩:aH)=q→bK q=cN q):=by
  unfold bK
  rw [how,if_neg (by rw [hq]; decide)]
  exact⟨fun h=>if_pos h,fun h=>if_neg (fun h'=>h' h)⟩
 obtain⟨t,ht,fQ⟩:=iY ⟨q.kind,bZ,aU,q.lease,⟨#[]⟩,0⟩ q
 have hrun:∀ W,(binOp .neq 40 (.agg #[.int .i64 q.kind,.string ⟨#[]⟩,.int .i64 0,.int .i64 0,.int .i64 0,.string ⟨#[]⟩,.string ⟨#[]⟩,.int .i64 0,.string ⟨#[]⟩,.string q.lease.job,.string q.lease.node,.int .i64 q.lease.till,.string ⟨#[]⟩,.int .i64 0]) (.agg (mg q))).run Tryz.prog W = .ok (.bool (!t)) W:=fQ
 clear fQ how
 have h14:=hb
 obtain⟨c0,c1,c2,c3,c4,c5,c6,c7,c8,c9,c10,c11,c12,c13⟩:=Blk.c14 (hb)
 have hlt:=hb.lt
 have Hq:=hid hb
 have HbW:=hid hbW
 have HRe:=hid hre
 have HPe:=hid hpe
 have Ht:=hid ht
 have jG:=hid hrun
 have HW:=hid hW
 clear hb hbW hre hpe ht hrun hW h14
 obtain⟨E0,hE0⟩:∃ E0,bK q=E0:=⟨_,rfl⟩
 rw [hE0]
 have HE0:=hid hE0
 clear hE0
 unfold bP at HPt ⊢
 unfold aB at HPt ⊢
 unfold aB at HW
 clear hq
 have hn:∀ (w:World) (a:Addr),(binOp .eql 225 (.iface 331 (.pointer (some a))) .nilIface).run Tryz.prog w = .ok (.bool false) w:=fun _ _=>rfl
 go_enter Tryz.func44,Tryz.ntmps44
 go_wp2_with fail
 try simp only [HW.out]
 clear HW
 refine Calls.mono HPt.out ?_
 rintro e w1 ⟨P,rfl,hP,hpb,hb1⟩
 have H0:fE w q P 333 #[.string q.lease.job,.string q.lease.node,.int .i64 q.lease.till] w1:=⟨Hq.out.below hb1 Hq.out.lt,hpb,HbW.out.trans (hb1.mono HbW.out.size)⟩
 have HWh:=hid (fun (wx:World) (hp:fE w q P 333 #[.string q.lease.job,.string q.lease.node,.int .i64 q.lease.till] wx)=>zF q P wx hp.pb)
 clear hP hpb hb1 HPt c0 c1 c2 c3 c4 c5 c6 c7 c8 c9 c10 c11 c12 c13 hlt
 go_wp2_with fail
 have hrun:=jG.out
 refine rq (Γ:=Unit) 18 (fun _=>EQ w.heap.size P q t) [] (fun _ _ wx=>fE w q P 333 #[.string q.lease.job,.string q.lease.node,.int .i64 q.lease.till] wx) () (H0.next (Below.refl _ _).drew) ?_ ?_
 · refine⟨?_,?_,?_,?_,?_,?_,?_,trivial⟩
   · exact ok0 0 0 1 rfl fun _=>rfl
   · refine okQ 0 0 fun p γ a wx _ _ hp hk=>?_
     obtain⟨u1,h1,rfl⟩:=hk.g 0 10 rfl rfl
     have hc0:wx.cell? ⟨w.heap.size,0,none⟩=some (.int .i64 q.kind):=hp.qb.cell 0
     simp [go_sem,Oper.wp,execOp,Act.eval,h1,hc0]
     exact⟨_,rfl,rfl,hp⟩
   · exact ok0 0 0 3 rfl fun _=>rfl
   · refine okQ 0 0 fun p γ a wx _ _ hp hk=>?_
     obtain⟨u1,h1,rfl⟩:=hk.g 1 11 rfl rfl
     obtain⟨u2,h2,rfl⟩:=hk.g 2 12 rfl rfl
     simp [go_sem,Oper.wp,execOp,Act.eval,h1,h2]
     refine (HWh.out wx hp).mono ?_
     rintro e w' ⟨rfl,hb⟩
     exact⟨_,rfl,rfl,hp.next hb⟩
   · refine okQ 0 0 fun p γ a wx _ _ hp hk=>?_
     have h1:=hk.k 1 rfl
     obtain⟨hc0,hc1,hc2,hc3,hc4,hc5,hc6,hc7,hc8,hc9,mq,mA,mB,mC⟩:=Blk.c14 (hp.qb)
     simp [go_sem,Oper.wp,execOp,Act.eval,h1,hc0,hc1,hc2,hc3,hc4,hc5,hc6,hc7,hc8,hc9,mq,mA,mB,mC]
     exact⟨_,rfl,rfl,hp⟩
   · refine okQ 0 0 fun p γ a wx _ _ hp hk=>?_
     obtain⟨u1,h1,rfl⟩:=hk.g 3 13 rfl rfl
     obtain⟨u2,h2,rfl⟩:=hk.g 4 14 rfl rfl
     simp [go_sem,Oper.wp,execOp,Act.eval,h1,h2,hrun]
     exact⟨_,rfl,rfl,hp⟩
   · exact ok1 0 0 5 15 rfl rfl (fun _ _ h=>h) fun _=>rfl
 intro γ a wy hd
 have H1:=hid hd.ph
 obtain⟨fv,rfl,hfv⟩:=hd.frame [10,11,12,13,14,15,9] rfl
 have h9:fv 9 = .bool (!t):=hfv 6 _ 9 rfl rfl
 clear hd hfv H0 HWh hrun jG
 simp only [foldl_cons,foldl_nil,setIfInBounds_toArray,set_cons_succ,set_cons_zero,h9]
 clear h9
 cases t
 · have hE:bK q=4:=HRe.out.1 (fun h=>by have:=Ht.out.2 h; cases this)
   obtain rfl:(4:Int)=E0:=hE.symm.trans HE0.out
   have aV:=hid (show bG 4 w (.returned (.int .i64 4)) wy from ⟨rfl,H1.out.below⟩)
   clear hE HRe HPe Ht HE0
   go_wp2
   go_ret
   exact aV.out
 · have hE:bK q=cN q:=HRe.out.2 (Ht.out.1 rfl)
   have HK:=hid (xI q.lease P wy H1.out.pb hok.l1 hok.l2 (hT.below H1.out.below))
   obtain⟨E,hEE⟩:∃ E:Int,(lsE q.lease)=E:=⟨_,rfl⟩
   rw [hEE] at HK
   obtain rfl:E=E0:=(hEE.symm.trans (HPe.out.symm.trans hE.symm)).trans HE0.out
   clear hEE hE HPe HRe HE0
   have hm : ∀ w, (method 606 331 (.pointer (some ⟨P, 0, none⟩)) "bracken/req.check").run Tryz.prog w = .ok (474, .pointer (some ⟨P, 0, none⟩)) w := fun _ => by kernel_rfl
   go_wp2_with fail
   refine Calls.mono HK.out ?_
   rintro e w5 ⟨rfl,hb5⟩
   have HB:=hid (H1.out.below.trans (hb5.mono H1.out.below.size))
   have aV:=hid (show bG E w (.returned (.int .i64 E)) w5 from ⟨rfl,HB.out⟩)
   clear hb5 HK H1 HB
   go_wp2
   go_ret
   exact aV.out
def xL (B P:Nat) (q:aH) (t:Bool):Nat→Value→Prop
 | 0,u=>u = .pointer (some ⟨B,0,none⟩)
 | 1,u=>u = .int .i64 q.kind
 | 2,u=>u = .iface 335 (.pointer (some ⟨P,0,none⟩))
 | 3,u=>u = .agg #[.int .i64 q.kind,.string ⟨#[]⟩,.int .i64 0,.int .i64 0,.int .i64 0,.string ⟨#[]⟩,.string ⟨#[]⟩,.int .i64 0,.string ⟨#[]⟩,.string ⟨#[]⟩,.string ⟨#[]⟩,.int .i64 0,.string q.name,.int .i64 0]
 | 4,u=>u = .agg #[.int .i64 q.kind,.string q.job.name,.int .i64 q.job.prio,.int .i64 q.job.need,.int .i64 q.job.tries,.string q.job.tag,.string q.node.name,.int .i64 q.node.room,.string q.node.zone,.string q.lease.job,.string q.lease.node,.int .i64 q.lease.till,.string q.name,.int .i64 q.n]
 | 5,u=>u = .bool (!t)
 | 6,u=>u = .bool (!t)
 | _,_=>False
theorem ES (q:aH) (w:World) (hq:q.kind=3) (hok:ROk q) (hT:Tabs w):Calls Tryz.prog 44 #[bP q] w (bG (bK q) w):=by
 obtain⟨W,hW⟩:∃ W,w.alloc (.cells (aB q) 40)=W:=⟨_,rfl⟩
 have hb:Blk W w.heap.size 40 (aB q):=by rw [← hW]; exact heap_alloc_new w _
 have hbW:Below w.heap.size w W:=by rw [← hW]; exact (Below.refl _ _).alloc (Nat.le_refl _) _
 have HPt:=hid (Ih q W hq)
 have how:kB q=⟨q.kind,bZ,aU,aI,q.name,0⟩:=by unfold kB; simp [hq]
 have hpe:cN q=if bQ q.name=true then 0 else 4:=by unfold cN; simp [hq]
 have hre:((⟨q.kind,bZ,aU,aI,q.name,0⟩:aH)≠q→bK q=4)∧((⟨q.kind,bZ,aU,aI,q.name,0⟩:aH)=q→bK q=cN q):=by
  unfold bK
  rw [how,if_neg (by rw [hq]; decide)]
  exact⟨fun h=>if_pos h,fun h=>if_neg (fun h'=>h' h)⟩
 obtain⟨t,ht,fQ⟩:=iY ⟨q.kind,bZ,aU,aI,q.name,0⟩ q
 have hrun:∀ W,(binOp .neq 40 (.agg #[.int .i64 q.kind,.string ⟨#[]⟩,.int .i64 0,.int .i64 0,.int .i64 0,.string ⟨#[]⟩,.string ⟨#[]⟩,.int .i64 0,.string ⟨#[]⟩,.string ⟨#[]⟩,.string ⟨#[]⟩,.int .i64 0,.string q.name,.int .i64 0]) (.agg (mg q))).run Tryz.prog W = .ok (.bool (!t)) W:=fQ
 clear fQ how
 have h14:=hb
 obtain⟨c0,c1,c2,c3,c4,c5,c6,c7,c8,c9,c10,c11,c12,c13⟩:=Blk.c14 (hb)
 have hlt:=hb.lt
 have Hq:=hid hb
 have HbW:=hid hbW
 have HRe:=hid hre
 have HPe:=hid hpe
 have Ht:=hid ht
 have jG:=hid hrun
 have HW:=hid hW
 clear hb hbW hre hpe ht hrun hW h14
 obtain⟨E0,hE0⟩:∃ E0,bK q=E0:=⟨_,rfl⟩
 rw [hE0]
 have HE0:=hid hE0
 clear hE0
 unfold bP at HPt ⊢
 unfold aB at HPt ⊢
 unfold aB at HW
 clear hq
 have hn:∀ (w:World) (a:Addr),(binOp .eql 225 (.iface 335 (.pointer (some a))) .nilIface).run Tryz.prog w = .ok (.bool false) w:=fun _ _=>rfl
 go_enter Tryz.func44,Tryz.ntmps44
 go_wp2_with fail
 try simp only [HW.out]
 clear HW
 refine Calls.mono HPt.out ?_
 rintro e w1 ⟨P,rfl,hP,hpb,hb1⟩
 have H0:fE w q P 334 #[.string q.name] w1:=⟨Hq.out.below hb1 Hq.out.lt,hpb,HbW.out.trans (hb1.mono HbW.out.size)⟩
 have HWh:=hid (fun (wx:World) (hp:fE w q P 334 #[.string q.name] wx)=>pE q P wx hp.pb)
 clear hP hpb hb1 HPt c0 c1 c2 c3 c4 c5 c6 c7 c8 c9 c10 c11 c12 c13 hlt
 go_wp2_with fail
 have hrun:=jG.out
 refine rq (Γ:=Unit) 18 (fun _=>xL w.heap.size P q t) [] (fun _ _ wx=>fE w q P 334 #[.string q.name] wx) () (H0.next (Below.refl _ _).drew) ?_ ?_
 · refine⟨?_,?_,?_,?_,?_,?_,?_,trivial⟩
   · exact ok0 0 0 1 rfl fun _=>rfl
   · refine okQ 0 0 fun p γ a wx _ _ hp hk=>?_
     obtain⟨u1,h1,rfl⟩:=hk.g 0 10 rfl rfl
     have hc0:wx.cell? ⟨w.heap.size,0,none⟩=some (.int .i64 q.kind):=hp.qb.cell 0
     simp [go_sem,Oper.wp,execOp,Act.eval,h1,hc0]
     exact⟨_,rfl,rfl,hp⟩
   · exact ok0 0 0 3 rfl fun _=>rfl
   · refine okQ 0 0 fun p γ a wx _ _ hp hk=>?_
     obtain⟨u1,h1,rfl⟩:=hk.g 1 11 rfl rfl
     obtain⟨u2,h2,rfl⟩:=hk.g 2 12 rfl rfl
     simp [go_sem,Oper.wp,execOp,Act.eval,h1,h2]
     refine (HWh.out wx hp).mono ?_
     rintro e w' ⟨rfl,hb⟩
     exact⟨_,rfl,rfl,hp.next hb⟩
   · refine okQ 0 0 fun p γ a wx _ _ hp hk=>?_
     have h1:=hk.k 1 rfl
     obtain⟨hc0,hc1,hc2,hc3,hc4,hc5,hc6,hc7,hc8,hc9,mq,mA,mB,mC⟩:=Blk.c14 (hp.qb)
     simp [go_sem,Oper.wp,execOp,Act.eval,h1,hc0,hc1,hc2,hc3,hc4,hc5,hc6,hc7,hc8,hc9,mq,mA,mB,mC]
     exact⟨_,rfl,rfl,hp⟩
   · refine okQ 0 0 fun p γ a wx _ _ hp hk=>?_
     obtain⟨u1,h1,rfl⟩:=hk.g 3 13 rfl rfl
     obtain⟨u2,h2,rfl⟩:=hk.g 4 14 rfl rfl
     simp [go_sem,Oper.wp,execOp,Act.eval,h1,h2,hrun]
     exact⟨_,rfl,rfl,hp⟩
   · exact ok1 0 0 5 15 rfl rfl (fun _ _ h=>h) fun _=>rfl
 intro γ a wy hd
 have H1:=hid hd.ph
 obtain⟨fv,rfl,hfv⟩:=hd.frame [10,11,12,13,14,15,9] rfl
 have h9:fv 9 = .bool (!t):=hfv 6 _ 9 rfl rfl
 clear hd hfv H0 HWh hrun jG
 simp only [foldl_cons,foldl_nil,setIfInBounds_toArray,set_cons_succ,set_cons_zero,h9]
 clear h9
 cases t
 · have hE:bK q=4:=HRe.out.1 (fun h=>by have:=Ht.out.2 h; cases this)
   obtain rfl:(4:Int)=E0:=hE.symm.trans HE0.out
   have aV:=hid (show bG 4 w (.returned (.int .i64 4)) wy from ⟨rfl,H1.out.below⟩)
   clear hE HRe HPe Ht HE0
   go_wp2
   go_ret
   exact aV.out
 · have hE:bK q=cN q:=HRe.out.2 (Ht.out.1 rfl)
   have HK:=hid (nQ q.name P wy H1.out.pb hok.s (hT.below H1.out.below))
   obtain⟨E,hEE⟩:∃ E:Int,(if bQ q.name=true then 0 else 4)=E:=⟨_,rfl⟩
   rw [hEE] at HK
   obtain rfl:E=E0:=(hEE.symm.trans (HPe.out.symm.trans hE.symm)).trans HE0.out
   clear hEE hE HPe HRe HE0
   have hm : ∀ w, (method 606 335 (.pointer (some ⟨P, 0, none⟩)) "bracken/req.check").run Tryz.prog w = .ok (478, .pointer (some ⟨P, 0, none⟩)) w := fun _ => by kernel_rfl
   go_wp2_with fail
   refine Calls.mono HK.out ?_
   rintro e w5 ⟨rfl,hb5⟩
   have HB:=hid (H1.out.below.trans (hb5.mono H1.out.below.size))
   have aV:=hid (show bG E w (.returned (.int .i64 E)) w5 from ⟨rfl,HB.out⟩)
   clear hb5 HK H1 HB
   go_wp2
   go_ret
   exact aV.out
theorem ET (q:aH) (w:World) (hq:q.kind=4) (hok:ROk q) (hT:Tabs w):Calls Tryz.prog 44 #[bP q] w (bG (bK q) w):=by
 obtain⟨W,hW⟩:∃ W,w.alloc (.cells (aB q) 40)=W:=⟨_,rfl⟩
 have hb:Blk W w.heap.size 40 (aB q):=by rw [← hW]; exact heap_alloc_new w _
 have hbW:Below w.heap.size w W:=by rw [← hW]; exact (Below.refl _ _).alloc (Nat.le_refl _) _
 have HPt:=hid (Ii q W hq)
 have how:kB q=⟨q.kind,bZ,aU,aI,q.name,0⟩:=by unfold kB; simp [hq]
 have hpe:cN q=if bQ q.name=true then 0 else 4:=by unfold cN; simp [hq]
 have hre:((⟨q.kind,bZ,aU,aI,q.name,0⟩:aH)≠q→bK q=4)∧((⟨q.kind,bZ,aU,aI,q.name,0⟩:aH)=q→bK q=cN q):=by
  unfold bK
  rw [how,if_neg (by rw [hq]; decide)]
  exact⟨fun h=>if_pos h,fun h=>if_neg (fun h'=>h' h)⟩
 obtain⟨t,ht,fQ⟩:=iY ⟨q.kind,bZ,aU,aI,q.name,0⟩ q
 have hrun:∀ W,(binOp .neq 40 (.agg #[.int .i64 q.kind,.string ⟨#[]⟩,.int .i64 0,.int .i64 0,.int .i64 0,.string ⟨#[]⟩,.string ⟨#[]⟩,.int .i64 0,.string ⟨#[]⟩,.string ⟨#[]⟩,.string ⟨#[]⟩,.int .i64 0,.string q.name,.int .i64 0]) (.agg (mg q))).run Tryz.prog W = .ok (.bool (!t)) W:=fQ
 clear fQ how
 have h14:=hb
 obtain⟨c0,c1,c2,c3,c4,c5,c6,c7,c8,c9,c10,c11,c12,c13⟩:=Blk.c14 (hb)
 have hlt:=hb.lt
 have Hq:=hid hb
 have HbW:=hid hbW
 have HRe:=hid hre
 have HPe:=hid hpe
 have Ht:=hid ht
 have jG:=hid hrun
 have HW:=hid hW
 clear hb hbW hre hpe ht hrun hW h14
 obtain⟨E0,hE0⟩:∃ E0,bK q=E0:=⟨_,rfl⟩
 rw [hE0]
 have HE0:=hid hE0
 clear hE0
 unfold bP at HPt ⊢
 unfold aB at HPt ⊢
 unfold aB at HW
 clear hq
 have hn:∀ (w:World) (a:Addr),(binOp .eql 225 (.iface 335 (.pointer (some a))) .nilIface).run Tryz.prog w = .ok (.bool false) w:=fun _ _=>rfl
 go_enter Tryz.func44,Tryz.ntmps44
 go_wp2_with fail
 try simp only [HW.out]
 clear HW
 refine Calls.mono HPt.out ?_
 rintro e w1 ⟨P,rfl,hP,hpb,hb1⟩
 have H0:fE w q P 334 #[.string q.name] w1:=⟨Hq.out.below hb1 Hq.out.lt,hpb,HbW.out.trans (hb1.mono HbW.out.size)⟩
 have HWh:=hid (fun (wx:World) (hp:fE w q P 334 #[.string q.name] wx)=>pE q P wx hp.pb)
 clear hP hpb hb1 HPt c0 c1 c2 c3 c4 c5 c6 c7 c8 c9 c10 c11 c12 c13 hlt
 go_wp2_with fail
 have hrun:=jG.out
 refine rq (Γ:=Unit) 18 (fun _=>xL w.heap.size P q t) [] (fun _ _ wx=>fE w q P 334 #[.string q.name] wx) () (H0.next (Below.refl _ _).drew) ?_ ?_
 · refine⟨?_,?_,?_,?_,?_,?_,?_,trivial⟩
   · exact ok0 0 0 1 rfl fun _=>rfl
   · refine okQ 0 0 fun p γ a wx _ _ hp hk=>?_
     obtain⟨u1,h1,rfl⟩:=hk.g 0 10 rfl rfl
     have hc0:wx.cell? ⟨w.heap.size,0,none⟩=some (.int .i64 q.kind):=hp.qb.cell 0
     simp [go_sem,Oper.wp,execOp,Act.eval,h1,hc0]
     exact⟨_,rfl,rfl,hp⟩
   · exact ok0 0 0 3 rfl fun _=>rfl
   · refine okQ 0 0 fun p γ a wx _ _ hp hk=>?_
     obtain⟨u1,h1,rfl⟩:=hk.g 1 11 rfl rfl
     obtain⟨u2,h2,rfl⟩:=hk.g 2 12 rfl rfl
     simp [go_sem,Oper.wp,execOp,Act.eval,h1,h2]
     refine (HWh.out wx hp).mono ?_
     rintro e w' ⟨rfl,hb⟩
     exact⟨_,rfl,rfl,hp.next hb⟩
   · refine okQ 0 0 fun p γ a wx _ _ hp hk=>?_
     have h1:=hk.k 1 rfl
     obtain⟨hc0,hc1,hc2,hc3,hc4,hc5,hc6,hc7,hc8,hc9,mq,mA,mB,mC⟩:=Blk.c14 (hp.qb)
     simp [go_sem,Oper.wp,execOp,Act.eval,h1,hc0,hc1,hc2,hc3,hc4,hc5,hc6,hc7,hc8,hc9,mq,mA,mB,mC]
     exact⟨_,rfl,rfl,hp⟩
   · refine okQ 0 0 fun p γ a wx _ _ hp hk=>?_
     obtain⟨u1,h1,rfl⟩:=hk.g 3 13 rfl rfl
     obtain⟨u2,h2,rfl⟩:=hk.g 4 14 rfl rfl
     simp [go_sem,Oper.wp,execOp,Act.eval,h1,h2,hrun]
     exact⟨_,rfl,rfl,hp⟩
   · exact ok1 0 0 5 15 rfl rfl (fun _ _ h=>h) fun _=>rfl
 intro γ a wy hd
 have H1:=hid hd.ph
 obtain⟨fv,rfl,hfv⟩:=hd.frame [10,11,12,13,14,15,9] rfl
 have h9:fv 9 = .bool (!t):=hfv 6 _ 9 rfl rfl
 clear hd hfv H0 HWh hrun jG
 simp only [foldl_cons,foldl_nil,setIfInBounds_toArray,set_cons_succ,set_cons_zero,h9]
 clear h9
 cases t
 · have hE:bK q=4:=HRe.out.1 (fun h=>by have:=Ht.out.2 h; cases this)
   obtain rfl:(4:Int)=E0:=hE.symm.trans HE0.out
   have aV:=hid (show bG 4 w (.returned (.int .i64 4)) wy from ⟨rfl,H1.out.below⟩)
   clear hE HRe HPe Ht HE0
   go_wp2
   go_ret
   exact aV.out
 · have hE:bK q=cN q:=HRe.out.2 (Ht.out.1 rfl)
   have HK:=hid (nQ q.name P wy H1.out.pb hok.s (hT.below H1.out.below))
   obtain⟨E,hEE⟩:∃ E:Int,(if bQ q.name=true then 0 else 4)=E:=⟨_,rfl⟩
   rw [hEE] at HK
   obtain rfl:E=E0:=(hEE.symm.trans (HPe.out.symm.trans hE.symm)).trans HE0.out
   clear hEE hE HPe HRe HE0
   have hm : ∀ w, (method 606 335 (.pointer (some ⟨P, 0, none⟩)) "bracken/req.check").run Tryz.prog w = .ok (478, .pointer (some ⟨P, 0, none⟩)) w := fun _ => by kernel_rfl
   go_wp2_with fail
   refine Calls.mono HK.out ?_
   rintro e w5 ⟨rfl,hb5⟩
   have HB:=hid (H1.out.below.trans (hb5.mono H1.out.below.size))
   have aV:=hid (show bG E w (.returned (.int .i64 E)) w5 from ⟨rfl,HB.out⟩)
   clear hb5 HK H1 HB
   go_wp2
   go_ret
   exact aV.out
theorem EU (q:aH) (w:World) (hq:q.kind=6) (hok:ROk q) (hT:Tabs w):Calls Tryz.prog 44 #[bP q] w (bG (bK q) w):=by
 obtain⟨W,hW⟩:∃ W,w.alloc (.cells (aB q) 40)=W:=⟨_,rfl⟩
 have hb:Blk W w.heap.size 40 (aB q):=by rw [← hW]; exact heap_alloc_new w _
 have hbW:Below w.heap.size w W:=by rw [← hW]; exact (Below.refl _ _).alloc (Nat.le_refl _) _
 have HPt:=hid (Ij q W hq)
 have how:kB q=⟨q.kind,bZ,aU,aI,q.name,0⟩:=by unfold kB; simp [hq]
 have hpe:cN q=if bQ q.name=true then 0 else 4:=by unfold cN; simp [hq]
 have hre:((⟨q.kind,bZ,aU,aI,q.name,0⟩:aH)≠q→bK q=4)∧((⟨q.kind,bZ,aU,aI,q.name,0⟩:aH)=q→bK q=cN q):=by
  unfold bK
  rw [how,if_neg (by rw [hq]; decide)]
  exact⟨fun h=>if_pos h,fun h=>if_neg (fun h'=>h' h)⟩
 obtain⟨t,ht,fQ⟩:=iY ⟨q.kind,bZ,aU,aI,q.name,0⟩ q
 have hrun:∀ W,(binOp .neq 40 (.agg #[.int .i64 q.kind,.string ⟨#[]⟩,.int .i64 0,.int .i64 0,.int .i64 0,.string ⟨#[]⟩,.string ⟨#[]⟩,.int .i64 0,.string ⟨#[]⟩,.string ⟨#[]⟩,.string ⟨#[]⟩,.int .i64 0,.string q.name,.int .i64 0]) (.agg (mg q))).run Tryz.prog W = .ok (.bool (!t)) W:=fQ
 clear fQ how
 have h14:=hb
 obtain⟨c0,c1,c2,c3,c4,c5,c6,c7,c8,c9,c10,c11,c12,c13⟩:=Blk.c14 (hb)
 have hlt:=hb.lt
 have Hq:=hid hb
 have HbW:=hid hbW
 have HRe:=hid hre
 have HPe:=hid hpe
 have Ht:=hid ht
 have jG:=hid hrun
 have HW:=hid hW
 clear hb hbW hre hpe ht hrun hW h14
 obtain⟨E0,hE0⟩:∃ E0,bK q=E0:=⟨_,rfl⟩
 rw [hE0]
 have HE0:=hid hE0
 clear hE0
 unfold bP at HPt ⊢
 unfold aB at HPt ⊢
 unfold aB at HW
 clear hq
 have hn:∀ (w:World) (a:Addr),(binOp .eql 225 (.iface 335 (.pointer (some a))) .nilIface).run Tryz.prog w = .ok (.bool false) w:=fun _ _=>rfl
 go_enter Tryz.func44,Tryz.ntmps44
 go_wp2_with fail
 try simp only [HW.out]
 clear HW
 refine Calls.mono HPt.out ?_
 rintro e w1 ⟨P,rfl,hP,hpb,hb1⟩
 have H0:fE w q P 334 #[.string q.name] w1:=⟨Hq.out.below hb1 Hq.out.lt,hpb,HbW.out.trans (hb1.mono HbW.out.size)⟩
 have HWh:=hid (fun (wx:World) (hp:fE w q P 334 #[.string q.name] wx)=>pE q P wx hp.pb)
 clear hP hpb hb1 HPt c0 c1 c2 c3 c4 c5 c6 c7 c8 c9 c10 c11 c12 c13 hlt
 go_wp2_with fail
 have hrun:=jG.out
 refine rq (Γ:=Unit) 18 (fun _=>xL w.heap.size P q t) [] (fun _ _ wx=>fE w q P 334 #[.string q.name] wx) () (H0.next (Below.refl _ _).drew) ?_ ?_
 · refine⟨?_,?_,?_,?_,?_,?_,?_,trivial⟩
   · exact ok0 0 0 1 rfl fun _=>rfl
   · refine okQ 0 0 fun p γ a wx _ _ hp hk=>?_
     obtain⟨u1,h1,rfl⟩:=hk.g 0 10 rfl rfl
     have hc0:wx.cell? ⟨w.heap.size,0,none⟩=some (.int .i64 q.kind):=hp.qb.cell 0
     simp [go_sem,Oper.wp,execOp,Act.eval,h1,hc0]
     exact⟨_,rfl,rfl,hp⟩
   · exact ok0 0 0 3 rfl fun _=>rfl
   · refine okQ 0 0 fun p γ a wx _ _ hp hk=>?_
     obtain⟨u1,h1,rfl⟩:=hk.g 1 11 rfl rfl
     obtain⟨u2,h2,rfl⟩:=hk.g 2 12 rfl rfl
     simp [go_sem,Oper.wp,execOp,Act.eval,h1,h2]
     refine (HWh.out wx hp).mono ?_
     rintro e w' ⟨rfl,hb⟩
     exact⟨_,rfl,rfl,hp.next hb⟩
   · refine okQ 0 0 fun p γ a wx _ _ hp hk=>?_
     have h1:=hk.k 1 rfl
     obtain⟨hc0,hc1,hc2,hc3,hc4,hc5,hc6,hc7,hc8,hc9,mq,mA,mB,mC⟩:=Blk.c14 (hp.qb)
     simp [go_sem,Oper.wp,execOp,Act.eval,h1,hc0,hc1,hc2,hc3,hc4,hc5,hc6,hc7,hc8,hc9,mq,mA,mB,mC]
     exact⟨_,rfl,rfl,hp⟩
   · refine okQ 0 0 fun p γ a wx _ _ hp hk=>?_
     obtain⟨u1,h1,rfl⟩:=hk.g 3 13 rfl rfl
     obtain⟨u2,h2,rfl⟩:=hk.g 4 14 rfl rfl
     simp [go_sem,Oper.wp,execOp,Act.eval,h1,h2,hrun]
     exact⟨_,rfl,rfl,hp⟩
   · exact ok1 0 0 5 15 rfl rfl (fun _ _ h=>h) fun _=>rfl
 intro γ a wy hd
 have H1:=hid hd.ph
 obtain⟨fv,rfl,hfv⟩:=hd.frame [10,11,12,13,14,15,9] rfl
 have h9:fv 9 = .bool (!t):=hfv 6 _ 9 rfl rfl
 clear hd hfv H0 HWh hrun jG
 simp only [foldl_cons,foldl_nil,setIfInBounds_toArray,set_cons_succ,set_cons_zero,h9]
 clear h9
 cases t
 · have hE:bK q=4:=HRe.out.1 (fun h=>by have:=Ht.out.2 h; cases this)
   obtain rfl:(4:Int)=E0:=hE.symm.trans HE0.out
   have aV:=hid (show bG 4 w (.returned (.int .i64 4)) wy from ⟨rfl,H1.out.below⟩)
   clear hE HRe HPe Ht HE0
   go_wp2
   go_ret
   exact aV.out
 · have hE:bK q=cN q:=HRe.out.2 (Ht.out.1 rfl)
   have HK:=hid (nQ q.name P wy H1.out.pb hok.s (hT.below H1.out.below))
   obtain⟨E,hEE⟩:∃ E:Int,(if bQ q.name=true then 0 else 4)=E:=⟨_,rfl⟩
   rw [hEE] at HK
   obtain rfl:E=E0:=(hEE.symm.trans (HPe.out.symm.trans hE.symm)).trans HE0.out
   clear hEE hE HPe HRe HE0
   have hm : ∀ w, (method 606 335 (.pointer (some ⟨P, 0, none⟩)) "bracken/req.check").run Tryz.prog w = .ok (478, .pointer (some ⟨P, 0, none⟩)) w := fun _ => by kernel_rfl
   go_wp2_with fail
   refine Calls.mono HK.out ?_
   rintro e w5 ⟨rfl,hb5⟩
   have HB:=hid (H1.out.below.trans (hb5.mono H1.out.below.size))
   have aV:=hid (show bG E w (.returned (.int .i64 E)) w5 from ⟨rfl,HB.out⟩)
   clear hb5 HK H1 HB
   go_wp2
   go_ret
   exact aV.out
def EV (B P:Nat) (q:aH) (t:Bool):Nat→Value→Prop
 | 0,u=>u = .pointer (some ⟨B,0,none⟩)
 | 1,u=>u = .int .i64 q.kind
 | 2,u=>u = .iface 337 (.pointer (some ⟨P,0,none⟩))
 | 3,u=>u = .agg #[.int .i64 q.kind,.string ⟨#[]⟩,.int .i64 0,.int .i64 0,.int .i64 0,.string ⟨#[]⟩,.string ⟨#[]⟩,.int .i64 0,.string ⟨#[]⟩,.string ⟨#[]⟩,.string ⟨#[]⟩,.int .i64 0,.string ⟨#[]⟩,.int .i64 q.n]
 | 4,u=>u = .agg #[.int .i64 q.kind,.string q.job.name,.int .i64 q.job.prio,.int .i64 q.job.need,.int .i64 q.job.tries,.string q.job.tag,.string q.node.name,.int .i64 q.node.room,.string q.node.zone,.string q.lease.job,.string q.lease.node,.int .i64 q.lease.till,.string q.name,.int .i64 q.n]
 | 5,u=>u = .bool (!t)
 | 6,u=>u = .bool (!t)
 | _,_=>False
theorem EW (q:aH) (w:World) (hq:q.kind=7) (hok:ROk q) (hT:Tabs w):Calls Tryz.prog 44 #[bP q] w (bG (bK q) w):=by
 obtain⟨W,hW⟩:∃ W,w.alloc (.cells (aB q) 40)=W:=⟨_,rfl⟩
 have hb:Blk W w.heap.size 40 (aB q):=by rw [← hW]; exact heap_alloc_new w _
 have hbW:Below w.heap.size w W:=by rw [← hW]; exact (Below.refl _ _).alloc (Nat.le_refl _) _
 have HPt:=hid (Ik q W hq)
 have how:kB q=⟨q.kind,bZ,aU,aI,⟨#[]⟩,q.n⟩:=by unfold kB; simp [hq]
 have hpe:cN q=if ranged q.n 0 1099511627776=true then 0 else 1:=by unfold cN; simp [hq]
 have hre:((⟨q.kind,bZ,aU,aI,⟨#[]⟩,q.n⟩:aH)≠q→bK q=4)∧((⟨q.kind,bZ,aU,aI,⟨#[]⟩,q.n⟩:aH)=q→bK q=cN q):=by
  unfold bK
  rw [how,if_neg (by rw [hq]; decide)]
  exact⟨fun h=>if_pos h,fun h=>if_neg (fun h'=>h' h)⟩
 obtain⟨t,ht,fQ⟩:=iY ⟨q.kind,bZ,aU,aI,⟨#[]⟩,q.n⟩ q
 have hrun:∀ W,(binOp .neq 40 (.agg #[.int .i64 q.kind,.string ⟨#[]⟩,.int .i64 0,.int .i64 0,.int .i64 0,.string ⟨#[]⟩,.string ⟨#[]⟩,.int .i64 0,.string ⟨#[]⟩,.string ⟨#[]⟩,.string ⟨#[]⟩,.int .i64 0,.string ⟨#[]⟩,.int .i64 q.n]) (.agg (mg q))).run Tryz.prog W = .ok (.bool (!t)) W:=fQ
 clear fQ how
 have h14:=hb
 obtain⟨c0,c1,c2,c3,c4,c5,c6,c7,c8,c9,c10,c11,c12,c13⟩:=Blk.c14 (hb)
 have hlt:=hb.lt
 have Hq:=hid hb
 have HbW:=hid hbW
 have HRe:=hid hre
 have HPe:=hid hpe
 have Ht:=hid ht
 have jG:=hid hrun
 have HW:=hid hW
 clear hb hbW hre hpe ht hrun hW h14
 obtain⟨E0,hE0⟩:∃ E0,bK q=E0:=⟨_,rfl⟩
 rw [hE0]
 have HE0:=hid hE0
 clear hE0
 unfold bP at HPt ⊢
 unfold aB at HPt ⊢
 unfold aB at HW
 clear hq
 have hn:∀ (w:World) (a:Addr),(binOp .eql 225 (.iface 337 (.pointer (some a))) .nilIface).run Tryz.prog w = .ok (.bool false) w:=fun _ _=>rfl
 go_enter Tryz.func44,Tryz.ntmps44
 go_wp2_with fail
 try simp only [HW.out]
 clear HW
 refine Calls.mono HPt.out ?_
 rintro e w1 ⟨P,rfl,hP,hpb,hb1⟩
 have H0:fE w q P 336 #[.int .i64 q.n] w1:=⟨Hq.out.below hb1 Hq.out.lt,hpb,HbW.out.trans (hb1.mono HbW.out.size)⟩
 have HWh:=hid (fun (wx:World) (hp:fE w q P 336 #[.int .i64 q.n] wx)=>zG q P wx hp.pb)
 clear hP hpb hb1 HPt c0 c1 c2 c3 c4 c5 c6 c7 c8 c9 c10 c11 c12 c13 hlt
 go_wp2_with fail
 have hrun:=jG.out
 refine rq (Γ:=Unit) 18 (fun _=>EV w.heap.size P q t) [] (fun _ _ wx=>fE w q P 336 #[.int .i64 q.n] wx) () (H0.next (Below.refl _ _).drew) ?_ ?_
 · refine⟨?_,?_,?_,?_,?_,?_,?_,trivial⟩
   · exact ok0 0 0 1 rfl fun _=>rfl
   · refine okQ 0 0 fun p γ a wx _ _ hp hk=>?_
     obtain⟨u1,h1,rfl⟩:=hk.g 0 10 rfl rfl
     have hc0:wx.cell? ⟨w.heap.size,0,none⟩=some (.int .i64 q.kind):=hp.qb.cell 0
     simp [go_sem,Oper.wp,execOp,Act.eval,h1,hc0]
     exact⟨_,rfl,rfl,hp⟩
   · exact ok0 0 0 3 rfl fun _=>rfl
   · refine okQ 0 0 fun p γ a wx _ _ hp hk=>?_
     obtain⟨u1,h1,rfl⟩:=hk.g 1 11 rfl rfl
     obtain⟨u2,h2,rfl⟩:=hk.g 2 12 rfl rfl
     simp [go_sem,Oper.wp,execOp,Act.eval,h1,h2]
     refine (HWh.out wx hp).mono ?_
     rintro e w' ⟨rfl,hb⟩
     exact⟨_,rfl,rfl,hp.next hb⟩
   · refine okQ 0 0 fun p γ a wx _ _ hp hk=>?_
     have h1:=hk.k 1 rfl
     obtain⟨hc0,hc1,hc2,hc3,hc4,hc5,hc6,hc7,hc8,hc9,mq,mA,mB,mC⟩:=Blk.c14 (hp.qb)
     simp [go_sem,Oper.wp,execOp,Act.eval,h1,hc0,hc1,hc2,hc3,hc4,hc5,hc6,hc7,hc8,hc9,mq,mA,mB,mC]
     exact⟨_,rfl,rfl,hp⟩
   · refine okQ 0 0 fun p γ a wx _ _ hp hk=>?_
     obtain⟨u1,h1,rfl⟩:=hk.g 3 13 rfl rfl
     obtain⟨u2,h2,rfl⟩:=hk.g 4 14 rfl rfl
     simp [go_sem,Oper.wp,execOp,Act.eval,h1,h2,hrun]
     exact⟨_,rfl,rfl,hp⟩
   · exact ok1 0 0 5 15 rfl rfl (fun _ _ h=>h) fun _=>rfl
 intro γ a wy hd
 have H1:=hid hd.ph
 obtain⟨fv,rfl,hfv⟩:=hd.frame [10,11,12,13,14,15,9] rfl
 have h9:fv 9 = .bool (!t):=hfv 6 _ 9 rfl rfl
 clear hd hfv H0 HWh hrun jG
 simp only [foldl_cons,foldl_nil,setIfInBounds_toArray,set_cons_succ,set_cons_zero,h9]
 clear h9
 cases t
 · have hE:bK q=4:=HRe.out.1 (fun h=>by have:=Ht.out.2 h; cases this)
   obtain rfl:(4:Int)=E0:=hE.symm.trans HE0.out
   have aV:=hid (show bG 4 w (.returned (.int .i64 4)) wy from ⟨rfl,H1.out.below⟩)
   clear hE HRe HPe Ht HE0
   go_wp2
   go_ret
   exact aV.out
 · have hE:bK q=cN q:=HRe.out.2 (Ht.out.1 rfl)
   have HK:=hid (xH q.n P wy H1.out.pb)
   obtain⟨E,hEE⟩:∃ E:Int,(if ranged q.n 0 1099511627776=true then 0 else 1)=E:=⟨_,rfl⟩
   rw [hEE] at HK
   obtain rfl:E=E0:=(hEE.symm.trans (HPe.out.symm.trans hE.symm)).trans HE0.out
   clear hEE hE HPe HRe HE0
   have hm : ∀ w, (method 606 337 (.pointer (some ⟨P, 0, none⟩)) "bracken/req.check").run Tryz.prog w = .ok (482, .pointer (some ⟨P, 0, none⟩)) w := fun _ => by kernel_rfl
   go_wp2_with fail
   refine Calls.mono HK.out ?_
   rintro e w5 ⟨rfl,hb5⟩
   have HB:=hid (H1.out.below.trans (hb5.mono H1.out.below.size))
   have aV:=hid (show bG E w (.returned (.int .i64 E)) w5 from ⟨rfl,HB.out⟩)
   clear hb5 HK H1 HB
   go_wp2
   go_ret
   exact aV.out
end Go.Proofs.YtoeejfhdjmkpcaaGreatDoor
