/- Of the proof of a statement: RRc. -/
import Derived.Test.YtimglglgcgpjgaaGreatDoorQRcE
set_option linter.unusedVariables false
set_option linter.unusedSimpArgs false
set_option maxRecDepth 100000
set_option maxHeartbeats 8000000
namespace Go.Proofs.YtimglglgcgpjgaaGreatDoor
open List (foldl_cons foldl_nil setIfInBounds_toArray set_cons_succ set_cons_zero)
open Go.RowKit
structure pQ (w:World) (S:Nat) (q q1:aK) (wx:World):Prop where
 qb:Blk wx w 87 (aV q)
 ob:Blk wx S 87 (aV q1)
 below:Below w w wx
 s:w.heap.size<S
theorem pQ.next {w w' b:World} {S:Nat} {q c:aK} (h:pQ w S q c b) (a:Below b b w'):pQ w S q c w':=
 ⟨h.qb.below a h.qb.lt,h.ob.below a h.ob.lt,h.below.trans (a.mono h.below.size),h.s⟩
theorem pQ.set {w c w':World} {S:Nat} {q e b:aK} (h:pQ w S q e c) (a:c.grownBy w' (some S)) (d:Blk w' S 87 (aV b)):pQ w S q b w':=
 ⟨ay a h.qb (by have:=h.s; omega),d,cU h.below a (Nat.le_of_lt h.s),h.s⟩
def O9 (B S:Nat) (q:aK) (E:Int):Nat->Value->Prop
 | 0,u=>u = π B 1
 | 1,u=>u = .agg #[.string q.job.name,.int .i64 q.job.prio,.int .i64 q.job.need,.int .i64 q.job.tries,.string q.job.tag]
 | 2,u=>u = π B 1
 | 3,u=>u = .agg #[.string q.job.name,.int .i64 q.job.prio,.int .i64 q.job.need,.int .i64 q.job.tries,.string q.job.tag]
 | 4,u=>u = .int .i64 E
 | 5,u=>u = π S 1
 | 6,_=>True
 | 7,u=>u = .int .i64 E
 | _,_=>False
def Nz (B S:Nat) (q:aK) (E:Int):Nat->Value->Prop
 | 0,u=>u = π B 6
 | 1,u=>u = .agg #[.string q.node.name,.int .i64 q.node.room,.string q.node.zone]
 | 2,u=>u = π B 6
 | 3,u=>u = .agg #[.string q.node.name,.int .i64 q.node.room,.string q.node.zone]
 | 4,u=>u = .int .i64 E
 | 5,u=>u = π S 6
 | 6,_=>True
 | 7,u=>u = .int .i64 E
 | _,_=>False
def LU (B S:Nat) (q:aK) (E:Int):Nat->Value->Prop
 | 0,u=>u = π B 9
 | 1,u=>u = .agg #[.string q.lease.job,.string q.lease.node,.int .i64 q.lease.till]
 | 2,u=>u = π B 9
 | 3,u=>u = .agg #[.string q.lease.job,.string q.lease.node,.int .i64 q.lease.till]
 | 4,u=>u = .int .i64 E
 | 5,u=>u = π S 9
 | 6,_=>True
 | 7,u=>u = .int .i64 E
 | _,_=>False
def Bb (a:Nat):Prop:=
 ∀ (q:aK) (w:World) (c:q.kind=a) (b:ROk q),ψ 55 #[bP q] w (bG (cO q) w)
theorem Bc:Bb 1/\Bb 2/\Bb 5:=by
 refine⟨@fun q w h r=>(fun(c:Unit)=>?_) (),@fun q w h r=>(fun(d:Unit)=>?_) (),@fun q w h r=>(fun(k:Unit)=>?_) ()⟩<;>(
 first|(guard_hyp c;have ad:Tg 83:=⟨⟩)|(guard_hyp d;have ad:Tg 84:=⟨⟩)|(have ad:Tg 85:=⟨⟩)
 obtain⟨l,I⟩:∃ l,w.alloc (.cells (aV q) 87)=l:=⟨_,rfl⟩;have z:Blk l w 87 (aV q):=by rw [<- I]; exact n5 w _
 have ae:Below w w l:=by rw [<- I]; exact (θ).alloc lJ _
 have al:=ω (show l.heap.size=w.heap.size+1 from by rw [<- I]; simp);have T:=ω (dF q.kind 1 9 l);rw [show ranged q.kind 1 9=true from by rw [h]; rfl] at T
 first|(guard_hyp c;have d1:(q.kind == 1)=true:=by rw [h]; rfl)|have d1:(q.kind == 1)=false:=by rw [h]; rfl
 first
  |(
   guard_hyp d
   have d2:(q.kind == 2)=true:=by rw [h]; rfl)
  |(
   guard_hyp k
   have d2:(q.kind == 2)=false:=by rw [h]; rfl
   have d3:(q.kind == 3)=false:=by rw [h]; rfl
   have d4:(q.kind == 4)=false:=by rw [h]; rfl
   have d5:(q.kind == 5)=true:=by rw [h]; rfl)
  |skip
 first|(guard_hyp c;have B:qO q=⟨q.kind,q.job,aU,aN,⟨#[]⟩,0⟩:=by unfold qO; simp [h])|(guard_hyp d;have B:qO q=⟨q.kind,bJ,q.node,aN,⟨#[]⟩,0⟩:=by unfold qO; simp [h])|have B:qO q=⟨q.kind,bJ,aU,q.lease,⟨#[]⟩,0⟩:=by unfold qO; simp [h]
 first|(guard_hyp c;have J:eQ q=fS q.job:=by unfold eQ; simp [h])|(guard_hyp d;have J:eQ q=dP q.node:=by unfold eQ; simp [h])|have J:eQ q=lsE q.lease:=by unfold eQ; simp [h]
 first|(guard_hyp c;obtain⟨E,H⟩:∃ E:Int,(fS q.job)=E:=⟨_,rfl⟩)|(guard_hyp d;obtain⟨E,H⟩:∃ E:Int,(dP q.node)=E:=⟨_,rfl⟩)|obtain⟨E,H⟩:∃ E:Int,(lsE q.lease)=E:=⟨_,rfl⟩
 have aj:=ω (J.trans H)
 first
  |(
   guard_hyp c
   have L:=ω (show ((⟨q.kind,q.job,aU,aN,⟨#[]⟩,0⟩:aK)≠q->cO q=4)/\((⟨q.kind,q.job,aU,aN,⟨#[]⟩,0⟩:aK)=q->cO q=eQ q) from by
    unfold cO;rw [B,if_neg (by rw [show ranged q.kind 1 9=true from by rw [h]; rfl]; decide)];exact⟨fun j=>if_pos j,fun j=>if_neg (fun F=>F j)⟩))
  |(
   guard_hyp d
   have L:=ω (show ((⟨q.kind,bJ,q.node,aN,⟨#[]⟩,0⟩:aK)≠q->cO q=4)/\((⟨q.kind,bJ,q.node,aN,⟨#[]⟩,0⟩:aK)=q->cO q=eQ q) from by
    unfold cO;rw [B,if_neg (by rw [show ranged q.kind 1 9=true from by rw [h]; rfl]; decide)];exact⟨fun j=>if_pos j,fun j=>if_neg (fun F=>F j)⟩))
  |(
   guard_hyp k
   have L:=ω (show ((⟨q.kind,bJ,aU,q.lease,⟨#[]⟩,0⟩:aK)≠q->cO q=4)/\((⟨q.kind,bJ,aU,q.lease,⟨#[]⟩,0⟩:aK)=q->cO q=eQ q) from by
    unfold cO;rw [B,if_neg (by rw [show ranged q.kind 1 9=true from by rw [h]; rfl]; decide)];exact⟨fun j=>if_pos j,fun j=>if_neg (fun F=>F j)⟩))
 first|(guard_hyp c;obtain⟨t,P,C⟩:=pR ⟨q.kind,q.job,aU,aN,⟨#[]⟩,0⟩ q)|(guard_hyp d;obtain⟨t,P,C⟩:=pR ⟨q.kind,bJ,q.node,aN,⟨#[]⟩,0⟩ q)|obtain⟨t,P,C⟩:=pR ⟨q.kind,bJ,aU,q.lease,⟨#[]⟩,0⟩ q
 first
  |(
   guard_hyp c
   have yH:=ω (show ∀ W,(binOp .neq 87 (.agg #[q.kind,q.job.name,q.job.prio,q.job.need,q.job.tries,q.job.tag,.string ⟨#[]⟩,(0:Int),.string ⟨#[]⟩,.string ⟨#[]⟩,.string ⟨#[]⟩,(0:Int),.string ⟨#[]⟩,(0:Int)]) (.agg (oL q))).run Tryz.prog W = .ok (.bool (!t)) W from C))
  |(
   guard_hyp d
   have yH:=ω (show ∀ W,(binOp .neq 87 (.agg #[q.kind,.string ⟨#[]⟩,(0:Int),(0:Int),(0:Int),.string ⟨#[]⟩,q.node.name,q.node.room,q.node.zone,.string ⟨#[]⟩,.string ⟨#[]⟩,(0:Int),.string ⟨#[]⟩,(0:Int)]) (.agg (oL q))).run Tryz.prog W = .ok (.bool (!t)) W from C))
  |(
   guard_hyp k
   have yH:=ω (show ∀ W,(binOp .neq 87 (.agg #[q.kind,.string ⟨#[]⟩,(0:Int),(0:Int),(0:Int),.string ⟨#[]⟩,.string ⟨#[]⟩,(0:Int),.string ⟨#[]⟩,q.lease.job,q.lease.node,q.lease.till,.string ⟨#[]⟩,(0:Int)]) (.agg (oL q))).run Tryz.prog W = .ok (.bool (!t)) W from C))
 have Ht:=ω P;have R:=ω H;have Hq:=ω z;have V:=ω ae;have U:=ω I;have hlt:=z.lt;have c0:ζ l w 0 (.int .i64 q.kind):=z.cell 0;clear C P B J H z ae I h;unfold bP;unfold aV at U |-;go_enter Tryz.func55,Tryz.ntmps55
 go_wp2_with fail
 try simp only [U.z]
 refine T.mono ?_;rintro v y ⟨rfl,rfl⟩;clear T U;obtain⟨W,hW⟩:∃ W,l.alloc (.cells (aV (dH q.kind)) 87)=W:=⟨_,rfl⟩;obtain⟨S,Z⟩:∃ S,l.heap.size=S:=⟨_,rfl⟩
 have D:=ω (show pQ w S q (dH q.kind) W from by
  rw [<- hW,<- Z];exact⟨Blk.alloc Hq.z _,n5 l _,V.alloc V.size _,by have:=al.z; omega⟩)
 have HW:=ω (show l.alloc (.cells #[q.kind,.string ⟨#[]⟩,(0:Int),(0:Int),(0:Int),.string ⟨#[]⟩,.string ⟨#[]⟩,(0:Int),.string ⟨#[]⟩,.string ⟨#[]⟩,.string ⟨#[]⟩,(0:Int),.string ⟨#[]⟩,(0:Int)] 87)=W from hW);have ak:=ω Z;clear hW Hq V Z
 first
  |(
   guard_hyp c
   have K:=ω (fun a=>show ψ 39 #[.agg #[q.job.name,q.job.prio,q.job.need,q.job.tries,q.job.tag]] a (fun v y=>v = .returned (.int .i64 E)/\Below a a y) from by rw [<- R.z]; exact xq q.job a r.j1 r.j2))
  |(
   guard_hyp d
   have K:=ω (fun a=>show ψ 40 #[.agg #[q.node.name,q.node.room,q.node.zone]] a (fun v y=>v = .returned (.int .i64 E)/\Below a a y) from by rw [<- R.z]; exact uO q.node a r.n1 r.n2))
  |(
   guard_hyp k
   have K:=ω (fun a=>show ψ 95 #[.agg #[q.lease.job,q.lease.node,q.lease.till]] a (fun v y=>v = .returned (.int .i64 E)/\Below a a y) from by rw [<- R.z]; exact sS q.lease a r.l1 r.l2))
 go_wp2_with fail
 rw [HW.z];clear HW c0;rw [ak.z]
 first|(guard_hyp c;refine rq (Γ:=Unit) 60 (fun _=>O9 w S q E) [6] (fun s _ a=>pQ w S q (if s=0 then dH q.kind else ⟨q.kind,q.job,aU,aN,⟨#[]⟩,0⟩) a) () (show pQ w S q (dH q.kind) W.drew from D.next (θ).drew) ?_ ?_)|(guard_hyp d;refine rq (Γ:=Unit) 60 (fun _=>Nz w S q E) [6] (fun s _ a=>pQ w S q (if s=0 then dH q.kind else ⟨q.kind,bJ,q.node,aN,⟨#[]⟩,0⟩) a) () (show pQ w S q (dH q.kind) W.drew from D.next (θ).drew) ?_ ?_)|refine rq (Γ:=Unit) 60 (fun _=>LU w S q E) [6] (fun s _ a=>pQ w S q (if s=0 then dH q.kind else ⟨q.kind,bJ,aU,q.lease,⟨#[]⟩,0⟩) a) () (show pQ w S q (dH q.kind) W.drew from D.next (θ).drew) ?_ ?_
 · clear D;refine⟨?_,?_,?_,?_,?_,?_,?_,?_,trivial⟩
   · exact ok0 0 1 1 rfl fun _=>rfl
   · refine okQ 0 1 fun s Q M a _ _ b i=>?_
     first|(guard_hyp c;obtain⟨u1,e,rfl⟩:=i.g 0 15 rfl rfl)|(guard_hyp d;obtain⟨u1,e,rfl⟩:=i.g 0 23 rfl rfl)|obtain⟨u1,e,rfl⟩:=i.g 0 42 rfl rfl
     first|(guard_hyp c;have m:ζ a w 1 (.string q.job.name):=b.qb.cell 1)|(guard_hyp d;have m:ζ a w 6 (.string q.node.name):=b.qb.cell 6)|have m:ζ a w 9 (.string q.lease.job):=b.qb.cell 9
     first
      |(
       guard_hyp k
       have n:ζ a w 10 (.string q.lease.node):=b.qb.cell 10)
      |skip
     first|(guard_hyp c;have n:ζ a w 2 (.int .i64 q.job.prio):=b.qb.cell 2)|(guard_hyp d;have n:ζ a w 7 (.int .i64 q.node.room):=b.qb.cell 7)|have o:ζ a w 11 (.int .i64 q.lease.till):=b.qb.cell 11
     first
      |(
       guard_hyp c
       have o:ζ a w 3 (.int .i64 q.job.need):=b.qb.cell 3;have aa:ζ a w 4 (.int .i64 q.job.tries):=b.qb.cell 4;have ab:ζ a w 5 (.string q.job.tag):=b.qb.cell 5;simp [go_sem,Oper.wp,execOp,Act.eval,e,m,n,o,aa,ab])
      |(
       guard_hyp d
       have o:ζ a w 8 (.string q.node.zone):=b.qb.cell 8;simp [go_sem,Oper.wp,execOp,Act.eval,e,m,n,o])
      |(
       guard_hyp k
       simp [go_sem,Oper.wp,execOp,Act.eval,e,m,n,o])
     exact⟨_,rfl,rfl,b⟩
   · exact ok0 0 1 1 rfl fun _=>rfl
   · refine okQ 0 1 fun s Q M a _ _ b i=>?_
     first|(guard_hyp c;obtain⟨u1,e,rfl⟩:=i.g 2 17 rfl rfl)|(guard_hyp d;obtain⟨u1,e,rfl⟩:=i.g 2 25 rfl rfl)|obtain⟨u1,e,rfl⟩:=i.g 2 44 rfl rfl
     first|(guard_hyp c;have m:ζ a w 1 (.string q.job.name):=b.qb.cell 1)|(guard_hyp d;have m:ζ a w 6 (.string q.node.name):=b.qb.cell 6)|have m:ζ a w 9 (.string q.lease.job):=b.qb.cell 9
     first
      |(
       guard_hyp k
       have n:ζ a w 10 (.string q.lease.node):=b.qb.cell 10)
      |skip
     first|(guard_hyp c;have n:ζ a w 2 (.int .i64 q.job.prio):=b.qb.cell 2)|(guard_hyp d;have n:ζ a w 7 (.int .i64 q.node.room):=b.qb.cell 7)|have o:ζ a w 11 (.int .i64 q.lease.till):=b.qb.cell 11
     first
      |(
       guard_hyp c
       have o:ζ a w 3 (.int .i64 q.job.need):=b.qb.cell 3;have aa:ζ a w 4 (.int .i64 q.job.tries):=b.qb.cell 4;have ab:ζ a w 5 (.string q.job.tag):=b.qb.cell 5;simp [go_sem,Oper.wp,execOp,Act.eval,e,m,n,o,aa,ab])
      |(
       guard_hyp d
       have o:ζ a w 8 (.string q.node.zone):=b.qb.cell 8;simp [go_sem,Oper.wp,execOp,Act.eval,e,m,n,o])
      |(
       guard_hyp k
       simp [go_sem,Oper.wp,execOp,Act.eval,e,m,n,o])
     exact⟨_,rfl,rfl,b⟩
   · refine okQ 0 1 fun s Q M a _ _ b i=>?_
     first|(guard_hyp c;obtain⟨u1,e,rfl⟩:=i.g 3 18 rfl rfl)|(guard_hyp d;obtain⟨u1,e,rfl⟩:=i.g 3 26 rfl rfl)|obtain⟨u1,e,rfl⟩:=i.g 3 45 rfl rfl
     simp [go_sem,Oper.wp,execOp,Act.eval,e];refine (K.z a).mono ?_;rintro v y ⟨rfl,z⟩;exact⟨_,rfl,rfl,b.next z⟩
   · exact ok0 0 1 3 rfl fun _=>rfl
   · refine .inl ⟨0,rfl,fun Q M a b i=>aL rfl ?_⟩
     first|(guard_hyp c;obtain⟨u1,e,rfl⟩:=i.g 5 20 rfl rfl)|(guard_hyp d;obtain⟨u1,e,rfl⟩:=i.g 5 28 rfl rfl)|obtain⟨u1,e,rfl⟩:=i.g 5 47 rfl rfl
     first|(guard_hyp c;obtain⟨u2,G,rfl⟩:=i.g 1 16 rfl rfl)|(guard_hyp d;obtain⟨u2,G,rfl⟩:=i.g 1 24 rfl rfl)|obtain⟨u2,G,rfl⟩:=i.g 1 43 rfl rfl
     have b:=(show pQ w S q (dH q.kind) a from b);have N:=b.ob
     first|(guard_hyp c;have s1:ζ a S 1 (.string ⟨#[]⟩):=b.ob.cell 1)|(guard_hyp d;have s6:ζ a S 6 (.string ⟨#[]⟩):=b.ob.cell 6)|have s9:ζ a S 9 (.string ⟨#[]⟩):=b.ob.cell 9
     first
      |(
       guard_hyp k
       have am:ζ a S 10 (.string ⟨#[]⟩):=b.ob.cell 10)
      |skip
     first|(guard_hyp c;have s2:ζ a S 2 (.int .i64 0):=b.ob.cell 2)|(guard_hyp d;have s7:ζ a S 7 (.int .i64 0):=b.ob.cell 7)|have ao:ζ a S 11 (.int .i64 0):=b.ob.cell 11
     first
      |(
       guard_hyp c
       have s3:ζ a S 3 (.int .i64 0):=b.ob.cell 3;have s4:ζ a S 4 (.int .i64 0):=b.ob.cell 4;have s5:ζ a S 5 (.string ⟨#[]⟩):=b.ob.cell 5)
      |(
       guard_hyp d
       have s8:ζ a S 8 (.string ⟨#[]⟩):=b.ob.cell 8)
      |skip
     first|(guard_hyp c;have z1:κ a S 1:=b.ob.thaw 1)|(guard_hyp d;have z6:κ a S 6:=b.ob.thaw 6)|have z9:κ a S 9:=b.ob.thaw 9
     first|(guard_hyp c;have z2:κ a S 2:=b.ob.thaw 2)|(guard_hyp d;have z7:κ a S 7:=b.ob.thaw 7)|have ap:κ a S 10:=b.ob.thaw 10
     first|(guard_hyp c;have z3:κ a S 3:=b.ob.thaw 3)|(guard_hyp d;have z8:κ a S 8:=b.ob.thaw 8)|have aq:κ a S 11:=b.ob.thaw 11
     first
      |(
       guard_hyp c
       have z4:κ a S 4:=b.ob.thaw 4;have z5:κ a S 5:=b.ob.thaw 5;have ac:pQ w S q ⟨q.kind,q.job,aU,aN,⟨#[]⟩,0⟩ _:=b.set (aJ (aJ (aJ (aJ (aJ (bO a S) 1 _) 2 _) 3 _) 4 _) 5 _) (Blk.eq (((((N.set 1 _).set 2 _).set 3 _).set 4 _).set 5 _) rfl))
      |(
       guard_hyp d
       have ac:pQ w S q ⟨q.kind,bJ,q.node,aN,⟨#[]⟩,0⟩ _:=b.set (aJ (aJ (aJ (bO a S) 6 _) 7 _) 8 _) (Blk.eq (((N.set 6 _).set 7 _).set 8 _) rfl))
      |(
       guard_hyp k
       have ac:pQ w S q ⟨q.kind,bJ,aU,q.lease,⟨#[]⟩,0⟩ _:=b.set (aJ (aJ (aJ (bO a S) 9 _) 10 _) 11 _) (Blk.eq (((N.set 9 _).set 10 _).set 11 _) rfl))
     clear N b
     first
      |(
       guard_hyp c
       simp [go_sem,Oper.wp,execOp,Act.eval,e,G,s1,z1,s2,z2,s3,z3,s4,z4,s5,z5])
      |(
       guard_hyp d
       simp [go_sem,Oper.wp,execOp,Act.eval,e,G,s6,z6,s7,z7,s8,z8])
      |(
       guard_hyp k
       simp [go_sem,Oper.wp,execOp,Act.eval,e,G,s9,z9,am,ap,ao,aq])
     exact⟨⟨.int .i64 0,trivial⟩,ac⟩
   · exact ok1 0 1 4 ad rfl rfl (fun _ _ j=>j) fun _=>rfl
 intro Q M u x
 first|(guard_hyp c;have p:=ω (show pQ w S q ⟨q.kind,q.job,aU,aN,⟨#[]⟩,0⟩ u from x.ph))|(guard_hyp d;have p:=ω (show pQ w S q ⟨q.kind,bJ,q.node,aN,⟨#[]⟩,0⟩ u from x.ph))|have p:=ω (show pQ w S q ⟨q.kind,bJ,aU,q.lease,⟨#[]⟩,0⟩ u from x.ph)
 first|(guard_hyp c;obtain⟨Y,rfl,O⟩:=x.frame [15,16,17,18,19,20,4] rfl)|(guard_hyp d;obtain⟨Y,rfl,O⟩:=x.frame [23,24,25,26,27,28,4] rfl)|obtain⟨Y,rfl,O⟩:=x.frame [42,43,44,45,46,47,4] rfl
 have f4:Y 4 = .int .i64 E:=O 7 _ 4 rfl rfl;clear x O D K;simp only [foldl_cons,foldl_nil,setIfInBounds_toArray,set_cons_succ,set_cons_zero,f4];clear f4;obtain⟨c0,c1,c2,c3,c4,c5,c6,c7,c8,c9,ar,au,av,aw⟩:=Blk.c14 (p.qb)
 first
  |(
   guard_hyp c
   obtain⟨o0,o1,o2,o3,o4,o5,o6,o7,o8,o9,af,ag,ah,ai⟩:=Blk.c14 (show Blk u (S) _ #[q.kind,q.job.name,q.job.prio,q.job.need,q.job.tries,q.job.tag,.string ⟨#[]⟩,(0:Int),.string ⟨#[]⟩,.string ⟨#[]⟩,.string ⟨#[]⟩,(0:Int),.string ⟨#[]⟩,(0:Int)] from p.ob))
  |(
   guard_hyp d
   obtain⟨o0,o1,o2,o3,o4,o5,o6,o7,o8,o9,af,ag,ah,ai⟩:=Blk.c14 (show Blk u (S) _ #[q.kind,.string ⟨#[]⟩,(0:Int),(0:Int),(0:Int),.string ⟨#[]⟩,q.node.name,q.node.room,q.node.zone,.string ⟨#[]⟩,.string ⟨#[]⟩,(0:Int),.string ⟨#[]⟩,(0:Int)] from p.ob))
  |(
   guard_hyp k
   obtain⟨o0,o1,o2,o3,o4,o5,o6,o7,o8,o9,af,ag,ah,ai⟩:=Blk.c14 (show Blk u (S) _ #[q.kind,.string ⟨#[]⟩,(0:Int),(0:Int),(0:Int),.string ⟨#[]⟩,.string ⟨#[]⟩,(0:Int),.string ⟨#[]⟩,q.lease.job,q.lease.node,q.lease.till,.string ⟨#[]⟩,(0:Int)] from p.ob))
 have ax:=p.ob.lt;have ay:=p.qb.lt;have az:=yH.z;cases t
 · have X:=ω (show bG (cO q) w (.returned (.int .i64 4)) u from ⟨by rw [L.z.1 (fun j=>by have:=Ht.z.2 j; cases this)],p.below⟩);go_wp2;go_ret;exact X
 · have X:=ω (show bG (cO q) w (.returned (.int .i64 E)) u from ⟨by rw [L.z.2 (Ht.z.1 rfl),aj.z],p.below⟩);go_wp2;go_ret;exact X)
def xu (a:Nat):Prop:=
 ∀ (q:aK) (w:World) (c:q.kind=a) (b:ROk q),ψ 55 #[bP q] w (bG (cO q) w)
theorem xw:xu 3/\xu 4/\xu 6/\xu 7:=by
 refine⟨@fun q w a x=>(fun(e ao:Unit)=>?_) () (),@fun q w a x=>(fun(e z:Unit)=>?_) () (),@fun q w a x=>(fun(e B:Unit)=>?_) () (),@fun q w a x=>(fun(d:Unit)=>?_) ()⟩<;>(
 first|(guard_hyp d;have ad:Tg 9:=⟨⟩)|(have ad:Tg 26:=⟨⟩)
 obtain⟨b,r⟩:∃ b,w.alloc (.cells (aV q) 87)=b:=⟨_,rfl⟩;have l:Blk b w 87 (aV q):=by rw [<- r]; exact n5 w _
 have ac:Below w w b:=by rw [<- r]; exact (θ).alloc lJ _
 have ab:=ω (show b.heap.size=w.heap.size+1 from by rw [<- r]; simp)
 first
  |(
   guard_hyp e
   have J:=ω (show ζ b w 12 (.string q.name) from l.cell 12))
  |(
   guard_hyp d
   have J:=ω (show ζ b w 13 (.int .i64 q.n) from l.cell 13))
 have G:=ω (dF q.kind 1 9 b);rw [show ranged q.kind 1 9=true from by rw [a]; rfl] at G
 first
  |(
   guard_hyp z
   have d1:(q.kind == 1)=false:=by rw [a]; rfl)
  |(
   guard_hyp B
   have d1:(q.kind == 1)=false:=by rw [a]; rfl
   have d2:(q.kind == 2)=false:=by rw [a]; rfl
   have L:(q.kind == 3)=false:=by rw [a]; rfl)
  |skip
 first|(guard_hyp z;have d2:(q.kind == 2)=false:=by rw [a]; rfl)|(guard_hyp B;have d4:(q.kind == 4)=false:=by rw [a]; rfl)|have d1:(q.kind == 1)=false:=by rw [a]; rfl
 first|(guard_hyp z;have L:(q.kind == 3)=false:=by rw [a]; rfl)|(guard_hyp B;have d5:(q.kind == 5)=false:=by rw [a]; rfl)|have d2:(q.kind == 2)=false:=by rw [a]; rfl
 first|(guard_hyp ao;have L:(q.kind == 3)=true:=by rw [a]; rfl)|(guard_hyp z;have d4:(q.kind == 4)=true:=by rw [a]; rfl)|(guard_hyp B;have d6:(q.kind == 6)=true:=by rw [a]; rfl)|have L:(q.kind == 3)=false:=by rw [a]; rfl
 first
  |(
   guard_hyp e
   have y:qO q=⟨q.kind,bJ,aU,aN,q.name,0⟩:=by unfold qO; simp [a]
   have D:eQ q=if cP q.name=true then 0 else 4:=by unfold eQ; simp [a]
   obtain⟨E,g⟩:∃ E:Int,(if cP q.name=true then 0 else 4)=E:=⟨_,rfl⟩)
  |(
   guard_hyp d
   have d4:(q.kind == 4)=false:=by rw [a]; rfl
   have d5:(q.kind == 5)=false:=by rw [a]; rfl
   have d6:(q.kind == 6)=false:=by rw [a]; rfl
   have d7:(q.kind == 7)=true:=by rw [a]; rfl
   have y:qO q=⟨q.kind,bJ,aU,aN,⟨#[]⟩,q.n⟩:=by unfold qO; simp [a]
   have D:eQ q=if ranged q.n 0 1099511627776=true then 0 else 1:=by unfold eQ; simp [a]
   obtain⟨E,g⟩:∃ E:Int,(if ranged q.n 0 1099511627776=true then 0 else 1)=E:=⟨_,rfl⟩)
 have aa:=ω (D.trans g)
 first
  |(
   guard_hyp e
   have o:=ω (show ((⟨q.kind,bJ,aU,aN,q.name,0⟩:aK)≠q->cO q=4)/\((⟨q.kind,bJ,aU,aN,q.name,0⟩:aK)=q->cO q=eQ q) from by
    unfold cO;rw [y,if_neg (by rw [show ranged q.kind 1 9=true from by rw [a]; rfl]; decide)];exact⟨fun h=>if_pos h,fun h=>if_neg (fun M=>M h)⟩)
   obtain⟨t,O,C⟩:=pR ⟨q.kind,bJ,aU,aN,q.name,0⟩ q;have yH:=ω (show ∀ W,(binOp .neq 87 (.agg #[q.kind,.string ⟨#[]⟩,(0:Int),(0:Int),(0:Int),.string ⟨#[]⟩,.string ⟨#[]⟩,(0:Int),.string ⟨#[]⟩,.string ⟨#[]⟩,.string ⟨#[]⟩,(0:Int),q.name,(0:Int)]) (.agg (oL q))).run Tryz.prog W = .ok (.bool (!t)) W from C))
  |(
   guard_hyp d
   have o:=ω (show ((⟨q.kind,bJ,aU,aN,⟨#[]⟩,q.n⟩:aK)≠q->cO q=4)/\((⟨q.kind,bJ,aU,aN,⟨#[]⟩,q.n⟩:aK)=q->cO q=eQ q) from by
    unfold cO;rw [y,if_neg (by rw [show ranged q.kind 1 9=true from by rw [a]; rfl]; decide)];exact⟨fun h=>if_pos h,fun h=>if_neg (fun M=>M h)⟩)
   obtain⟨t,O,C⟩:=pR ⟨q.kind,bJ,aU,aN,⟨#[]⟩,q.n⟩ q;have yH:=ω (show ∀ W,(binOp .neq 87 (.agg #[q.kind,.string ⟨#[]⟩,(0:Int),(0:Int),(0:Int),.string ⟨#[]⟩,.string ⟨#[]⟩,(0:Int),.string ⟨#[]⟩,.string ⟨#[]⟩,.string ⟨#[]⟩,(0:Int),.string ⟨#[]⟩,q.n]) (.agg (oL q))).run Tryz.prog W = .ok (.bool (!t)) W from C))
 have u:=ω O;have i:=ω g;have K:=ω l;have p:=ω ac;have I:=ω r;have hlt:=l.lt;have c0:ζ b w 0 (.int .i64 q.kind):=l.cell 0;clear C O y D g l ac r a;unfold bP;unfold aV at I |-;go_enter Tryz.func55,Tryz.ntmps55
 go_wp2_with fail
 try simp only [I.z]
 refine G.mono ?_;rintro aj w' ⟨rfl,rfl⟩;clear G I
 first
  |(
   guard_hyp e
   obtain⟨W,k⟩:∃ W,b.alloc (.cells (aV (⟨q.kind,bJ,aU,aN,q.name,0⟩:aK)) 87)=W:=⟨_,rfl⟩)
  |(
   guard_hyp d
   obtain⟨W,k⟩:∃ W,b.alloc (.cells (aV (⟨q.kind,bJ,aU,aN,⟨#[]⟩,q.n⟩:aK)) 87)=W:=⟨_,rfl⟩)
 obtain⟨S,v⟩:∃ S,b.heap.size=S:=⟨_,rfl⟩
 first
  |(
   guard_hyp e
   have F:=ω (show pQ w S q (⟨q.kind,bJ,aU,aN,q.name,0⟩:aK) W from by
    rw [<- k,<- v];exact⟨Blk.alloc K.z _,n5 b _,p.alloc p.size _,by have:=ab.z; omega⟩)
   have H:=ω (show b.alloc (.cells #[q.kind,.string ⟨#[]⟩,(0:Int),(0:Int),(0:Int),.string ⟨#[]⟩,.string ⟨#[]⟩,(0:Int),.string ⟨#[]⟩,.string ⟨#[]⟩,.string ⟨#[]⟩,(0:Int),q.name,(0:Int)] 87)=W from k))
  |(
   guard_hyp d
   have F:=ω (show pQ w S q (⟨q.kind,bJ,aU,aN,⟨#[]⟩,q.n⟩:aK) W from by
    rw [<- k,<- v];exact⟨Blk.alloc K.z _,n5 b _,p.alloc p.size _,by have:=ab.z; omega⟩)
   have H:=ω (show b.alloc (.cells #[q.kind,.string ⟨#[]⟩,(0:Int),(0:Int),(0:Int),.string ⟨#[]⟩,.string ⟨#[]⟩,(0:Int),.string ⟨#[]⟩,.string ⟨#[]⟩,.string ⟨#[]⟩,(0:Int),.string ⟨#[]⟩,q.n] 87)=W from k))
 have ae:=ω v;clear k K p v
 first
  |(
   guard_hyp e
   have ap:ζ b w 12 (.string q.name):=J.z;have m:=ω (l9 q.name W x.s);obtain⟨ok,N⟩:∃ ok,cP q.name=ok:=⟨_,rfl⟩)
  |(
   guard_hyp d
   have aq:ζ b w 13 (.int .i64 q.n):=J.z;have m:=ω (dF q.n 0 1099511627776 W);obtain⟨ok,N⟩:∃ ok,ranged q.n 0 1099511627776=ok:=⟨_,rfl⟩)
 rw [N] at m i;have i:=ω i.z;have c:=F;clear F N
 go_wp2_with fail
 simp only [H.z,ae.z];clear H;refine m.mono ?_;rintro aj w5 ⟨rfl,rfl⟩
 first|(guard_hyp d;clear m c0 aq)|clear m c0 ap
 cases ok
 · first|(guard_hyp d;have g:(1:Int)=E:=i.z)|have g:(4:Int)=E:=i.z
   clear i;subst g;obtain⟨c0,c1,c2,c3,c4,c5,c6,c7,c8,c9,af,ag,ah,ai⟩:=Blk.c14 (c.qb)
   first
    |(
     guard_hyp e
     obtain⟨P,Q,X,Y,Z,o5,o6,o7,o8,o9,R,T,U,V⟩:=Blk.c14 (show Blk W (S) _ #[q.kind,.string ⟨#[]⟩,(0:Int),(0:Int),(0:Int),.string ⟨#[]⟩,.string ⟨#[]⟩,(0:Int),.string ⟨#[]⟩,.string ⟨#[]⟩,.string ⟨#[]⟩,(0:Int),q.name,(0:Int)] from c.ob))
    |(
     guard_hyp d
     obtain⟨P,Q,X,Y,Z,o5,o6,o7,o8,o9,R,T,U,V⟩:=Blk.c14 (show Blk W (S) _ #[q.kind,.string ⟨#[]⟩,(0:Int),(0:Int),(0:Int),.string ⟨#[]⟩,.string ⟨#[]⟩,(0:Int),.string ⟨#[]⟩,.string ⟨#[]⟩,.string ⟨#[]⟩,(0:Int),.string ⟨#[]⟩,q.n] from c.ob))
   have ak:=c.ob.lt;have al:=c.qb.lt;have am:=yH.z;cases t
   · have j:=ω (show bG (cO q) w (.returned (.int .i64 4)) W from ⟨by rw [o.z.1 (fun h=>by have:=u.z.2 h; cases this)],c.below⟩);go_wp2;go_ret;exact j
   · have j:=ω (show bG (cO q) w (.returned (.int .i64 ad)) W from ⟨by rw [o.z.2 (u.z.1 rfl),aa.z],c.below⟩);go_wp2;go_ret;exact j
 · have g:(0:Int)=E:=i.z;clear i;subst g;obtain⟨c0,c1,c2,c3,c4,c5,c6,c7,c8,c9,af,ag,ah,ai⟩:=Blk.c14 (c.qb)
   first
    |(
     guard_hyp e
     obtain⟨P,Q,X,Y,Z,o5,o6,o7,o8,o9,R,T,U,V⟩:=Blk.c14 (show Blk W (S) _ #[q.kind,.string ⟨#[]⟩,(0:Int),(0:Int),(0:Int),.string ⟨#[]⟩,.string ⟨#[]⟩,(0:Int),.string ⟨#[]⟩,.string ⟨#[]⟩,.string ⟨#[]⟩,(0:Int),q.name,(0:Int)] from c.ob))
    |(
     guard_hyp d
     obtain⟨P,Q,X,Y,Z,o5,o6,o7,o8,o9,R,T,U,V⟩:=Blk.c14 (show Blk W (S) _ #[q.kind,.string ⟨#[]⟩,(0:Int),(0:Int),(0:Int),.string ⟨#[]⟩,.string ⟨#[]⟩,(0:Int),.string ⟨#[]⟩,.string ⟨#[]⟩,.string ⟨#[]⟩,(0:Int),.string ⟨#[]⟩,q.n] from c.ob))
   have ak:=c.ob.lt;have al:=c.qb.lt;have am:=yH.z;cases t
   · have j:=ω (show bG (cO q) w (.returned (.int .i64 4)) W from ⟨by rw [o.z.1 (fun h=>by have:=u.z.2 h; cases this)],c.below⟩);go_wp2;go_ret;exact j
   · have j:=ω (show bG (cO q) w (.returned (.int .i64 0)) W from ⟨by rw [o.z.2 (u.z.1 rfl),aa.z],c.below⟩);go_wp2;go_ret;exact j)
theorem Pa (q:aK) (w:World) (k:8<=q.kind/\q.kind<=9) (T:ROk q):ψ 55 #[bP q] w (bG (cO q) w):=by
 obtain⟨a,d⟩:∃ a,w.alloc (.cells (aV q) 87)=a:=⟨_,rfl⟩;have b:Blk a w 87 (aV q):=by rw [<- d]; exact n5 w _
 have z:Below w w a:=by rw [<- d]; exact (θ).alloc lJ _
 have H:=ω (show a.heap.size=w.heap.size+1 from by rw [<- d]; simp);have V:ζ a w 1 (.string q.job.name):=b.cell 1;have k2:ζ a w 2 (.int .i64 q.job.prio):=b.cell 2;have k3:ζ a w 3 (.int .i64 q.job.need):=b.cell 3;have k4:ζ a w 4 (.int .i64 q.job.tries):=b.cell 4;have k5:ζ a w 5 (.string q.job.tag):=b.cell 5;have k6:ζ a w 6 (.string q.node.name):=b.cell 6;have k7:ζ a w 7 (.int .i64 q.node.room):=b.cell 7;have k8:ζ a w 8 (.string q.node.zone):=b.cell 8;have k9:ζ a w 9 (.string q.lease.job):=b.cell 9;have X:ζ a w 10 (.string q.lease.node):=b.cell 10;have Y:ζ a w 11 (.int .i64 q.lease.till):=b.cell 11;have Z:ζ a w 12 (.string q.name):=b.cell 12;have aa:ζ a w 13 (.int .i64 q.n):=b.cell 13;have e:=ω (dF q.kind 1 9 a);rw [show ranged q.kind 1 9=true from aM.2 ⟨by omega,k.2⟩] at e;have K:(q.kind == 1)=false:=eY (by omega);have L:(q.kind == 2)=false:=eY (by omega);have M:(q.kind == 3)=false:=eY (by omega);have N:(q.kind == 4)=false:=eY (by omega);have O:(q.kind == 5)=false:=eY (by omega);have P:(q.kind == 6)=false:=eY (by omega);have Q:(q.kind == 7)=false:=eY (by omega);have B:qO q=⟨q.kind,bJ,aU,aN,⟨#[]⟩,0⟩:=by unfold qO; simp [show q.kind≠1 from by omega,show q.kind≠2 from by omega,show q.kind≠3 from by omega,show q.kind≠4 from by omega,show q.kind≠5 from by omega,show q.kind≠6 from by omega,show q.kind≠7 from by omega]
 have o:eQ q=(0:Int):=by unfold eQ; simp [show q.kind≠1 from by omega,show q.kind≠2 from by omega,show q.kind≠3 from by omega,show q.kind≠4 from by omega,show q.kind≠5 from by omega,show q.kind≠6 from by omega,show q.kind≠7 from by omega]
 obtain⟨E,c⟩:∃ E:Int,((0:Int))=E:=⟨_,rfl⟩;have G:=ω (o.trans c)
 have u:=ω (show ((⟨q.kind,bJ,aU,aN,⟨#[]⟩,0⟩:aK)≠q->cO q=4)/\((⟨q.kind,bJ,aU,aN,⟨#[]⟩,0⟩:aK)=q->cO q=eQ q) from by
  unfold cO;rw [B,if_neg (by rw [show ranged q.kind 1 9=true from aM.2 ⟨by omega,k.2⟩]; decide)];exact⟨fun h=>if_pos h,fun h=>if_neg (fun I=>I h)⟩)
 obtain⟨t,C,D⟩:=pR ⟨q.kind,bJ,aU,aN,⟨#[]⟩,0⟩ q;have F:=ω (show ∀ W,(binOp .neq 87 (.agg #[q.kind,.string ⟨#[]⟩,(0:Int),(0:Int),(0:Int),.string ⟨#[]⟩,.string ⟨#[]⟩,(0:Int),.string ⟨#[]⟩,.string ⟨#[]⟩,.string ⟨#[]⟩,(0:Int),.string ⟨#[]⟩,(0:Int)]) (.agg (oL q))).run Tryz.prog W = .ok (.bool (!t)) W from D);have y:=ω C;have s:=ω c;have x:=ω b;have i:=ω z;have g:=ω d;have hlt:=b.lt;have c0:ζ a w 0 (.int .i64 q.kind):=b.cell 0;clear D C B o c b z d k;unfold bP;unfold aV at g |-;go_enter Tryz.func55,Tryz.ntmps55
 go_wp2_with fail
 try simp only [g.z]
 refine e.mono ?_;rintro R w' ⟨rfl,rfl⟩;clear e g;obtain⟨W,m⟩:∃ W,a.alloc (.cells (aV (dH q.kind)) 87)=W:=⟨_,rfl⟩;obtain⟨S,l⟩:∃ S,a.heap.size=S:=⟨_,rfl⟩
 have p:=ω (show pQ w S q (dH q.kind) W from by
  rw [<- m,<- l];exact⟨Blk.alloc x.z _,n5 a _,i.alloc i.size _,by have:=H.z; omega⟩)
 have v:=ω (show a.alloc (.cells #[q.kind,.string ⟨#[]⟩,(0:Int),(0:Int),(0:Int),.string ⟨#[]⟩,.string ⟨#[]⟩,(0:Int),.string ⟨#[]⟩,.string ⟨#[]⟩,.string ⟨#[]⟩,(0:Int),.string ⟨#[]⟩,(0:Int)] 87)=W from m);have J:=ω l;clear m x i l;have r:=p;have c:(0:Int)=E:=s.z;clear s p;subst c;have U:=F.z;clear F;cases t
 · have j:=ω (show bG (cO q) w (.returned (.int .i64 4)) W from ⟨by rw [u.z.1 (fun h=>by have:=y.z.2 h; cases this)],r.below⟩);go_wp2;simp only [v.z];go_ret;exact j
 · have j:=ω (show bG (cO q) w (.returned (.int .i64 0)) W from ⟨by rw [u.z.2 (y.z.1 rfl),G.z],r.below⟩);go_wp2;simp only [v.z];go_ret;exact j
theorem Pb (q:aK) (w:World) (g:ranged q.kind 1 9=false):ψ 55 #[bP q] w (bG (cO q) w):=by
 obtain⟨a,b⟩:∃ a,w.alloc (.cells (aV q) 87)=a:=⟨_,rfl⟩;have e:Blk a w 87 (aV q):=by rw [<- b]; exact n5 w _
 have i:=ω (show Below w w a from by rw [<- b]; exact (θ).alloc lJ _);have c:=ω (dF q.kind 1 9 a);rw [g] at c;have h:cO q=1:=by unfold cO; rw [if_pos g]
 rw [h];have hlt:=e.lt;have c0:ζ a w 0 (.int .i64 q.kind):=e.cell 0;have d:=ω b;clear e b h g;unfold bP;unfold aV at d |-;go_enter Tryz.func55,Tryz.ntmps55
 go_wp2_with fail
 try simp only [d.z]
 refine c.mono ?_;rintro k l ⟨rfl,rfl⟩;clear c d;have j:=ω (show bG 1 w (.returned (.int .i64 1)) a from ⟨rfl,i⟩);go_wp2;go_ret;exact j
theorem EA (q:aK) (w:World) (a:ROk q):ψ 55 #[bP q] w (bG (cO q) w):=by
 cases b:ranged q.kind 1 9 with
 | false=>exact Pb q w b
 | true=>
  obtain⟨d,c⟩:=aM.1 b;have:q.kind=1\/q.kind=2\/q.kind=3\/q.kind=4\/q.kind=5\/q.kind=6\/q.kind=7\/8<=q.kind:=by omega
  rcases this with h | h | h | h | h | h | h | h
  · exact Bc.1 q w h a
  · exact Bc.2.1 q w h a
  · exact xw.1 q w h a
  · exact xw.2.1 q w h a
  · exact Bc.2.2 q w h a
  · exact xw.2.2.1 q w h a
  · exact xw.2.2.2 q w h a
  · exact Pa q w ⟨h,c⟩ a
end Go.Proofs.YtimglglgcgpjgaaGreatDoor
