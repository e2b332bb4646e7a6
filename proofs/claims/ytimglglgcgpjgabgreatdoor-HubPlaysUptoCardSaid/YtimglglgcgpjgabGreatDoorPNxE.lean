/- Of the proof of a statement: NxE. -/
import Derived.Test.YtimglglgcgpjgabGreatDoorPNxC
set_option linter.unusedVariables false
set_option linter.unusedSimpArgs false
set_option maxRecDepth 100000
set_option maxHeartbeats 8000000
namespace Go.Proofs.YtimglglgcgpjgabGreatDoor
open List (foldl_cons foldl_nil setIfInBounds_toArray set_cons_succ set_cons_zero)
open Go.RowKit
def mR (st:ah) (now:Int) (l:ak):Int × ah × Int:=
 match cD st.jobs l.job with
 | none=>(6,st,now)
 | some j=>if (bU st.nodes l.node).isSome=false then (6,st,now)
  else if (cE st.leases l.job).isSome=true then (7,st,now)
  else if l.till<=now then (1,st,now)
  else if 100<j.tries+1 then (2,st,now)
  else (aE (jY st j l),jY st j l,now)
section
variable {st:ah} {now:Int} {l:ak} {j:aC} {n:av} {k:ak}
theorem EK (h:cD st.jobs l.job=none):mR st now l=(6,st,now):=by unfold mR; rw [h]
theorem EL (h:cD st.jobs l.job=some j) (a:bU st.nodes l.node=none):mR st now l=(6,st,now):=by unfold mR; rw [h,a]; rfl
theorem Gs (h:cD st.jobs l.job=some j) (a:bU st.nodes l.node=some n) (b:cE st.leases l.job=some k):mR st now l=(7,st,now):=by unfold mR; rw [h,a,b]; rfl
theorem EM (h:cD st.jobs l.job=some j) (a:bU st.nodes l.node=some n) (b:cE st.leases l.job=none) (c:l.till<=now):mR st now l=(1,st,now):=by unfold mR; rw [h,a,b]; simp [c]
theorem Da (h:cD st.jobs l.job=some j) (a:bU st.nodes l.node=some n) (b:cE st.leases l.job=none) (c:¬ l.till<=now) (d:100<j.tries+1):mR st now l=(2,st,now):=by unfold mR; rw [h,a,b]; simp [c,d]
theorem JE (h:cD st.jobs l.job=some j) (a:bU st.nodes l.node=some n) (b:cE st.leases l.job=none) (c:¬ l.till<=now) (d:¬ 100<j.tries+1):mR st now l=(aE (jY st j l),jY st j l,now):=by unfold mR; rw [h,a,b]; simp [c,d]
end
theorem Nj (q:aL) (st:ah) (x:StA) (now:Int) (w:World) (hS:StAt w w st x) (e:x.nj<=1000) (J:x.nn<=1000) (h3:x.nl<=1000) (aY:ROk q) (a0:∀ aN,ψ 52 #[bO q] aN (bH 0 aN)) (hq:q.kind=5) (bb:∀ j ∈ st.jobs,0<=j.tries/\j.tries<=100) :
 ψ 54 #[.agg (jw st x now),bO q] w (iO x (mR st now q.lease) w):=by
 obtain⟨q1,q2,q3,q4⟩:=oY w (jw st x now) (aT q) lI (ta:=46) (tb:=88) (tc:=26);obtain⟨W0,a7⟩:∃ W0,((w.alloc (.cells (jw st x now) 46)).alloc (.cells (aT q) 88)).alloc (.cells lI 26)=W0:=⟨_,rfl⟩;rw [a7] at q1 q2 q3 q4;have H0:NxP w st x now q 0 ⟨none,none⟩ W0.drew:=⟨q4.drew,q1,q2,q3,(hS.upS q4).drew,fun O u=>(by cases u),fun N u=>(by cases u),fun O N u=>(by cases u)⟩;have a0:=ω a0;obtain⟨ag,hG⟩:∃ ag,mR st now q.lease=ag:=⟨_,rfl⟩;rw [hG];have HG:=ω hG;clear hG;have Hq:=ω hq;have ax:=ω bb;clear hq bb;have a6:=ω a7;clear q1 q2 q3 q4 hS a7;unfold bO;unfold jw aT at a6 |-;go_enter Tryz.func54,Tryz.ntmps54
 go_wp2_with fail
 rw [a6.z];clear a6;refine rq 184 (nxV w st x now) [6,7] (NxP w st x now q) ⟨none,none⟩ H0 ?_ ?_
 · clear H0;refine⟨?_,?_,?_,?_,?_,?_,?_,?_,trivial⟩
   · exact ok0 0 2 2 rfl fun _=>rfl
   · refine okQ 0 2 fun p h y b _ _ a c=>?_;obtain⟨u1,e,rfl⟩:=c.g 0 13 rfl rfl;obtain⟨z,U,V,W⟩:=Blk.c4 (a.s);simp [go_sem,Oper.wp,execOp,Act.eval,e,z,U,V,W];exact⟨_,rfl,h,fun _ _ _ u=>u,rfl,a⟩
   · exact ok0 0 2 2 rfl fun _=>rfl
   · refine okQ 0 2 fun p h y b _ _ a c=>?_;obtain⟨u1,e,rfl⟩:=c.g 2 15 rfl rfl;have bj:ζ b w 4 (.int .i64 now):=a.s.cell 4;simp [go_sem,Oper.wp,execOp,Act.eval,e,bj];exact⟨_,rfl,h,fun _ _ _ u=>u,rfl,a⟩
   · refine okQ 0 0 fun p h y b _ _ a c=>?_;obtain rfl:p=0:=by omega
     simp [go_sem,Oper.wp,execOp,Act.eval];exact⟨_,rfl,⟨some b,h.N⟩,Ip _,⟨_,rfl,rfl⟩,a.C8⟩
   · refine okQ 0 0 fun p h y b _ _ a c=>?_;obtain rfl:p=0:=by omega
     simp [go_sem,Oper.wp,execOp,Act.eval];exact⟨_,rfl,⟨h.O,some b⟩,Iq _,⟨_,rfl,rfl⟩,a.C9⟩
   · refine .inl ⟨0,rfl,fun h y b a c=>aJ rfl ?_⟩;obtain⟨u1,e,r1⟩:=c.g 4 7 rfl rfl;obtain⟨u2,J,rfl⟩:=c.g 1 14 rfl rfl;obtain⟨O,eO,r1⟩:=(show ∃ O,h.O=some O/\u1 = .pointer (some ⟨O,0,none⟩) from r1);subst r1;have i:Blk b O 26 lI:=(a.o O eO).2;obtain⟨Y,Z,z2,z3⟩:=Blk.z4 (i);obtain⟨c0,S,c2,T⟩:=Blk.c4 (i);obtain⟨aa,ab⟩:=Blk.S4 i (.int .i64 st.rev) (.slice x.aj x.nj x.cj) (.slice x.an x.nn x.cn) (.slice x.al x.nl x.cl);have X:=a.zy eO ab aa;clear i a;simp [go_sem,Oper.wp,execOp,Act.eval,e,J,c0,S,c2,T,Y,Z,z2,z3];exact⟨.int .i64 0,h,fun _ _ _ u=>u,trivial,X⟩
   · refine .inl ⟨1,rfl,fun h y b a c=>aJ rfl ?_⟩;obtain⟨u1,e,r1⟩:=c.g 5 8 rfl rfl;obtain⟨u2,J,rfl⟩:=c.g 3 16 rfl rfl;obtain⟨N,eN,r1⟩:=(show ∃ N,h.N=some N/\u1 = .pointer (some ⟨N,0,none⟩) from r1);subst r1;have i:Blk b N 3 #[(0:Int)]:=(a.n N eN).2;have Y:κ b N 0:=i.thaw 0;have c0:ζ b N 0 (.int .i64 0):=i.cell 0;have X:=a.JA eN (aQ b N 0 (.int .i64 now)) (Blk.eq (i.set 0 (.int .i64 now)) rfl);clear i a;simp [go_sem,Oper.wp,execOp,Act.eval,e,J,c0,Y];exact⟨.int .i64 0,h,fun _ _ _ u=>u,trivial,X⟩
 intro h ap b B;have a:=B.ph;obtain⟨I,rfl,C⟩:=B.frame [13,14,15,16,7,8] rfl;obtain⟨O,eO,f7⟩:=(show ∃ O,h.O=some O/\I 7 = .pointer (some ⟨O,0,none⟩) from C 4 _ 7 rfl rfl);obtain⟨N,eN,f8⟩:=(show ∃ N,h.N=some N/\I 8 = .pointer (some ⟨N,0,none⟩) from C 5 _ 8 rfl rfl);have d:=ω (show cJ w b O N st x now now q st x from ⟨a.below,a.s,a.q,a.r,(a.o O eO).2,(a.n N eN).2,a.at_,a.at_,(a.o O eO).1,(a.n N eN).1,a.ne O N eO eN,AW.refl _ _⟩);clear B C a H0 eO eN;simp only [foldl_cons,foldl_nil,setIfInBounds_toArray,set_cons_succ,set_cons_zero,f7,f8];clear f7 f8;obtain⟨c0,S,c2,T,c4,c5,c6,c7,c8,c9,ay,aq,bh,bi⟩:=Blk.c14 (d.q);have HC:=ω (show ψ 52 #[.agg (nY q)] b (bH 0 b) from a0.z b);have a2:=d.q.lt;clear a0
 go_wp2_with fail
 refine HC.mono ?_;rintro ar w1 ⟨rfl,aP⟩;have d:=ω (d.kept aP);have a2:=d.q.lt;have aB:=d.s.lt;have aA:=d.o.lt;have a9:=d.n.lt;clear aP HC c0 S c2 T c4 c5 c6 c7 c8 c9 ay aq bh bi;have c0:ζ w1 (w.heap.size+1) 0 (.int .i64 5):=by rw [d.z.q.cell 0,<- Hq.z]; rfl
 have c9:ζ w1 (w.heap.size+1) 9 (.string q.lease.job):=d.q.cell 9;have s1:ζ w1 w 1 (.slice x.aj x.nj x.cj):=d.s.cell 1;have HA:=ω (fJ.1 st.jobs q.lease.job x.aj x.nj x.cj w1 d.at_.j d.at_.lj (by omega))
 go_wp2_with fail
 refine HA.mono ?_;rintro ar w2 ⟨ix,rfl,hb,az⟩;have d:=ω (d.kept hb);clear hb;have aB:=d.s.lt;have a2:=d.q.lt;have aA:=d.o.lt;have a9:=d.n.lt;clear HA;rcases az with ⟨rfl,ai⟩ | ⟨kk,D,rfl,a5,au⟩
 · have HR:=ω (show ag=(6,st,now) from HG.symm.trans (EK ai));clear ai HG
   go_wp2_with fail
   refine rq (Γ:=Unit) 184 (fun _=>Gq st x now 6) [2] (fun p _=>nxE w O N st x now now q st x (p+1)) () (show cJ w (w2).drew O N st x now now q st x from d.drewN) ?_ ?_
   · clear d;refine⟨?_,?_,?_,?_,?_,trivial⟩
     · refine okQ 0 0 fun p h y b _ _ a c=>?_;have e:=c.k 7 rfl;obtain rfl:p=0:=by omega
       have a:=(show cJ w b O N st x now now q st x from jS (by omega) a);obtain⟨z,U,V,W⟩:=Blk.c4 (a.o);simp [go_sem,Oper.wp,execOp,Act.eval,e,z,U,V,W];exact⟨_,rfl,rfl,jT (by omega) a⟩
     · refine okQ 0 1 fun p h y b _ _ a c=>?_;have e:=c.k 8 rfl;have z:ζ b N 0 (.int .i64 now):=(qP a).cell 0;simp [go_sem,Oper.wp,execOp,Act.eval,e,z];exact⟨_,rfl,rfl,a⟩
     · refine .inl ⟨0,rfl,fun h y b a c=>aJ rfl ?_⟩;have e:=c.k 4 rfl;obtain⟨u2,J,rfl⟩:=c.g 0 106 rfl rfl;have a:=(show cJ w b O N st x now now q st x from a);have i:=a.r;obtain⟨Y,Z,z2,z3⟩:=Blk.z4 (i);obtain⟨c0,S,c2,T⟩:=Blk.c4 (i);obtain⟨aa,ab⟩:=Blk.S4 i (.int .i64 st.rev) (.slice x.aj x.nj x.cj) (.slice x.an x.nn x.cn) (.slice x.al x.nl x.cl);have X:nxE w O N st x now now q st x 2 _:=⟨b,a,ab,aa⟩;clear i a;simp [go_sem,Oper.wp,execOp,Act.eval,e,J,c0,S,c2,T,Y,Z,z2,z3];exact⟨⟨.int .i64 0,trivial⟩,X⟩
     · exact ok1 1 1 1 107 rfl rfl (fun _ _ u=>u) fun _=>rfl
     · refine okQ 1 1 fun p h y b _ _ a c=>?_;simp [go_sem,Oper.wp,execOp,Act.eval];exact⟨_,rfl,rfl,a⟩
   intro h ap R B;obtain⟨F,H,P,Q⟩:=(show ∃ F,cJ w F O N st x now now q st x/\F.grownBy R (some (w.heap.size+2))/\Blk R (w.heap.size+2) 26 (stC st x) from B.ph);obtain⟨I,rfl,C⟩:=B.frame [106,107,5,6] rfl;have L:I 5 = .int .i64 now:=C 3 _ 5 rfl rfl;have M:I 6 = .int .i64 6:=C 4 _ 6 rfl rfl;obtain⟨y0,y1,y2,y3⟩:=Blk.c4 (Q);have aW:=ω (H.end_ P 6);clear B C H P Q d;simp only [foldl_cons,foldl_nil,setIfInBounds_toArray,set_cons_succ,set_cons_zero,L,M];clear L M;go_wp2;refine bodyPost_ret (v:=.tuple #[.agg (stC st x),.int .i64 now,.int .i64 6]) (by simp [results,Tryz.results54,go_sem,stC, *]) rfl ?_;rw [HR.z];exact aW
 have d0:decide ((kk:Int)<0)=false:=fQ (by omega);have aM:=ω a5;have aw:=ω au
 have bp:kk<x.nj:=by
  have u:=(List.getElem?_eq_some_iff.1 a5).1;have J:=d.at_.lj;omega
 have ht:=ax.z D (m8 a5);have Ht:=ω ht;clear a5 au ht;have ay:ζ w2 (w.heap.size+1) 10 (.string q.lease.node):=d.q.cell 10;have s2:ζ w2 w 2 (.slice x.an x.nn x.cn):=d.s.cell 2;have HA:=ω (fJ.2 st.nodes q.lease.node x.an x.nn x.cn w2 d.at_.n d.at_.ln (by omega))
 go_wp2_with fail
 refine HA.mono ?_;rintro ar w3 ⟨ix,rfl,hb,az⟩;have d:=ω (d.kept hb);clear hb;have aB:=d.s.lt;have a2:=d.q.lt;have aA:=d.o.lt;have a9:=d.n.lt;clear HA;rcases az with ⟨rfl,ai⟩ | ⟨k2,yy,rfl,bk,aZ⟩
 · have HR:=ω (show ag=(6,st,now) from HG.symm.trans (EL aw.z ai));clear ai HG ax
   go_wp2_with fail
   refine rq (Γ:=Unit) 184 (fun _=>Gq st x now 6) [2] (fun p _=>nxE w O N st x now now q st x (p+1)) () (show cJ w (w3).drew O N st x now now q st x from d.drewN) ?_ ?_
   · clear d;refine⟨?_,?_,?_,?_,?_,trivial⟩
     · refine okQ 0 0 fun p h y b _ _ a c=>?_;have e:=c.k 7 rfl;obtain rfl:p=0:=by omega
       have a:=(show cJ w b O N st x now now q st x from jS (by omega) a);obtain⟨z,U,V,W⟩:=Blk.c4 (a.o);simp [go_sem,Oper.wp,execOp,Act.eval,e,z,U,V,W];exact⟨_,rfl,rfl,jT (by omega) a⟩
     · refine okQ 0 1 fun p h y b _ _ a c=>?_;have e:=c.k 8 rfl;have z:ζ b N 0 (.int .i64 now):=(qP a).cell 0;simp [go_sem,Oper.wp,execOp,Act.eval,e,z];exact⟨_,rfl,rfl,a⟩
     · refine .inl ⟨0,rfl,fun h y b a c=>aJ rfl ?_⟩;have e:=c.k 4 rfl;obtain⟨u2,J,rfl⟩:=c.g 0 106 rfl rfl;have a:=(show cJ w b O N st x now now q st x from a);have i:=a.r;obtain⟨Y,Z,z2,z3⟩:=Blk.z4 (i);obtain⟨c0,S,c2,T⟩:=Blk.c4 (i);obtain⟨aa,ab⟩:=Blk.S4 i (.int .i64 st.rev) (.slice x.aj x.nj x.cj) (.slice x.an x.nn x.cn) (.slice x.al x.nl x.cl);have X:nxE w O N st x now now q st x 2 _:=⟨b,a,ab,aa⟩;clear i a;simp [go_sem,Oper.wp,execOp,Act.eval,e,J,c0,S,c2,T,Y,Z,z2,z3];exact⟨⟨.int .i64 0,trivial⟩,X⟩
     · exact ok1 1 1 1 107 rfl rfl (fun _ _ u=>u) fun _=>rfl
     · refine okQ 1 1 fun p h y b _ _ a c=>?_;simp [go_sem,Oper.wp,execOp,Act.eval];exact⟨_,rfl,rfl,a⟩
   intro h ap R B;obtain⟨F,H,P,Q⟩:=(show ∃ F,cJ w F O N st x now now q st x/\F.grownBy R (some (w.heap.size+2))/\Blk R (w.heap.size+2) 26 (stC st x) from B.ph);obtain⟨I,rfl,C⟩:=B.frame [106,107,5,6] rfl;have L:I 5 = .int .i64 now:=C 3 _ 5 rfl rfl;have M:I 6 = .int .i64 6:=C 4 _ 6 rfl rfl;obtain⟨y0,y1,y2,y3⟩:=Blk.c4 (Q);have aW:=ω (H.end_ P 6);clear B C H P Q d;simp only [foldl_cons,foldl_nil,setIfInBounds_toArray,set_cons_succ,set_cons_zero,L,M];clear L M;go_wp2;refine bodyPost_ret (v:=.tuple #[.agg (stC st x),.int .i64 now,.int .i64 6]) (by simp [results,Tryz.results54,go_sem,stC, *]) rfl ?_;rw [HR.z];exact aW
 have d1:decide ((k2:Int)<0)=false:=fQ (by omega);have Nm:=ω aZ;clear bk aZ;have c9:ζ w3 (w.heap.size+1) 9 (.string q.lease.job):=d.q.cell 9;have s3:ζ w3 w 3 (.slice x.al x.nl x.cl):=d.s.cell 3;have HA:=ω (pZ st.leases q.lease.job x.al x.nl x.cl w3 d.at_.l d.at_.ll (by omega))
 go_wp2_with fail
 refine HA.mono ?_;rintro ar w4 ⟨ix,rfl,hb,az⟩;have d:=ω (d.kept hb);clear hb;have aB:=d.s.lt;have a2:=d.q.lt;have aA:=d.o.lt;have a9:=d.n.lt;clear HA;rcases az with ⟨rfl,ai⟩ | ⟨k3,zz,rfl,bl,ba⟩;rotate_left
 · have HR:=ω (show ag=(7,st,now) from HG.symm.trans (Gs aw.z Nm.z ba));have d2:decide ((k3:Int) >= 0)=true:=t7 (by omega);have d3:decide (0<=(k3:Int))=true:=t7 (by omega);clear bl ba HG ax
   go_wp2_with fail
   refine rq (Γ:=Unit) 184 (fun _=>Gq st x now 7) [2] (fun p _=>nxE w O N st x now now q st x (p+1)) () (show cJ w (w4).drew O N st x now now q st x from d.drewN) ?_ ?_
   · clear d;refine⟨?_,?_,?_,?_,?_,trivial⟩
     · refine okQ 0 0 fun p h y b _ _ a c=>?_;have e:=c.k 7 rfl;obtain rfl:p=0:=by omega
       have a:=(show cJ w b O N st x now now q st x from jS (by omega) a);obtain⟨z,U,V,W⟩:=Blk.c4 (a.o);simp [go_sem,Oper.wp,execOp,Act.eval,e,z,U,V,W];exact⟨_,rfl,rfl,jT (by omega) a⟩
     · refine okQ 0 1 fun p h y b _ _ a c=>?_;have e:=c.k 8 rfl;have z:ζ b N 0 (.int .i64 now):=(qP a).cell 0;simp [go_sem,Oper.wp,execOp,Act.eval,e,z];exact⟨_,rfl,rfl,a⟩
     · refine .inl ⟨0,rfl,fun h y b a c=>aJ rfl ?_⟩;have e:=c.k 4 rfl;obtain⟨u2,J,rfl⟩:=c.g 0 116 rfl rfl;have a:=(show cJ w b O N st x now now q st x from a);have i:=a.r;obtain⟨Y,Z,z2,z3⟩:=Blk.z4 (i);obtain⟨c0,S,c2,T⟩:=Blk.c4 (i);obtain⟨aa,ab⟩:=Blk.S4 i (.int .i64 st.rev) (.slice x.aj x.nj x.cj) (.slice x.an x.nn x.cn) (.slice x.al x.nl x.cl);have X:nxE w O N st x now now q st x 2 _:=⟨b,a,ab,aa⟩;clear i a;simp [go_sem,Oper.wp,execOp,Act.eval,e,J,c0,S,c2,T,Y,Z,z2,z3];exact⟨⟨.int .i64 0,trivial⟩,X⟩
     · exact ok1 1 1 1 117 rfl rfl (fun _ _ u=>u) fun _=>rfl
     · refine okQ 1 1 fun p h y b _ _ a c=>?_;simp [go_sem,Oper.wp,execOp,Act.eval];exact⟨_,rfl,rfl,a⟩
   intro h ap R B;obtain⟨F,H,P,Q⟩:=(show ∃ F,cJ w F O N st x now now q st x/\F.grownBy R (some (w.heap.size+2))/\Blk R (w.heap.size+2) 26 (stC st x) from B.ph);obtain⟨I,rfl,C⟩:=B.frame [116,117,5,6] rfl;have L:I 5 = .int .i64 now:=C 3 _ 5 rfl rfl;have M:I 6 = .int .i64 7:=C 4 _ 6 rfl rfl;obtain⟨y0,y1,y2,y3⟩:=Blk.c4 (Q);have aW:=ω (H.end_ P 7);clear B C H P Q d;simp only [foldl_cons,foldl_nil,setIfInBounds_toArray,set_cons_succ,set_cons_zero,L,M];clear L M;go_wp2;refine bodyPost_ret (v:=.tuple #[.agg (stC st x),.int .i64 now,.int .i64 7]) (by simp [results,Tryz.results54,go_sem,stC, *]) rfl ?_;rw [HR.z];exact aW
 have Pf:=ω ai;clear ai;have aq:ζ w4 (w.heap.size+1) 11 (.int .i64 q.lease.till):=d.q.cell 11;have n0:ζ w4 N 0 (.int .i64 now):=d.n.cell 0;by_cases Ck:q.lease.till<=now
 · have HR:=ω (show ag=(1,st,now) from HG.symm.trans (EM aw.z Nm.z Pf.z Ck));have d2:decide (q.lease.till<=now)=true:=t7 Ck;clear Ck HG ax
   go_wp2_with fail
   refine rq (Γ:=Unit) 184 (fun _=>Gq st x now 1) [2] (fun p _=>nxE w O N st x now now q st x (p+1)) () (show cJ w (w4).drew O N st x now now q st x from d.drewN) ?_ ?_
   · clear d;refine⟨?_,?_,?_,?_,?_,trivial⟩
     · refine okQ 0 0 fun p h y b _ _ a c=>?_;have e:=c.k 7 rfl;obtain rfl:p=0:=by omega
       have a:=(show cJ w b O N st x now now q st x from jS (by omega) a);obtain⟨z,U,V,W⟩:=Blk.c4 (a.o);simp [go_sem,Oper.wp,execOp,Act.eval,e,z,U,V,W];exact⟨_,rfl,rfl,jT (by omega) a⟩
     · refine okQ 0 1 fun p h y b _ _ a c=>?_;have e:=c.k 8 rfl;have z:ζ b N 0 (.int .i64 now):=(qP a).cell 0;simp [go_sem,Oper.wp,execOp,Act.eval,e,z];exact⟨_,rfl,rfl,a⟩
     · refine .inl ⟨0,rfl,fun h y b a c=>aJ rfl ?_⟩;have e:=c.k 4 rfl;obtain⟨u2,J,rfl⟩:=c.g 0 123 rfl rfl;have a:=(show cJ w b O N st x now now q st x from a);have i:=a.r;obtain⟨Y,Z,z2,z3⟩:=Blk.z4 (i);obtain⟨c0,S,c2,T⟩:=Blk.c4 (i);obtain⟨aa,ab⟩:=Blk.S4 i (.int .i64 st.rev) (.slice x.aj x.nj x.cj) (.slice x.an x.nn x.cn) (.slice x.al x.nl x.cl);have X:nxE w O N st x now now q st x 2 _:=⟨b,a,ab,aa⟩;clear i a;simp [go_sem,Oper.wp,execOp,Act.eval,e,J,c0,S,c2,T,Y,Z,z2,z3];exact⟨⟨.int .i64 0,trivial⟩,X⟩
     · exact ok1 1 1 1 124 rfl rfl (fun _ _ u=>u) fun _=>rfl
     · refine okQ 1 1 fun p h y b _ _ a c=>?_;simp [go_sem,Oper.wp,execOp,Act.eval];exact⟨_,rfl,rfl,a⟩
   intro h ap R B;obtain⟨F,H,P,Q⟩:=(show ∃ F,cJ w F O N st x now now q st x/\F.grownBy R (some (w.heap.size+2))/\Blk R (w.heap.size+2) 26 (stC st x) from B.ph);obtain⟨I,rfl,C⟩:=B.frame [123,124,5,6] rfl;have L:I 5 = .int .i64 now:=C 3 _ 5 rfl rfl;have M:I 6 = .int .i64 1:=C 4 _ 6 rfl rfl;obtain⟨y0,y1,y2,y3⟩:=Blk.c4 (Q);have aW:=ω (H.end_ P 1);clear B C H P Q d;simp only [foldl_cons,foldl_nil,setIfInBounds_toArray,set_cons_succ,set_cons_zero,L,M];clear L M;go_wp2;refine bodyPost_ret (v:=.tuple #[.agg (stC st x),.int .i64 now,.int .i64 1]) (by simp [results,Tryz.results54,go_sem,stC, *]) rfl ?_;rw [HR.z];exact aW
 have d2:decide (q.lease.till<=now)=false:=fQ Ck;have Og:=ω Ck;clear Ck;obtain⟨aO,bd,a8,bo,hc⟩:=d.at_.j.dL aU d.at_.lj aM.z;obtain⟨j0,j1,j2,j3,j4⟩:=rc5 hc;have s1:ζ w4 w 1 (.slice (some ⟨aO,bd,none⟩) x.nj x.cj):=by rw [<- a8]; exact d.s.cell 1
 have bq:kk*5+5<=x.nj*5:=by omega
 have b1:=Ht.z.1;have b2:=Ht.z.2;obtain⟨w5,a4⟩:∃ w5,w4.alloc (.cells #[D.name,D.prio,D.need,.int .i64 (D.tries+1),D.tag] 86)=w5:=⟨_,rfl⟩;have aR:Below w4 w4 w5:=by rw [<- a4]; exact (θ).alloc lQ _
 have hJ:Blk w5 w4 86 #[D.name,D.prio,D.need,.int .i64 (D.tries+1),D.tag]:=by rw [<- a4]; exact n5 w4 _
 have ac:=ω (d.kept aR);have HJ:=ω hJ;have a1:=ω a4;have aI:=ω a8;clear a4 aR hJ hc a8;by_cases yx:100<D.tries+1
 · have HR:=ω (show ag=(2,st,now) from HG.symm.trans (Da aw.z Nm.z Pf.z Og.z yx));have d3:decide (100<D.tries+1)=true:=t7 yx;clear yx HG ax
   go_wp2_with fail
   simp only [a1.z];clear a1 HJ d;refine rq (Γ:=Unit) 184 (fun _=>Gq st x now 2) [2] (fun p _=>nxE w O N st x now now q st x (p+1)) () (show cJ w (w5).drew O N st x now now q st x from ac.drewN) ?_ ?_
   · clear ac;refine⟨?_,?_,?_,?_,?_,trivial⟩
     · refine okQ 0 0 fun p h y b _ _ a c=>?_;have e:=c.k 7 rfl;obtain rfl:p=0:=by omega
       have a:=(show cJ w b O N st x now now q st x from jS (by omega) a);obtain⟨z,U,V,W⟩:=Blk.c4 (a.o);simp [go_sem,Oper.wp,execOp,Act.eval,e,z,U,V,W];exact⟨_,rfl,rfl,jT (by omega) a⟩
     · refine okQ 0 1 fun p h y b _ _ a c=>?_;have e:=c.k 8 rfl;have z:ζ b N 0 (.int .i64 now):=(qP a).cell 0;simp [go_sem,Oper.wp,execOp,Act.eval,e,z];exact⟨_,rfl,rfl,a⟩
     · refine .inl ⟨0,rfl,fun h y b a c=>aJ rfl ?_⟩;have e:=c.k 4 rfl;obtain⟨u2,J,rfl⟩:=c.g 0 138 rfl rfl;have a:=(show cJ w b O N st x now now q st x from a);have i:=a.r;obtain⟨Y,Z,z2,z3⟩:=Blk.z4 (i);obtain⟨c0,S,c2,T⟩:=Blk.c4 (i);obtain⟨aa,ab⟩:=Blk.S4 i (.int .i64 st.rev) (.slice x.aj x.nj x.cj) (.slice x.an x.nn x.cn) (.slice x.al x.nl x.cl);have X:nxE w O N st x now now q st x 2 _:=⟨b,a,ab,aa⟩;clear i a;simp [go_sem,Oper.wp,execOp,Act.eval,e,J,c0,S,c2,T,Y,Z,z2,z3];exact⟨⟨.int .i64 0,trivial⟩,X⟩
     · exact ok1 1 1 1 139 rfl rfl (fun _ _ u=>u) fun _=>rfl
     · refine okQ 1 1 fun p h y b _ _ a c=>?_;simp [go_sem,Oper.wp,execOp,Act.eval];exact⟨_,rfl,rfl,a⟩
   intro h ap R B;obtain⟨F,H,P,Q⟩:=(show ∃ F,cJ w F O N st x now now q st x/\F.grownBy R (some (w.heap.size+2))/\Blk R (w.heap.size+2) 26 (stC st x) from B.ph);obtain⟨I,rfl,C⟩:=B.frame [138,139,5,6] rfl;have L:I 5 = .int .i64 now:=C 3 _ 5 rfl rfl;have M:I 6 = .int .i64 2:=C 4 _ 6 rfl rfl;obtain⟨y0,y1,y2,y3⟩:=Blk.c4 (Q);have aW:=ω (H.end_ P 2);clear B C H P Q ac;simp only [foldl_cons,foldl_nil,setIfInBounds_toArray,set_cons_succ,set_cons_zero,L,M];clear L M;go_wp2;refine bodyPost_ret (v:=.tuple #[.agg (stC st x),.int .i64 now,.int .i64 2]) (by simp [results,Tryz.results54,go_sem,stC, *]) rfl ?_;rw [HR.z];exact aW
 have d3:decide (100<D.tries+1)=false:=fQ yx;have HR:=ω (show ag=(aE (jY st D q.lease),jY st D q.lease,now) from HG.symm.trans (JE aw.z Nm.z Pf.z Og.z yx));clear yx HG;have HP:=ω (show ψ 96 #[.slice x.aj x.nj x.cj,.agg #[D.name,D.prio,D.need,.int .i64 (D.tries+1),D.tag],.func (.func 97) #[] #[]] w5 _ from rM.1 (zw D) st.jobs x.aj x.nj x.cj w5 ac.at_.j ac.at_.lj e);rw [aI.z] at HP;have aX:=m8 aM.z;have bf:=ω (d.at_.oj D aX);clear aX d;have k1:ζ w5 w 1 (.slice (some ⟨aO,bd,none⟩) x.nj x.cj):=by rw [<- aI.z]; exact ac.s.cell 1
 have bw:=ac.s.lt;have br:=ac.o.lt
 go_wp2_with fail
 simp only [a1.z];clear a1 HJ s1 j0 j1 j2 j3 j4 n0 aq;refine HP.mono ?_;rintro ar w6 ⟨A,ad,rfl,ho,aS⟩;obtain⟨m,H⟩:∃ m,(jE aC.name st.jobs (zw D)).length=m:=⟨_,rfl⟩
 have bz:m<=1001:=by
  have u:=lY aC.name (zw D) st.jobs false;have J:=ac.at_.lj;rw [<- H];unfold jE;simp only [Bool.false_eq_true,if_false] at u;omega
 have ae:=ac.kept aS;rw [H] at ho |-
 have H7:=ω (show cJ w (sQ w6 O 1 (.slice A m ad)) O N st x now now q ⟨st.rev,jE aC.name st.jobs (zw D),st.nodes,st.leases⟩ ⟨A,m,ad,x.an,x.nn,x.cn,x.al,x.nl,x.cl⟩ from
  ae.zy 1 _ rfl (ae.ao.Lz ad (cS ho) H (by omega) (fun aG hz=>by
   rcases nZ hz with rfl | hz
   · exact bf
   · exact ae.at_.oj aG hz)) ⟨.own ho ac.below.size,ae.new.n,ae.new.l⟩)
 have o1:ζ w6 O 1 (.slice x.aj x.nj x.cj):=ae.o.cell 1;have Z:κ w6 O 1:=ae.o.thaw 1;have bs:=ae.o.lt;obtain⟨w7,aD⟩:∃ w7,w6.setCell ⟨O,1,none⟩ (.slice A m ad)=w7:=⟨_,rfl⟩;rw [aD] at H7;have am:=ω aD;have c9:ζ w7 (w.heap.size+1) 9 (.string q.lease.job):=H7.q.cell 9;have ay:ζ w7 (w.heap.size+1) 10 (.string q.lease.node):=H7.q.cell 10;have aq:ζ w7 (w.heap.size+1) 11 (.int .i64 q.lease.till):=H7.q.cell 11;have s3:ζ w7 w 3 (.slice x.al x.nl x.cl):=H7.s.cell 3;have aH:=ω (show ψ 107 #[.slice x.al x.nl x.cl,.agg #[q.lease.job,q.lease.node,q.lease.till],.func (.func 108) #[] #[]] w7 _ from rM.2.2 q.lease st.leases x.al x.nl x.cl w7 H7.at_.l H7.at_.ll h3);have bx:=H7.s.lt;have bv:=H7.q.lt;have bt:=H7.o.lt;have t9:ζ (sQ w6 O 1 (.slice A m ad)) (w.heap.size+1) 9 (.string q.lease.job):=by rw [am.z]; exact c9
 have bm:ζ (sQ w6 O 1 (.slice A m ad)) (w.heap.size+1) 10 (.string q.lease.node):=by rw [am.z]; exact ay
 have bn:ζ (sQ w6 O 1 (.slice A m ad)) (w.heap.size+1) 11 (.int .i64 q.lease.till):=by rw [am.z]; exact aq
 have t3:ζ (sQ w6 O 1 (.slice A m ad)) w 3 (.slice x.al x.nl x.cl):=by rw [am.z]; exact s3
 clear aD H ho aS ae HP ac k1
 go_wp2_with fail
 simp only [am.z];clear t9 bm bn t3 am o1 Z;refine aH.mono ?_;rintro ar w8 ⟨A2,c2,rfl,ho,aV⟩;obtain⟨m2,a3⟩:∃ m2,(jE ak.job st.leases q.lease).length=m2:=⟨_,rfl⟩
 have b0:m2<=1001:=by
  have u:=lY ak.job q.lease st.leases false;have J:=H7.at_.ll;rw [<- a3];unfold jE;simp only [Bool.false_eq_true,if_false] at u;omega
 obtain⟨K,au⟩:∃ K,jY st D q.lease=K:=⟨_,rfl⟩;have af:=H7.kept aV;rw [a3] at ho |-
 have H9:=ω (show cJ w (sQ w8 O 3 (.slice A2 m2 c2)) O N st x now now q K ⟨A,m,ad,x.an,x.nn,x.cn,A2,m2,c2⟩ from by
  rw [<- au]
  exact af.zy 3 _ rfl (af.ao.Od c2 (cS ho) a3 (by omega) (fun aG hz=>by
   rcases nZ hz with rfl | hz
   · exact⟨aY.l1,aY.l2⟩
   · exact af.at_.ol aG hz)) ⟨af.new.j,af.new.n,.own ho H7.below.size⟩)
 have o3:ζ w8 O 3 (.slice x.al x.nl x.cl):=af.o.cell 3;have z3:κ w8 O 3:=af.o.thaw 3;have bu:=af.o.lt;obtain⟨G,bc⟩:∃ G:StA,⟨A,m,ad,x.an,x.nn,x.cn,A2,m2,c2⟩=G:=⟨_,rfl⟩;rw [bc] at H9;have bg:=ω au;clear bc au a3 ho aV af aH H7 c9 ay aq s3;obtain⟨w9,aF⟩:∃ w9,w8.setCell ⟨O,3,none⟩ (.slice A2 m2 c2)=w9:=⟨_,rfl⟩;rw [aF] at H9;have aK:=ω aF;clear aF
 go_wp2_with fail
 simp only [aK.z];clear aK o3 z3;obtain⟨E,hE⟩:∃ E,aE K=E:=⟨_,rfl⟩;have HE:=ω (show Value.int .i64 (aE K)=Value.int .i64 E from by rw [hE]);have be:=ω hE;clear hE;refine rq (Γ:=Unit) 184 (fun _=>Lw K G now E) [3,4] (fun p _=>nxE w O N st x now now q K G p) () (show cJ w (w9).drew O N st x now now q K G from H9.drewN) ?_ ?_
 · clear H9;refine⟨?_,?_,?_,?_,?_,?_,?_,trivial⟩
   · refine okQ 0 1 fun p h y b _ _ a c=>?_;have e:=c.k 7 rfl;have a:=(show cJ w b O N st x now now q K G from jS (by omega) a);obtain⟨z,U,V,W⟩:=Blk.c4 (a.o);simp [go_sem,Oper.wp,execOp,Act.eval,e,z,U,V,W];exact⟨_,rfl,rfl,jT (by omega) a⟩
   · refine okQ 0 2 fun p h y b _ _ a c=>?_;have e:=c.k 8 rfl;have z:ζ b N 0 (.int .i64 now):=(qP a).cell 0;simp [go_sem,Oper.wp,execOp,Act.eval,e,z];exact⟨_,rfl,rfl,a⟩
   · refine okQ 0 0 fun p h y b _ _ a c=>?_;have e:=c.k 7 rfl;have a:=(show cJ w b O N st x now now q K G from jS (by omega) a);obtain⟨z,U,V,W⟩:=Blk.c4 (a.o);simp [go_sem,Oper.wp,execOp,Act.eval,e,z,U,V,W];exact⟨_,rfl,rfl,jT (by omega) a⟩
   · refine .inl ⟨0,rfl,fun h y b a c=>aJ rfl ?_⟩;obtain⟨u1,e,rfl⟩:=c.g 2 182 rfl rfl;simp [go_sem,Oper.wp,execOp,Act.eval,e];have a:=(show cJ w b O N st x now now q K G from a);refine (lR K G b a.ao).mono ?_;rintro ar w' ⟨rfl,hb⟩;exact⟨_,rfl,HE,a.kept hb⟩
   · refine .inl ⟨1,rfl,fun h y b a c=>aJ rfl ?_⟩;have e:=c.k 4 rfl;obtain⟨u2,J,rfl⟩:=c.g 0 180 rfl rfl;have a:=(show cJ w b O N st x now now q K G from a);have i:=a.r;obtain⟨Y,Z,z2,z3⟩:=Blk.z4 (i);obtain⟨c0,S,c2,T⟩:=Blk.c4 (i);obtain⟨aa,ab⟩:=Blk.S4 i (.int .i64 K.rev) (.slice G.aj G.nj G.cj) (.slice G.an G.nn G.cn) (.slice G.al G.nl G.cl);have X:nxE w O N st x now now q K G 2 _:=⟨b,a,ab,aa⟩;clear i a;simp [go_sem,Oper.wp,execOp,Act.eval,e,J,c0,S,c2,T,Y,Z,z2,z3];exact⟨⟨.int .i64 0,trivial⟩,X⟩
   · exact ok1 2 2 1 181 rfl rfl (fun _ _ u=>u) fun _=>rfl
   · exact ok1 2 2 3 183 rfl rfl (fun _ _ u=>u) fun _=>rfl
 intro h ap R B;obtain⟨F,H,P,Q⟩:=(show ∃ F,cJ w F O N st x now now q K G/\F.grownBy R (some (w.heap.size+2))/\Blk R (w.heap.size+2) 26 (stC K G) from B.ph);obtain⟨I,rfl,C⟩:=B.frame [180,181,182,183,5,6] rfl;have L:I 5 = .int .i64 now:=C 5 _ 5 rfl rfl;have M:I 6 = .int .i64 E:=C 6 _ 6 rfl rfl;obtain⟨y0,y1,y2,y3⟩:=Blk.c4 (Q);have aW:=ω (H.end_ P E);clear B C H P Q H9;simp only [foldl_cons,foldl_nil,setIfInBounds_toArray,set_cons_succ,set_cons_zero,L,M];clear L M;go_wp2;refine bodyPost_ret (v:=.tuple #[.agg (stC K G),.int .i64 now,.int .i64 E]) (by simp [results,Tryz.results54,go_sem,stC, *]) rfl ?_;rw [HR.z,bg.z,be.z];exact aW
end Go.Proofs.YtimglglgcgpjgabGreatDoor
