/- Of the proof of a statement: NxD, NxE. -/
import Derived.Test.YtimglglgcgpjgaaGreatDoorQNxC
set_option linter.unusedVariables false
set_option linter.unusedSimpArgs false
set_option maxRecDepth 100000
set_option maxHeartbeats 8000000
namespace Go.Proofs.YtimglglgcgpjgaaGreatDoor
open List (foldl_cons foldl_nil setIfInBounds_toArray set_cons_succ set_cons_zero)
open Go.RowKit
def mU (st:ah) (now:Int) (l:ak):Int × ah × Int:=
 match cC st.jobs l.job with
 | none=>(6,st,now)
 | some j=>if (bU st.nodes l.node).isSome=false then (6,st,now)
  else if (cD st.leases l.job).isSome=true then (7,st,now)
  else if l.till<=now then (1,st,now)
  else if 100<j.tries+1 then (2,st,now)
  else (aE (j5 st j l),j5 st j l,now)
section
variable {st:ah} {now:Int} {l:ak} {j:aC} {n:av} {k:ak}
theorem ED (h:cC st.jobs l.job=none):mU st now l=(6,st,now):=by unfold mU; rw [h]
theorem EE (h:cC st.jobs l.job=some j) (a:bU st.nodes l.node=none):mU st now l=(6,st,now):=by unfold mU; rw [h,a]; rfl
theorem Gm (h:cC st.jobs l.job=some j) (a:bU st.nodes l.node=some n) (b:cD st.leases l.job=some k):mU st now l=(7,st,now):=by unfold mU; rw [h,a,b]; rfl
theorem EF (h:cC st.jobs l.job=some j) (a:bU st.nodes l.node=some n) (b:cD st.leases l.job=none) (c:l.till<=now):mU st now l=(1,st,now):=by unfold mU; rw [h,a,b]; simp [c]
theorem C8 (h:cC st.jobs l.job=some j) (a:bU st.nodes l.node=some n) (b:cD st.leases l.job=none) (c:¬ l.till<=now) (d:100<j.tries+1):mU st now l=(2,st,now):=by unfold mU; rw [h,a,b]; simp [c,d]
theorem Jo (h:cC st.jobs l.job=some j) (a:bU st.nodes l.node=some n) (b:cD st.leases l.job=none) (c:¬ l.till<=now) (d:¬ 100<j.tries+1):mU st now l=(aE (j5 st j l),j5 st j l,now):=by unfold mU; rw [h,a,b]; simp [c,d]
end
theorem ug :
 (∀ (q:aK) (st:ah) (x:StA) (now:Int) (w:World) (hS:StAt w w st x) (d:x.nj<=1000) (H:x.nn<=1000) (h3:x.nl<=1000) (au:ROk q) (ae:∀ af,ψ 55 #[bP q] af (bG 0 af)) (hq:q.kind=7) (bt:0<=now) (bu:now<=1099511627776) (bv:0<=q.n) (bw:q.n<=1099511627776),ψ 57 #[.agg (iB st x now),bP q] w (iQ x (if 1099511627776<now+q.n then (1,st,now+q.n) else (aE (nF st (now+q.n)),nF st (now+q.n),now+q.n)) w)) /\
 (∀ (q:aK) (st:ah) (x:StA) (now:Int) (w:World) (hS:StAt w w st x) (d:x.nj<=1000) (H:x.nn<=1000) (h3:x.nl<=1000) (au:ROk q) (ae:∀ af,ψ 55 #[bP q] af (bG 0 af)) (hq:8<=q.kind),ψ 57 #[.agg (iB st x now),bP q] w (iQ x (aE st,st,now) w)) /\
 (∀ (E:Int) (q:aK) (st:ah) (x:StA) (now:Int) (w:World) (hS:StAt w w st x) (d:x.nj<=1000) (H:x.nn<=1000) (h3:x.nl<=1000) (au:ROk q) (ae:∀ af,ψ 55 #[bP q] af (bG E af)) (hE:E≠0),ψ 57 #[.agg (iB st x now),bP q] w (iQ x (E,st,now) w)) /\
 (∀ (q:aK) (st:ah) (x:StA) (now:Int) (w:World) (hS:StAt w w st x) (d:x.nj<=1000) (H:x.nn<=1000) (h3:x.nl<=1000) (au:ROk q) (ae:∀ af,ψ 55 #[bP q] af (bG 0 af)) (hq:q.kind=5) (aQ:∀ j ∈ st.jobs,0<=j.tries/\j.tries<=100),ψ 57 #[.agg (iB st x now),bP q] w (iQ x (mU st now q.lease) w)):=by
 refine⟨@fun q st x now w hS d H h3 au ae hq bt bu bv bw=>(fun(a2:Unit)=>?_) (),@fun q st x now w hS d H h3 au ae hq=>(fun(aG:Unit)=>?_) (),@fun E q st x now w hS d H h3 au ae hE=>(fun(aY:Unit)=>?_) (),@fun q st x now w hS d H h3 au ae hq aQ=>(fun(a7:Unit)=>?_) ()⟩<;>(
 obtain⟨q1,q2,q3,q4⟩:=qG w (iB st x now) (aV q) lP (ta:=36) (tb:=87) (tc:=26);obtain⟨W0,aJ⟩:∃ W0,((w.alloc (.cells (iB st x now) 36)).alloc (.cells (aV q) 87)).alloc (.cells lP 26)=W0:=⟨_,rfl⟩;rw [aJ] at q1 q2 q3 q4;have H0:NxP w st x now q 0 ⟨none,none⟩ W0.drew:=⟨q4.drew,q1,q2,q3,(hS.upS q4).drew,fun O z=>(by cases z),fun N z=>(by cases z),fun O N z=>(by cases z)⟩;have ae:=ω ae
 first
  |(
   guard_hyp a2
   obtain⟨ac,hG⟩:∃ ac,(if 1099511627776<now+q.n then (1,st,now+q.n) else (aE (nF st (now+q.n)),nF st (now+q.n),now+q.n))=ac:=⟨_,rfl⟩;rw [hG];have HG:=ω hG;clear hG;have Hq:=ω hq;clear hq)
  |(
   guard_hyp aG
   have d1:(q.kind == 1)=false:=eY (by omega);have d2:(q.kind == 2)=false:=eY (by omega);have d3:(q.kind == 3)=false:=eY (by omega);have d4:(q.kind == 4)=false:=eY (by omega);have d5:(q.kind == 5)=false:=eY (by omega);have d6:(q.kind == 6)=false:=eY (by omega);have d7:(q.kind == 7)=false:=eY (by omega);clear hq)
  |(
   guard_hyp a7
   obtain⟨ac,hG⟩:∃ ac,mU st now q.lease=ac:=⟨_,rfl⟩;rw [hG];have HG:=ω hG;clear hG;have Hq:=ω hq;have a4:=ω aQ;clear hq aQ)
  |skip
 have aH:=ω aJ;clear q1 q2 q3 q4 hS aJ;unfold bP;unfold iB aV at aH |-;go_enter Tryz.func57,Tryz.ntmps57
 go_wp2_with fail
 rw [aH.z];clear aH;refine rq 184 (nxV w st x now) [6,7] (NxP w st x now q) ⟨none,none⟩ H0 ?_ ?_
 · clear H0;refine⟨?_,?_,?_,?_,?_,?_,?_,?_,trivial⟩
   · exact ok0 0 2 2 rfl fun _=>rfl
   · refine okQ 0 2 fun p h u b _ _ a c=>?_;obtain⟨u1,d,rfl⟩:=c.g 0 13 rfl rfl;obtain⟨y,S,T,U⟩:=Blk.c4 (a.s);simp [go_sem,Oper.wp,execOp,Act.eval,d,y,S,T,U];exact⟨_,rfl,h,fun _ _ _ z=>z,rfl,a⟩
   · exact ok0 0 2 2 rfl fun _=>rfl
   · refine okQ 0 2 fun p h u b _ _ a c=>?_;obtain⟨u1,d,rfl⟩:=c.g 2 15 rfl rfl;have bs:ζ b w 4 (.int .i64 now):=a.s.cell 4;simp [go_sem,Oper.wp,execOp,Act.eval,d,bs];exact⟨_,rfl,h,fun _ _ _ z=>z,rfl,a⟩
   · refine okQ 0 0 fun p h u b _ _ a c=>?_;obtain rfl:p=0:=by omega
     simp [go_sem,Oper.wp,execOp,Act.eval];exact⟨_,rfl,⟨some b,h.N⟩,Kp _,⟨_,rfl,rfl⟩,a.FI⟩
   · refine okQ 0 0 fun p h u b _ _ a c=>?_;obtain rfl:p=0:=by omega
     simp [go_sem,Oper.wp,execOp,Act.eval];exact⟨_,rfl,⟨h.O,some b⟩,Kq _,⟨_,rfl,rfl⟩,a.FJ⟩
   · refine .inl ⟨0,rfl,fun h u b a c=>aL rfl ?_⟩;obtain⟨u1,d,r1⟩:=c.g 4 7 rfl rfl;obtain⟨u2,H,rfl⟩:=c.g 1 14 rfl rfl;obtain⟨O,eO,r1⟩:=(show ∃ O,h.O=some O/\u1 = .pointer (some ⟨O,0,none⟩) from r1);subst r1;have i:Blk b O 26 lP:=(a.o O eO).2;obtain⟨W,z1,z2,z3⟩:=Blk.z4 (i);obtain⟨c0,X,c2,Y⟩:=Blk.c4 (i);obtain⟨aa,ab⟩:=Blk.S4 i (.int .i64 st.rev) (.slice x.aj x.nj x.cj) (.slice x.an x.nn x.cn) (.slice x.al x.nl x.cl);have Z:=a.Al eO ab aa;clear i a;simp [go_sem,Oper.wp,execOp,Act.eval,d,H,c0,X,c2,Y,W,z1,z2,z3];exact⟨.int .i64 0,h,fun _ _ _ z=>z,trivial,Z⟩
   · refine .inl ⟨1,rfl,fun h u b a c=>aL rfl ?_⟩;obtain⟨u1,d,r1⟩:=c.g 5 8 rfl rfl;obtain⟨u2,H,rfl⟩:=c.g 3 16 rfl rfl;obtain⟨N,eN,r1⟩:=(show ∃ N,h.N=some N/\u1 = .pointer (some ⟨N,0,none⟩) from r1);subst r1;have i:Blk b N 3 #[(0:Int)]:=(a.n N eN).2;have W:κ b N 0:=i.thaw 0;have c0:ζ b N 0 (.int .i64 0):=i.cell 0;have Z:=a.Ko eN (aR b N 0 (.int .i64 now)) (Blk.eq (i.set 0 (.int .i64 now)) rfl);clear i a;simp [go_sem,Oper.wp,execOp,Act.eval,d,H,c0,W];exact⟨.int .i64 0,h,fun _ _ _ z=>z,trivial,Z⟩
 intro h ag b C;have a:=C.ph;obtain⟨K,rfl,D⟩:=C.frame [13,14,15,16,7,8] rfl;obtain⟨O,eO,f7⟩:=(show ∃ O,h.O=some O/\K 7 = .pointer (some ⟨O,0,none⟩) from D 4 _ 7 rfl rfl);obtain⟨N,eN,f8⟩:=(show ∃ N,h.N=some N/\K 8 = .pointer (some ⟨N,0,none⟩) from D 5 _ 8 rfl rfl);have e:=ω (show cK w b O N st x now now q st x from ⟨a.below,a.s,a.q,a.r,(a.o O eO).2,(a.n N eN).2,a.at_,a.at_,(a.o O eO).1,(a.n N eN).1,a.ne O N eO eN,BL.refl _ _⟩);clear C D a H0 eO eN;simp only [foldl_cons,foldl_nil,setIfInBounds_toArray,set_cons_succ,set_cons_zero,f7,f8];clear f7 f8;obtain⟨c0,X,c2,Y,c4,c5,c6,c7,c8,c9,a5,az,br,aI⟩:=Blk.c14 (e.q)
 first|(guard_hyp aY;have HC:=ω (show ψ 55 #[.agg (oL q)] b (bG E b) from ae.z b))|have HC:=ω (show ψ 55 #[.agg (oL q)] b (bG 0 b) from ae.z b)
 have aA:=e.q.lt;clear ae
 go_wp2_with fail
 refine HC.mono ?_;rintro ap w1 ⟨rfl,bf⟩;have e:=ω (e.kept bf);have aA:=e.q.lt;have aP:=e.s.lt;have aO:=e.o.lt;have aN:=e.n.lt;clear bf HC c0 X c2 Y c4 c5 c6 c7 c8 c9 a5 az br aI
 first
  |(
   guard_hyp a2
   have c0:ζ w1 (w.heap.size+1) 0 (.int .i64 7):=by rw [e.z.q.cell 0]; exact congrArg (fun k=>some (Value.int .i64 k)) Hq.z
   have aI:ζ w1 (w.heap.size+1) 13 (.int .i64 q.n):=e.q.cell 13;have n0:ζ w1 N 0 (.int .i64 now):=e.n.cell 0;have W:κ w1 N 0:=e.n.thaw 0;obtain⟨w2,aS⟩:∃ w2,w1.setCell ⟨N,0,none⟩ (.int .i64 (now+q.n))=w2:=⟨_,rfl⟩;have H2:=ω (show cK w w2 O N st x now (now+q.n) q st x from by rw [<- aS]; exact e.Ko (now+q.n));have a8:=ω aS)
  |(
   guard_hyp aG
   have c0:ζ w1 (w.heap.size+1) 0 (.int .i64 q.kind):=e.q.cell 0
   go_wp2_with fail
   obtain⟨E,hE⟩:∃ E,aE st=E:=⟨_,rfl⟩;have HE:=ω (show Value.int .i64 (aE st)=Value.int .i64 E from by rw [hE]);have a3:=ω hE)
  |(
   guard_hyp aY
   have d1:(E != 0)=true:=by simpa using hE)
  |(
   guard_hyp a7
   have c0:ζ w1 (w.heap.size+1) 0 (.int .i64 5):=by rw [e.z.q.cell 0]; exact congrArg (fun k=>some (Value.int .i64 k)) Hq.z
   have c9:ζ w1 (w.heap.size+1) 9 (.string q.lease.job):=e.q.cell 9;have s1:ζ w1 w 1 (.slice x.aj x.nj x.cj):=e.s.cell 1;have HA:=ω (fJ.1 st.jobs q.lease.job x.aj x.nj x.cj w1 e.at_.j e.at_.lj (by omega)))
 first|(guard_hyp a2;clear aS)|(guard_hyp aG;clear hE)|go_wp2_with fail
 first
  |(
   guard_hyp a2
   have e:=H2)
  |(
   guard_hyp aG
   refine rq (Γ:=Unit) 184 (fun _=>Kr st x now E) [3,4] (fun p _=>nxE w O N st x now now q st x p) () (show cK w (w1).drew O N st x now now q st x from e.drewN) ?_ ?_
   · clear e;refine⟨?_,?_,?_,?_,?_,?_,?_,trivial⟩
     · refine okQ 0 1 fun p h u b _ _ a c=>?_;have d:=c.k 7 rfl;have a:=(show cK w b O N st x now now q st x from jT (by omega) a);obtain⟨y,S,T,U⟩:=Blk.c4 (a.o);simp [go_sem,Oper.wp,execOp,Act.eval,d,y,S,T,U];exact⟨_,rfl,rfl,jU (by omega) a⟩
     · refine okQ 0 2 fun p h u b _ _ a c=>?_;have d:=c.k 8 rfl;have y:ζ b N 0 (.int .i64 now):=(qF a).cell 0;simp [go_sem,Oper.wp,execOp,Act.eval,d,y];exact⟨_,rfl,rfl,a⟩
     · refine okQ 0 0 fun p h u b _ _ a c=>?_;have d:=c.k 7 rfl;have a:=(show cK w b O N st x now now q st x from jT (by omega) a);obtain⟨y,S,T,U⟩:=Blk.c4 (a.o);simp [go_sem,Oper.wp,execOp,Act.eval,d,y,S,T,U];exact⟨_,rfl,rfl,jU (by omega) a⟩
     · refine .inl ⟨0,rfl,fun h u b a c=>aL rfl ?_⟩;obtain⟨u1,d,rfl⟩:=c.g 2 182 rfl rfl;simp [go_sem,Oper.wp,execOp,Act.eval,d];have a:=(show cK w b O N st x now now q st x from a);refine (lQ st x b a.ao).mono ?_;rintro ap w' ⟨rfl,hb⟩;exact⟨_,rfl,HE,a.kept hb⟩
     · refine .inl ⟨1,rfl,fun h u b a c=>aL rfl ?_⟩;have d:=c.k 4 rfl;obtain⟨u2,H,rfl⟩:=c.g 0 180 rfl rfl;have a:=(show cK w b O N st x now now q st x from a);have i:=a.r;obtain⟨W,z1,z2,z3⟩:=Blk.z4 (i);obtain⟨c0,X,c2,Y⟩:=Blk.c4 (i);obtain⟨aa,ab⟩:=Blk.S4 i (.int .i64 st.rev) (.slice x.aj x.nj x.cj) (.slice x.an x.nn x.cn) (.slice x.al x.nl x.cl);have Z:nxE w O N st x now now q st x 2 _:=⟨b,a,ab,aa⟩;clear i a;simp [go_sem,Oper.wp,execOp,Act.eval,d,H,c0,X,c2,Y,W,z1,z2,z3];exact⟨⟨.int .i64 0,trivial⟩,Z⟩
     · exact ok1 2 2 1 181 rfl rfl (fun _ _ z=>z) fun _=>rfl
     · exact ok1 2 2 3 183 rfl rfl (fun _ _ z=>z) fun _=>rfl
   intro h ag R C;obtain⟨F,I,P,Q⟩:=(show ∃ F,cK w F O N st x now now q st x/\F.grownBy R (some (w.heap.size+2))/\Blk R (w.heap.size+2) 26 (stC st x) from C.ph);obtain⟨K,rfl,D⟩:=C.frame [180,181,182,183,5,6] rfl;have L:K 5 = .int .i64 now:=D 5 _ 5 rfl rfl;have M:K 6 = .int .i64 E:=D 6 _ 6 rfl rfl;obtain⟨y0,y1,y2,y3⟩:=Blk.c4 (Q);have aW:=ω (I.end_ P E);clear C D I P Q e;simp only [foldl_cons,foldl_nil,setIfInBounds_toArray,set_cons_succ,set_cons_zero,L,M];clear L M;go_wp2;refine bodyPost_ret (v:=.tuple #[.agg (stC st x),.int .i64 now,.int .i64 E]) (by simp [results,Tryz.results57,go_sem,stC, *]) rfl ?_;rw [a3.z])
  |(
   guard_hyp aY
   refine rq (Γ:=Unit) 184 (fun _=>nxGV st x now E) [3] (fun p _=>nxE w O N st x now now q st x (p+1)) () (show cK w (w1).drew O N st x now now q st x from e.drewN) ?_ ?_
   · clear e;refine⟨?_,?_,?_,?_,?_,?_,trivial⟩
     · refine okQ 0 0 fun p h u b _ _ a c=>?_;have d:=c.k 7 rfl;obtain rfl:p=0:=by omega
       have a:=(show cK w b O N st x now now q st x from jT (by omega) a);obtain⟨y,S,T,U⟩:=Blk.c4 (a.o);simp [go_sem,Oper.wp,execOp,Act.eval,d,y,S,T,U];exact⟨_,rfl,rfl,jU (by omega) a⟩
     · refine okQ 0 1 fun p h u b _ _ a c=>?_;have d:=c.k 8 rfl;have y:ζ b N 0 (.int .i64 now):=(qF a).cell 0;simp [go_sem,Oper.wp,execOp,Act.eval,d,y];exact⟨_,rfl,rfl,a⟩
     · exact ok0 0 1 9 rfl fun _=>rfl
     · refine .inl ⟨0,rfl,fun h u b a c=>aL rfl ?_⟩;have d:=c.k 4 rfl;obtain⟨u2,H,rfl⟩:=c.g 0 21 rfl rfl;have a:=(show cK w b O N st x now now q st x from a);have i:=a.r;obtain⟨W,z1,z2,z3⟩:=Blk.z4 (i);obtain⟨c0,X,c2,Y⟩:=Blk.c4 (i);obtain⟨aa,ab⟩:=Blk.S4 i (.int .i64 st.rev) (.slice x.aj x.nj x.cj) (.slice x.an x.nn x.cn) (.slice x.al x.nl x.cl);have Z:nxE w O N st x now now q st x 2 _:=⟨b,a,ab,aa⟩;clear i a;simp [go_sem,Oper.wp,execOp,Act.eval,d,H,c0,X,c2,Y,W,z1,z2,z3];exact⟨⟨.int .i64 0,trivial⟩,Z⟩
     · exact ok1 1 1 1 22 rfl rfl (fun _ _ z=>z) fun _=>rfl
     · exact ok1 1 1 2 23 rfl rfl (fun _ _ z=>z) fun _=>rfl
   intro h ag R C;obtain⟨F,I,P,Q⟩:=(show ∃ F,cK w F O N st x now now q st x/\F.grownBy R (some (w.heap.size+2))/\Blk R (w.heap.size+2) 26 (stC st x) from C.ph);obtain⟨K,rfl,D⟩:=C.frame [21,22,23,5,6] rfl;have L:K 5 = .int .i64 now:=D 4 _ 5 rfl rfl;have M:K 6 = .int .i64 E:=D 5 _ 6 rfl rfl;obtain⟨y0,y1,y2,y3⟩:=Blk.c4 (Q);have aW:=ω (I.end_ P E);clear C D I P Q e;simp only [foldl_cons,foldl_nil,setIfInBounds_toArray,set_cons_succ,set_cons_zero,L,M];clear L M;go_wp2;refine bodyPost_ret (v:=.tuple #[.agg (stC st x),.int .i64 now,.int .i64 E]) (by simp [results,Tryz.results57,go_sem,stC, *]) rfl ?_
   skip)
  |(
   guard_hyp a7
   refine HA.mono ?_;rintro ap w2 ⟨ix,rfl,hb,a6⟩;have e:=ω (e.kept hb))
 first|(guard_hyp a2;clear H2)|(guard_hyp a7;clear hb)|exact aW
 first
  |(
   guard_hyp a2
   obtain⟨J,a1⟩:∃ J,now+q.n=J:=⟨_,rfl⟩;have b2:=ω a1;rw [a1] at e;have b6:=e.o.lt;have bC:=e.s.lt;by_cases a0:1099511627776<now+q.n
   · have HR:=ω (show ac=(1,st,J) from HG.symm.trans (by rw [if_pos a0,a1]));have d1:decide (1099511627776<now+q.n)=true:=t8 a0;clear a0 a1
     go_wp2_with fail
     simp only [a8.z];clear a8;refine rq (Γ:=Unit) 184 (fun _=>Gl st x J 1) [2] (fun p _=>nxE w O N st x now J q st x (p+1)) () (show cK w (w2).drew O N st x now J q st x from e.drewN) ?_ ?_
     · clear e;refine⟨?_,?_,?_,?_,?_,trivial⟩
       · refine okQ 0 0 fun p h u b _ _ a c=>?_;have d:=c.k 7 rfl;obtain rfl:p=0:=by omega
         have a:=(show cK w b O N st x now J q st x from jT (by omega) a);obtain⟨y,S,T,U⟩:=Blk.c4 (a.o);simp [go_sem,Oper.wp,execOp,Act.eval,d,y,S,T,U];exact⟨_,rfl,rfl,jU (by omega) a⟩
       · refine okQ 0 1 fun p h u b _ _ a c=>?_;have d:=c.k 8 rfl;have y:ζ b N 0 (.int .i64 J):=(qF a).cell 0;simp [go_sem,Oper.wp,execOp,Act.eval,d,y];exact⟨_,rfl,rfl,a⟩
       · refine .inl ⟨0,rfl,fun h u b a c=>aL rfl ?_⟩;have d:=c.k 4 rfl;obtain⟨u2,H,rfl⟩:=c.g 0 175 rfl rfl;have a:=(show cK w b O N st x now J q st x from a);have i:=a.r;obtain⟨W,z1,z2,z3⟩:=Blk.z4 (i);obtain⟨c0,X,c2,Y⟩:=Blk.c4 (i);obtain⟨aa,ab⟩:=Blk.S4 i (.int .i64 st.rev) (.slice x.aj x.nj x.cj) (.slice x.an x.nn x.cn) (.slice x.al x.nl x.cl);have Z:nxE w O N st x now J q st x 2 _:=⟨b,a,ab,aa⟩;clear i a;simp [go_sem,Oper.wp,execOp,Act.eval,d,H,c0,X,c2,Y,W,z1,z2,z3];exact⟨⟨.int .i64 0,trivial⟩,Z⟩
       · exact ok1 1 1 1 176 rfl rfl (fun _ _ z=>z) fun _=>rfl
       · refine okQ 1 1 fun p h u b _ _ a c=>?_;simp [go_sem,Oper.wp,execOp,Act.eval];exact⟨_,rfl,rfl,a⟩
     intro h ag R C;obtain⟨F,I,P,Q⟩:=(show ∃ F,cK w F O N st x now J q st x/\F.grownBy R (some (w.heap.size+2))/\Blk R (w.heap.size+2) 26 (stC st x) from C.ph);obtain⟨K,rfl,D⟩:=C.frame [175,176,5,6] rfl;have L:K 5 = .int .i64 J:=D 3 _ 5 rfl rfl;have M:K 6 = .int .i64 1:=D 4 _ 6 rfl rfl;obtain⟨y0,y1,y2,y3⟩:=Blk.c4 (Q);have aW:=ω (I.end_ P 1);clear C D I P Q e;simp only [foldl_cons,foldl_nil,setIfInBounds_toArray,set_cons_succ,set_cons_zero,L,M];clear L M;go_wp2;refine bodyPost_ret (v:=.tuple #[.agg (stC st x),.int .i64 J,.int .i64 1]) (by simp [results,Tryz.results57,go_sem,stC, *]) rfl ?_;rw [HR.z];exact aW
   · have HR:=ω (show ac=(aE (nF st J),nF st J,J) from HG.symm.trans (by rw [if_neg a0,a1]));have d1:decide (1099511627776<now+q.n)=false:=fK a0;clear a0 a1;have HL:=ω (wB (fun l=>decide (l.till<=J)) 112 #[π N 0] w w2 O N st x now J q st x e.z h3 (enters_of Tryz.func112 (by kernel_rfl) rfl) (Ol N J st.leases w2 e.n));clear e
     go_wp2_with fail
     simp only [a8.z];clear a8 c0 aI n0 W;refine HL.mono ?_;rintro ap w5 ⟨rfl,B,bk⟩;have H5:=ω bk;clear bk HL;obtain⟨G,am⟩:∃ G,nF st J=G:=⟨_,rfl⟩;have H5:=ω (show cK w w5 O N st x now J q G B from by rw [<- am]; exact H5);have ax:=ω am;clear am
     go_wp2_with fail
     obtain⟨E,hE⟩:∃ E,aE G=E:=⟨_,rfl⟩;have HE:=ω (show Value.int .i64 (aE G)=Value.int .i64 E from by rw [hE]);have a3:=ω hE;clear hE;refine rq (Γ:=Unit) 184 (fun _=>Kr G B J E) [3,4] (fun p _=>nxE w O N st x now J q G B p) () (show cK w (w5).drew O N st x now J q G B from H5.drewN) ?_ ?_
     · clear H5;refine⟨?_,?_,?_,?_,?_,?_,?_,trivial⟩
       · refine okQ 0 1 fun p h u b _ _ a c=>?_;have d:=c.k 7 rfl;have a:=(show cK w b O N st x now J q G B from jT (by omega) a);obtain⟨y,S,T,U⟩:=Blk.c4 (a.o);simp [go_sem,Oper.wp,execOp,Act.eval,d,y,S,T,U];exact⟨_,rfl,rfl,jU (by omega) a⟩
       · refine okQ 0 2 fun p h u b _ _ a c=>?_;have d:=c.k 8 rfl;have y:ζ b N 0 (.int .i64 J):=(qF a).cell 0;simp [go_sem,Oper.wp,execOp,Act.eval,d,y];exact⟨_,rfl,rfl,a⟩
       · refine okQ 0 0 fun p h u b _ _ a c=>?_;have d:=c.k 7 rfl;have a:=(show cK w b O N st x now J q G B from jT (by omega) a);obtain⟨y,S,T,U⟩:=Blk.c4 (a.o);simp [go_sem,Oper.wp,execOp,Act.eval,d,y,S,T,U];exact⟨_,rfl,rfl,jU (by omega) a⟩
       · refine .inl ⟨0,rfl,fun h u b a c=>aL rfl ?_⟩;obtain⟨u1,d,rfl⟩:=c.g 2 182 rfl rfl;simp [go_sem,Oper.wp,execOp,Act.eval,d];have a:=(show cK w b O N st x now J q G B from a);refine (lQ G B b a.ao).mono ?_;rintro ap w' ⟨rfl,hb⟩;exact⟨_,rfl,HE,a.kept hb⟩
       · refine .inl ⟨1,rfl,fun h u b a c=>aL rfl ?_⟩;have d:=c.k 4 rfl;obtain⟨u2,H,rfl⟩:=c.g 0 180 rfl rfl;have a:=(show cK w b O N st x now J q G B from a);have i:=a.r;obtain⟨W,z1,z2,z3⟩:=Blk.z4 (i);obtain⟨c0,X,c2,Y⟩:=Blk.c4 (i);obtain⟨aa,ab⟩:=Blk.S4 i (.int .i64 G.rev) (.slice B.aj B.nj B.cj) (.slice B.an B.nn B.cn) (.slice B.al B.nl B.cl);have Z:nxE w O N st x now J q G B 2 _:=⟨b,a,ab,aa⟩;clear i a;simp [go_sem,Oper.wp,execOp,Act.eval,d,H,c0,X,c2,Y,W,z1,z2,z3];exact⟨⟨.int .i64 0,trivial⟩,Z⟩
       · exact ok1 2 2 1 181 rfl rfl (fun _ _ z=>z) fun _=>rfl
       · exact ok1 2 2 3 183 rfl rfl (fun _ _ z=>z) fun _=>rfl
     intro h ag R C;obtain⟨F,I,P,Q⟩:=(show ∃ F,cK w F O N st x now J q G B/\F.grownBy R (some (w.heap.size+2))/\Blk R (w.heap.size+2) 26 (stC G B) from C.ph);obtain⟨K,rfl,D⟩:=C.frame [180,181,182,183,5,6] rfl;have L:K 5 = .int .i64 J:=D 5 _ 5 rfl rfl;have M:K 6 = .int .i64 E:=D 6 _ 6 rfl rfl;obtain⟨y0,y1,y2,y3⟩:=Blk.c4 (Q);have aW:=ω (I.end_ P E);clear C D I P Q H5;simp only [foldl_cons,foldl_nil,setIfInBounds_toArray,set_cons_succ,set_cons_zero,L,M];clear L M;go_wp2;refine bodyPost_ret (v:=.tuple #[.agg (stC G B),.int .i64 J,.int .i64 E]) (by simp [results,Tryz.results57,go_sem,stC, *]) rfl ?_;rw [HR.z,ax.z,a3.z];exact aW)
  |(
   guard_hyp a7
   have aP:=e.s.lt;have aA:=e.q.lt;have aO:=e.o.lt;have aN:=e.n.lt;clear HA;rcases a6 with ⟨rfl,aw⟩ | ⟨kk,V,rfl,aF,am⟩
   · have HR:=ω (show ac=(6,st,now) from HG.symm.trans (ED aw));clear aw HG
     go_wp2_with fail
     refine rq (Γ:=Unit) 184 (fun _=>Gl st x now 6) [2] (fun p _=>nxE w O N st x now now q st x (p+1)) () (show cK w (w2).drew O N st x now now q st x from e.drewN) ?_ ?_
     · clear e;refine⟨?_,?_,?_,?_,?_,trivial⟩
       · refine okQ 0 0 fun p h u b _ _ a c=>?_;have d:=c.k 7 rfl;obtain rfl:p=0:=by omega
         have a:=(show cK w b O N st x now now q st x from jT (by omega) a);obtain⟨y,S,T,U⟩:=Blk.c4 (a.o);simp [go_sem,Oper.wp,execOp,Act.eval,d,y,S,T,U];exact⟨_,rfl,rfl,jU (by omega) a⟩
       · refine okQ 0 1 fun p h u b _ _ a c=>?_;have d:=c.k 8 rfl;have y:ζ b N 0 (.int .i64 now):=(qF a).cell 0;simp [go_sem,Oper.wp,execOp,Act.eval,d,y];exact⟨_,rfl,rfl,a⟩
       · refine .inl ⟨0,rfl,fun h u b a c=>aL rfl ?_⟩;have d:=c.k 4 rfl;obtain⟨u2,H,rfl⟩:=c.g 0 106 rfl rfl;have a:=(show cK w b O N st x now now q st x from a);have i:=a.r;obtain⟨W,z1,z2,z3⟩:=Blk.z4 (i);obtain⟨c0,X,c2,Y⟩:=Blk.c4 (i);obtain⟨aa,ab⟩:=Blk.S4 i (.int .i64 st.rev) (.slice x.aj x.nj x.cj) (.slice x.an x.nn x.cn) (.slice x.al x.nl x.cl);have Z:nxE w O N st x now now q st x 2 _:=⟨b,a,ab,aa⟩;clear i a;simp [go_sem,Oper.wp,execOp,Act.eval,d,H,c0,X,c2,Y,W,z1,z2,z3];exact⟨⟨.int .i64 0,trivial⟩,Z⟩
       · exact ok1 1 1 1 107 rfl rfl (fun _ _ z=>z) fun _=>rfl
       · refine okQ 1 1 fun p h u b _ _ a c=>?_;simp [go_sem,Oper.wp,execOp,Act.eval];exact⟨_,rfl,rfl,a⟩
     intro h ag R C;obtain⟨F,I,P,Q⟩:=(show ∃ F,cK w F O N st x now now q st x/\F.grownBy R (some (w.heap.size+2))/\Blk R (w.heap.size+2) 26 (stC st x) from C.ph);obtain⟨K,rfl,D⟩:=C.frame [106,107,5,6] rfl;have L:K 5 = .int .i64 now:=D 3 _ 5 rfl rfl;have M:K 6 = .int .i64 6:=D 4 _ 6 rfl rfl;obtain⟨y0,y1,y2,y3⟩:=Blk.c4 (Q);have aW:=ω (I.end_ P 6);clear C D I P Q e;simp only [foldl_cons,foldl_nil,setIfInBounds_toArray,set_cons_succ,set_cons_zero,L,M];clear L M;go_wp2;refine bodyPost_ret (v:=.tuple #[.agg (stC st x),.int .i64 now,.int .i64 6]) (by simp [results,Tryz.results57,go_sem,stC, *]) rfl ?_;rw [HR.z];exact aW
   have d0:decide ((kk:Int)<0)=false:=fK (by omega);have bd:=ω aF;have ax:=ω am
   have b4:kk<x.nj:=by
    have z:=(List.getElem?_eq_some_iff.1 aF).1;have H:=e.at_.lj;omega
   have ht:=a4.z V (m8 aF);have Ht:=ω ht;clear aF am ht;have a5:ζ w2 (w.heap.size+1) 10 (.string q.lease.node):=e.q.cell 10;have s2:ζ w2 w 2 (.slice x.an x.nn x.cn):=e.s.cell 2;have HA:=ω (fJ.2 st.nodes q.lease.node x.an x.nn x.cn w2 e.at_.n e.at_.ln (by omega))
   go_wp2_with fail
   refine HA.mono ?_;rintro ap w3 ⟨ix,rfl,hb,a6⟩;have e:=ω (e.kept hb);clear hb;have aP:=e.s.lt;have aA:=e.q.lt;have aO:=e.o.lt;have aN:=e.n.lt;clear HA;rcases a6 with ⟨rfl,aw⟩ | ⟨k2,yy,rfl,bx,bl⟩
   · have HR:=ω (show ac=(6,st,now) from HG.symm.trans (EE ax.z aw));clear aw HG a4
     go_wp2_with fail
     refine rq (Γ:=Unit) 184 (fun _=>Gl st x now 6) [2] (fun p _=>nxE w O N st x now now q st x (p+1)) () (show cK w (w3).drew O N st x now now q st x from e.drewN) ?_ ?_
     · clear e;refine⟨?_,?_,?_,?_,?_,trivial⟩
       · refine okQ 0 0 fun p h u b _ _ a c=>?_;have d:=c.k 7 rfl;obtain rfl:p=0:=by omega
         have a:=(show cK w b O N st x now now q st x from jT (by omega) a);obtain⟨y,S,T,U⟩:=Blk.c4 (a.o);simp [go_sem,Oper.wp,execOp,Act.eval,d,y,S,T,U];exact⟨_,rfl,rfl,jU (by omega) a⟩
       · refine okQ 0 1 fun p h u b _ _ a c=>?_;have d:=c.k 8 rfl;have y:ζ b N 0 (.int .i64 now):=(qF a).cell 0;simp [go_sem,Oper.wp,execOp,Act.eval,d,y];exact⟨_,rfl,rfl,a⟩
       · refine .inl ⟨0,rfl,fun h u b a c=>aL rfl ?_⟩;have d:=c.k 4 rfl;obtain⟨u2,H,rfl⟩:=c.g 0 106 rfl rfl;have a:=(show cK w b O N st x now now q st x from a);have i:=a.r;obtain⟨W,z1,z2,z3⟩:=Blk.z4 (i);obtain⟨c0,X,c2,Y⟩:=Blk.c4 (i);obtain⟨aa,ab⟩:=Blk.S4 i (.int .i64 st.rev) (.slice x.aj x.nj x.cj) (.slice x.an x.nn x.cn) (.slice x.al x.nl x.cl);have Z:nxE w O N st x now now q st x 2 _:=⟨b,a,ab,aa⟩;clear i a;simp [go_sem,Oper.wp,execOp,Act.eval,d,H,c0,X,c2,Y,W,z1,z2,z3];exact⟨⟨.int .i64 0,trivial⟩,Z⟩
       · exact ok1 1 1 1 107 rfl rfl (fun _ _ z=>z) fun _=>rfl
       · refine okQ 1 1 fun p h u b _ _ a c=>?_;simp [go_sem,Oper.wp,execOp,Act.eval];exact⟨_,rfl,rfl,a⟩
     intro h ag R C;obtain⟨F,I,P,Q⟩:=(show ∃ F,cK w F O N st x now now q st x/\F.grownBy R (some (w.heap.size+2))/\Blk R (w.heap.size+2) 26 (stC st x) from C.ph);obtain⟨K,rfl,D⟩:=C.frame [106,107,5,6] rfl;have L:K 5 = .int .i64 now:=D 3 _ 5 rfl rfl;have M:K 6 = .int .i64 6:=D 4 _ 6 rfl rfl;obtain⟨y0,y1,y2,y3⟩:=Blk.c4 (Q);have aW:=ω (I.end_ P 6);clear C D I P Q e;simp only [foldl_cons,foldl_nil,setIfInBounds_toArray,set_cons_succ,set_cons_zero,L,M];clear L M;go_wp2;refine bodyPost_ret (v:=.tuple #[.agg (stC st x),.int .i64 now,.int .i64 6]) (by simp [results,Tryz.results57,go_sem,stC, *]) rfl ?_;rw [HR.z];exact aW
   have d1:decide ((k2:Int)<0)=false:=fK (by omega);have Nj:=ω bl;clear bx bl;have c9:ζ w3 (w.heap.size+1) 9 (.string q.lease.job):=e.q.cell 9;have s3:ζ w3 w 3 (.slice x.al x.nl x.cl):=e.s.cell 3;have HA:=ω (qc st.leases q.lease.job x.al x.nl x.cl w3 e.at_.l e.at_.ll (by omega))
   go_wp2_with fail
   refine HA.mono ?_;rintro ap w4 ⟨ix,rfl,hb,a6⟩;have e:=ω (e.kept hb);clear hb;have aP:=e.s.lt;have aA:=e.q.lt;have aO:=e.o.lt;have aN:=e.n.lt;clear HA;rcases a6 with ⟨rfl,aw⟩ | ⟨k3,zz,rfl,bz,bm⟩;rotate_left
   · have HR:=ω (show ac=(7,st,now) from HG.symm.trans (Gm ax.z Nj.z bm));have d2:decide ((k3:Int) >= 0)=true:=t8 (by omega);have d3:decide (0<=(k3:Int))=true:=t8 (by omega);clear bz bm HG a4
     go_wp2_with fail
     refine rq (Γ:=Unit) 184 (fun _=>Gl st x now 7) [2] (fun p _=>nxE w O N st x now now q st x (p+1)) () (show cK w (w4).drew O N st x now now q st x from e.drewN) ?_ ?_
     · clear e;refine⟨?_,?_,?_,?_,?_,trivial⟩
       · refine okQ 0 0 fun p h u b _ _ a c=>?_;have d:=c.k 7 rfl;obtain rfl:p=0:=by omega
         have a:=(show cK w b O N st x now now q st x from jT (by omega) a);obtain⟨y,S,T,U⟩:=Blk.c4 (a.o);simp [go_sem,Oper.wp,execOp,Act.eval,d,y,S,T,U];exact⟨_,rfl,rfl,jU (by omega) a⟩
       · refine okQ 0 1 fun p h u b _ _ a c=>?_;have d:=c.k 8 rfl;have y:ζ b N 0 (.int .i64 now):=(qF a).cell 0;simp [go_sem,Oper.wp,execOp,Act.eval,d,y];exact⟨_,rfl,rfl,a⟩
       · refine .inl ⟨0,rfl,fun h u b a c=>aL rfl ?_⟩;have d:=c.k 4 rfl;obtain⟨u2,H,rfl⟩:=c.g 0 116 rfl rfl;have a:=(show cK w b O N st x now now q st x from a);have i:=a.r;obtain⟨W,z1,z2,z3⟩:=Blk.z4 (i);obtain⟨c0,X,c2,Y⟩:=Blk.c4 (i);obtain⟨aa,ab⟩:=Blk.S4 i (.int .i64 st.rev) (.slice x.aj x.nj x.cj) (.slice x.an x.nn x.cn) (.slice x.al x.nl x.cl);have Z:nxE w O N st x now now q st x 2 _:=⟨b,a,ab,aa⟩;clear i a;simp [go_sem,Oper.wp,execOp,Act.eval,d,H,c0,X,c2,Y,W,z1,z2,z3];exact⟨⟨.int .i64 0,trivial⟩,Z⟩
       · exact ok1 1 1 1 117 rfl rfl (fun _ _ z=>z) fun _=>rfl
       · refine okQ 1 1 fun p h u b _ _ a c=>?_;simp [go_sem,Oper.wp,execOp,Act.eval];exact⟨_,rfl,rfl,a⟩
     intro h ag R C;obtain⟨F,I,P,Q⟩:=(show ∃ F,cK w F O N st x now now q st x/\F.grownBy R (some (w.heap.size+2))/\Blk R (w.heap.size+2) 26 (stC st x) from C.ph);obtain⟨K,rfl,D⟩:=C.frame [116,117,5,6] rfl;have L:K 5 = .int .i64 now:=D 3 _ 5 rfl rfl;have M:K 6 = .int .i64 7:=D 4 _ 6 rfl rfl;obtain⟨y0,y1,y2,y3⟩:=Blk.c4 (Q);have aW:=ω (I.end_ P 7);clear C D I P Q e;simp only [foldl_cons,foldl_nil,setIfInBounds_toArray,set_cons_succ,set_cons_zero,L,M];clear L M;go_wp2;refine bodyPost_ret (v:=.tuple #[.agg (stC st x),.int .i64 now,.int .i64 7]) (by simp [results,Tryz.results57,go_sem,stC, *]) rfl ?_;rw [HR.z];exact aW
   have OS:=ω aw;clear aw;have az:ζ w4 (w.heap.size+1) 11 (.int .i64 q.lease.till):=e.q.cell 11;have n0:ζ w4 N 0 (.int .i64 now):=e.n.cell 0;by_cases Ck:q.lease.till<=now
   · have HR:=ω (show ac=(1,st,now) from HG.symm.trans (EF ax.z Nj.z OS.z Ck));have d2:decide (q.lease.till<=now)=true:=t8 Ck;clear Ck HG a4
     go_wp2_with fail
     refine rq (Γ:=Unit) 184 (fun _=>Gl st x now 1) [2] (fun p _=>nxE w O N st x now now q st x (p+1)) () (show cK w (w4).drew O N st x now now q st x from e.drewN) ?_ ?_
     · clear e;refine⟨?_,?_,?_,?_,?_,trivial⟩
       · refine okQ 0 0 fun p h u b _ _ a c=>?_;have d:=c.k 7 rfl;obtain rfl:p=0:=by omega
         have a:=(show cK w b O N st x now now q st x from jT (by omega) a);obtain⟨y,S,T,U⟩:=Blk.c4 (a.o);simp [go_sem,Oper.wp,execOp,Act.eval,d,y,S,T,U];exact⟨_,rfl,rfl,jU (by omega) a⟩
       · refine okQ 0 1 fun p h u b _ _ a c=>?_;have d:=c.k 8 rfl;have y:ζ b N 0 (.int .i64 now):=(qF a).cell 0;simp [go_sem,Oper.wp,execOp,Act.eval,d,y];exact⟨_,rfl,rfl,a⟩
       · refine .inl ⟨0,rfl,fun h u b a c=>aL rfl ?_⟩;have d:=c.k 4 rfl;obtain⟨u2,H,rfl⟩:=c.g 0 123 rfl rfl;have a:=(show cK w b O N st x now now q st x from a);have i:=a.r;obtain⟨W,z1,z2,z3⟩:=Blk.z4 (i);obtain⟨c0,X,c2,Y⟩:=Blk.c4 (i);obtain⟨aa,ab⟩:=Blk.S4 i (.int .i64 st.rev) (.slice x.aj x.nj x.cj) (.slice x.an x.nn x.cn) (.slice x.al x.nl x.cl);have Z:nxE w O N st x now now q st x 2 _:=⟨b,a,ab,aa⟩;clear i a;simp [go_sem,Oper.wp,execOp,Act.eval,d,H,c0,X,c2,Y,W,z1,z2,z3];exact⟨⟨.int .i64 0,trivial⟩,Z⟩
       · exact ok1 1 1 1 124 rfl rfl (fun _ _ z=>z) fun _=>rfl
       · refine okQ 1 1 fun p h u b _ _ a c=>?_;simp [go_sem,Oper.wp,execOp,Act.eval];exact⟨_,rfl,rfl,a⟩
     intro h ag R C;obtain⟨F,I,P,Q⟩:=(show ∃ F,cK w F O N st x now now q st x/\F.grownBy R (some (w.heap.size+2))/\Blk R (w.heap.size+2) 26 (stC st x) from C.ph);obtain⟨K,rfl,D⟩:=C.frame [123,124,5,6] rfl;have L:K 5 = .int .i64 now:=D 3 _ 5 rfl rfl;have M:K 6 = .int .i64 1:=D 4 _ 6 rfl rfl;obtain⟨y0,y1,y2,y3⟩:=Blk.c4 (Q);have aW:=ω (I.end_ P 1);clear C D I P Q e;simp only [foldl_cons,foldl_nil,setIfInBounds_toArray,set_cons_succ,set_cons_zero,L,M];clear L M;go_wp2;refine bodyPost_ret (v:=.tuple #[.agg (stC st x),.int .i64 now,.int .i64 1]) (by simp [results,Tryz.results57,go_sem,stC, *]) rfl ?_;rw [HR.z];exact aW
   have d2:decide (q.lease.till<=now)=false:=fK Ck;have N3:=ω Ck;clear Ck;obtain⟨be,bo,aM,b3,hc⟩:=e.at_.j.eC aT e.at_.lj bd.z;obtain⟨j0,j1,j2,j3,j4⟩:=rc5 hc;have s1:ζ w4 w 1 (.slice (some ⟨be,bo,none⟩) x.nj x.cj):=by rw [<- aM]; exact e.s.cell 1
   have b5:kk*5+5<=x.nj*5:=by omega
   have bI:=Ht.z.1;have bJ:=Ht.z.2;obtain⟨w5,aD⟩:∃ w5,w4.alloc (.cells #[V.name,V.prio,V.need,.int .i64 (V.tries+1),V.tag] 85)=w5:=⟨_,rfl⟩;have bg:Below w4 w4 w5:=by rw [<- aD]; exact (θ).alloc lJ _
   have hJ:Blk w5 w4 85 #[V.name,V.prio,V.need,.int .i64 (V.tries+1),V.tag]:=by rw [<- aD]; exact n5 w4 _
   have ad:=ω (e.kept bg);have HJ:=ω hJ;have a9:=ω aD;have bb:=ω aM;clear aD bg hJ hc aM;by_cases yB:100<V.tries+1
   · have HR:=ω (show ac=(2,st,now) from HG.symm.trans (C8 ax.z Nj.z OS.z N3.z yB));have d3:decide (100<V.tries+1)=true:=t8 yB;clear yB HG a4
     go_wp2_with fail
     simp only [a9.z];clear a9 HJ e;refine rq (Γ:=Unit) 184 (fun _=>Gl st x now 2) [2] (fun p _=>nxE w O N st x now now q st x (p+1)) () (show cK w (w5).drew O N st x now now q st x from ad.drewN) ?_ ?_
     · clear ad;refine⟨?_,?_,?_,?_,?_,trivial⟩
       · refine okQ 0 0 fun p h u b _ _ a c=>?_;have d:=c.k 7 rfl;obtain rfl:p=0:=by omega
         have a:=(show cK w b O N st x now now q st x from jT (by omega) a);obtain⟨y,S,T,U⟩:=Blk.c4 (a.o);simp [go_sem,Oper.wp,execOp,Act.eval,d,y,S,T,U];exact⟨_,rfl,rfl,jU (by omega) a⟩
       · refine okQ 0 1 fun p h u b _ _ a c=>?_;have d:=c.k 8 rfl;have y:ζ b N 0 (.int .i64 now):=(qF a).cell 0;simp [go_sem,Oper.wp,execOp,Act.eval,d,y];exact⟨_,rfl,rfl,a⟩
       · refine .inl ⟨0,rfl,fun h u b a c=>aL rfl ?_⟩;have d:=c.k 4 rfl;obtain⟨u2,H,rfl⟩:=c.g 0 138 rfl rfl;have a:=(show cK w b O N st x now now q st x from a);have i:=a.r;obtain⟨W,z1,z2,z3⟩:=Blk.z4 (i);obtain⟨c0,X,c2,Y⟩:=Blk.c4 (i);obtain⟨aa,ab⟩:=Blk.S4 i (.int .i64 st.rev) (.slice x.aj x.nj x.cj) (.slice x.an x.nn x.cn) (.slice x.al x.nl x.cl);have Z:nxE w O N st x now now q st x 2 _:=⟨b,a,ab,aa⟩;clear i a;simp [go_sem,Oper.wp,execOp,Act.eval,d,H,c0,X,c2,Y,W,z1,z2,z3];exact⟨⟨.int .i64 0,trivial⟩,Z⟩
       · exact ok1 1 1 1 139 rfl rfl (fun _ _ z=>z) fun _=>rfl
       · refine okQ 1 1 fun p h u b _ _ a c=>?_;simp [go_sem,Oper.wp,execOp,Act.eval];exact⟨_,rfl,rfl,a⟩
     intro h ag R C;obtain⟨F,I,P,Q⟩:=(show ∃ F,cK w F O N st x now now q st x/\F.grownBy R (some (w.heap.size+2))/\Blk R (w.heap.size+2) 26 (stC st x) from C.ph);obtain⟨K,rfl,D⟩:=C.frame [138,139,5,6] rfl;have L:K 5 = .int .i64 now:=D 3 _ 5 rfl rfl;have M:K 6 = .int .i64 2:=D 4 _ 6 rfl rfl;obtain⟨y0,y1,y2,y3⟩:=Blk.c4 (Q);have aW:=ω (I.end_ P 2);clear C D I P Q ad;simp only [foldl_cons,foldl_nil,setIfInBounds_toArray,set_cons_succ,set_cons_zero,L,M];clear L M;go_wp2;refine bodyPost_ret (v:=.tuple #[.agg (stC st x),.int .i64 now,.int .i64 2]) (by simp [results,Tryz.results57,go_sem,stC, *]) rfl ?_;rw [HR.z];exact aW
   have d3:decide (100<V.tries+1)=false:=fK yB;have HR:=ω (show ac=(aE (j5 st V q.lease),j5 st V q.lease,now) from HG.symm.trans (Jo ax.z Nj.z OS.z N3.z yB));clear yB HG;have HP:=ω (show ψ 98 #[.slice x.aj x.nj x.cj,.agg #[V.name,V.prio,V.need,.int .i64 (V.tries+1),V.tag],.func (.func 99) #[] #[]] w5 _ from ru.1 (zI V) st.jobs x.aj x.nj x.cj w5 ad.at_.j ad.at_.lj d);rw [bb.z] at HP;have bj:=m8 bd.z;have bp:=ω (e.at_.oj V bj);clear bj e;have k1:ζ w5 w 1 (.slice (some ⟨be,bo,none⟩) x.nj x.cj):=by rw [<- bb.z]; exact ad.s.cell 1
   have bD:=ad.s.lt;have b7:=ad.o.lt
   go_wp2_with fail
   simp only [a9.z];clear a9 HJ s1 j0 j1 j2 j3 j4 n0 az;refine HP.mono ?_;rintro ap w6 ⟨A,ai,rfl,ho,bh⟩;obtain⟨m,I⟩:∃ m,(jI aC.name st.jobs (zI V)).length=m:=⟨_,rfl⟩
   have bF:m<=1001:=by
    have z:=lX aC.name (zI V) st.jobs false;have H:=ad.at_.lj;rw [<- I];unfold jI;simp only [Bool.false_eq_true,if_false] at z;omega
   have aq:=ad.kept bh;rw [I] at ho |-
   have H7:=ω (show cK w (sX w6 O 1 (.slice A m ai)) O N st x now now q ⟨st.rev,jI aC.name st.jobs (zI V),st.nodes,st.leases⟩ ⟨A,m,ai,x.an,x.nn,x.cn,x.al,x.nl,x.cl⟩ from
    aq.Al 1 _ rfl (aq.ao.Ks ai (cS ho) I (by omega) (fun aZ hz=>by
     rcases nX hz with rfl | hz
     · exact bp
     · exact aq.at_.oj aZ hz)) ⟨.own ho ad.below.size,aq.new.n,aq.new.l⟩)
   have o1:ζ w6 O 1 (.slice x.aj x.nj x.cj):=aq.o.cell 1;have z1:κ w6 O 1:=aq.o.thaw 1;have b8:=aq.o.lt;obtain⟨w7,aU⟩:∃ w7,w6.setCell ⟨O,1,none⟩ (.slice A m ai)=w7:=⟨_,rfl⟩;rw [aU] at H7;have ay:=ω aU;have c9:ζ w7 (w.heap.size+1) 9 (.string q.lease.job):=H7.q.cell 9;have a5:ζ w7 (w.heap.size+1) 10 (.string q.lease.node):=H7.q.cell 10;have az:ζ w7 (w.heap.size+1) 11 (.int .i64 q.lease.till):=H7.q.cell 11;have s3:ζ w7 w 3 (.slice x.al x.nl x.cl):=H7.s.cell 3;have ba:=ω (show ψ 109 #[.slice x.al x.nl x.cl,.agg #[q.lease.job,q.lease.node,q.lease.till],.func (.func 110) #[] #[]] w7 _ from ru.2.2 q.lease st.leases x.al x.nl x.cl w7 H7.at_.l H7.at_.ll h3);have bE:=H7.s.lt;have bB:=H7.q.lt;have b9:=H7.o.lt;have t9:ζ (sX w6 O 1 (.slice A m ai)) (w.heap.size+1) 9 (.string q.lease.job):=by rw [ay.z]; exact c9
   have b0:ζ (sX w6 O 1 (.slice A m ai)) (w.heap.size+1) 10 (.string q.lease.node):=by rw [ay.z]; exact a5
   have b1:ζ (sX w6 O 1 (.slice A m ai)) (w.heap.size+1) 11 (.int .i64 q.lease.till):=by rw [ay.z]; exact az
   have t3:ζ (sX w6 O 1 (.slice A m ai)) w 3 (.slice x.al x.nl x.cl):=by rw [ay.z]; exact s3
   clear aU I ho bh aq HP ad k1
   go_wp2_with fail
   simp only [ay.z];clear t9 b0 b1 t3 ay o1 z1;refine ba.mono ?_;rintro ap w8 ⟨A2,c2,rfl,ho,bi⟩;obtain⟨m2,aB⟩:∃ m2,(jI ak.job st.leases q.lease).length=m2:=⟨_,rfl⟩
   have bH:m2<=1001:=by
    have z:=lX ak.job q.lease st.leases false;have H:=H7.at_.ll;rw [<- aB];unfold jI;simp only [Bool.false_eq_true,if_false] at z;omega
   obtain⟨G,am⟩:∃ G,j5 st V q.lease=G:=⟨_,rfl⟩;have ar:=H7.kept bi;rw [aB] at ho |-
   have H9:=ω (show cK w (sX w8 O 3 (.slice A2 m2 c2)) O N st x now now q G ⟨A,m,ai,x.an,x.nn,x.cn,A2,m2,c2⟩ from by
    rw [<- am]
    exact ar.Al 3 _ rfl (ar.ao.NV c2 (cS ho) aB (by omega) (fun aZ hz=>by
     rcases nX hz with rfl | hz
     · exact⟨au.l1,au.l2⟩
     · exact ar.at_.ol aZ hz)) ⟨ar.new.j,ar.new.n,.own ho H7.below.size⟩)
   have o3:ζ w8 O 3 (.slice x.al x.nl x.cl):=ar.o.cell 3;have z3:κ w8 O 3:=ar.o.thaw 3;have bA:=ar.o.lt;obtain⟨B,bn⟩:∃ B:StA,⟨A,m,ai,x.an,x.nn,x.cn,A2,m2,c2⟩=B:=⟨_,rfl⟩;rw [bn] at H9;have bq:=ω am;clear bn am aB ho bi ar ba H7 c9 a5 az s3;obtain⟨w9,aX⟩:∃ w9,w8.setCell ⟨O,3,none⟩ (.slice A2 m2 c2)=w9:=⟨_,rfl⟩;rw [aX] at H9;have bc:=ω aX;clear aX
   go_wp2_with fail
   simp only [bc.z];clear bc o3 z3;obtain⟨E,hE⟩:∃ E,aE G=E:=⟨_,rfl⟩;have HE:=ω (show Value.int .i64 (aE G)=Value.int .i64 E from by rw [hE]);have a3:=ω hE;clear hE;refine rq (Γ:=Unit) 184 (fun _=>Kr G B now E) [3,4] (fun p _=>nxE w O N st x now now q G B p) () (show cK w (w9).drew O N st x now now q G B from H9.drewN) ?_ ?_
   · clear H9;refine⟨?_,?_,?_,?_,?_,?_,?_,trivial⟩
     · refine okQ 0 1 fun p h u b _ _ a c=>?_;have d:=c.k 7 rfl;have a:=(show cK w b O N st x now now q G B from jT (by omega) a);obtain⟨y,S,T,U⟩:=Blk.c4 (a.o);simp [go_sem,Oper.wp,execOp,Act.eval,d,y,S,T,U];exact⟨_,rfl,rfl,jU (by omega) a⟩
     · refine okQ 0 2 fun p h u b _ _ a c=>?_;have d:=c.k 8 rfl;have y:ζ b N 0 (.int .i64 now):=(qF a).cell 0;simp [go_sem,Oper.wp,execOp,Act.eval,d,y];exact⟨_,rfl,rfl,a⟩
     · refine okQ 0 0 fun p h u b _ _ a c=>?_;have d:=c.k 7 rfl;have a:=(show cK w b O N st x now now q G B from jT (by omega) a);obtain⟨y,S,T,U⟩:=Blk.c4 (a.o);simp [go_sem,Oper.wp,execOp,Act.eval,d,y,S,T,U];exact⟨_,rfl,rfl,jU (by omega) a⟩
     · refine .inl ⟨0,rfl,fun h u b a c=>aL rfl ?_⟩;obtain⟨u1,d,rfl⟩:=c.g 2 182 rfl rfl;simp [go_sem,Oper.wp,execOp,Act.eval,d];have a:=(show cK w b O N st x now now q G B from a);refine (lQ G B b a.ao).mono ?_;rintro ap w' ⟨rfl,hb⟩;exact⟨_,rfl,HE,a.kept hb⟩
     · refine .inl ⟨1,rfl,fun h u b a c=>aL rfl ?_⟩;have d:=c.k 4 rfl;obtain⟨u2,H,rfl⟩:=c.g 0 180 rfl rfl;have a:=(show cK w b O N st x now now q G B from a);have i:=a.r;obtain⟨W,z1,z2,z3⟩:=Blk.z4 (i);obtain⟨c0,X,c2,Y⟩:=Blk.c4 (i);obtain⟨aa,ab⟩:=Blk.S4 i (.int .i64 G.rev) (.slice B.aj B.nj B.cj) (.slice B.an B.nn B.cn) (.slice B.al B.nl B.cl);have Z:nxE w O N st x now now q G B 2 _:=⟨b,a,ab,aa⟩;clear i a;simp [go_sem,Oper.wp,execOp,Act.eval,d,H,c0,X,c2,Y,W,z1,z2,z3];exact⟨⟨.int .i64 0,trivial⟩,Z⟩
     · exact ok1 2 2 1 181 rfl rfl (fun _ _ z=>z) fun _=>rfl
     · exact ok1 2 2 3 183 rfl rfl (fun _ _ z=>z) fun _=>rfl
   intro h ag R C;obtain⟨F,I,P,Q⟩:=(show ∃ F,cK w F O N st x now now q G B/\F.grownBy R (some (w.heap.size+2))/\Blk R (w.heap.size+2) 26 (stC G B) from C.ph);obtain⟨K,rfl,D⟩:=C.frame [180,181,182,183,5,6] rfl;have L:K 5 = .int .i64 now:=D 5 _ 5 rfl rfl;have M:K 6 = .int .i64 E:=D 6 _ 6 rfl rfl;obtain⟨y0,y1,y2,y3⟩:=Blk.c4 (Q);have aW:=ω (I.end_ P E);clear C D I P Q H9;simp only [foldl_cons,foldl_nil,setIfInBounds_toArray,set_cons_succ,set_cons_zero,L,M];clear L M;go_wp2;refine bodyPost_ret (v:=.tuple #[.agg (stC G B),.int .i64 now,.int .i64 E]) (by simp [results,Tryz.results57,go_sem,stC, *]) rfl ?_;rw [HR.z,bq.z,a3.z];exact aW)
  |skip)
end Go.Proofs.YtimglglgcgpjgaaGreatDoor
