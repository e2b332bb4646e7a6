/- Of the proof of a statement: NxD, NxZ, HubW, ReqDM. -/
import Derived.Test.YtimglglgcgpjgabGreatDoorPNxE
import Derived.Test.YtimglglgcgpjgabGreatDoorPRDo
import Derived.Test.YtimglglgcgpjgabGreatDoorPRRc
import Derived.Test.YtimglglgcgpjgabGreatDoorPSvDo
set_option linter.unusedVariables false
set_option linter.unusedSimpArgs false
set_option maxRecDepth 100000
set_option maxHeartbeats 8000000
namespace Go.Proofs.YtimglglgcgpjgabGreatDoor
open List (foldl_cons foldl_nil setIfInBounds_toArray set_cons_succ set_cons_zero)
open Go.RowKit
theorem yw :
 (∀ (q:aL) (st:ah) (x:StA) (now:Int) (w:World) (hS:StAt w w st x) (d:x.nj<=1000) (D:x.nn<=1000) (h3:x.nl<=1000) (ae:ROk q) (W:∀ aa,ψ 52 #[bO q] aa (bH 0 aa)) (hq:q.kind=7) (a6:0<=now) (a7:now<=1099511627776) (a8:0<=q.n) (a9:q.n<=1099511627776),ψ 54 #[.agg (jw st x now),bO q] w (iO x (if 1099511627776<now+q.n then (1,st,now+q.n) else (aE (ny st (now+q.n)),ny st (now+q.n),now+q.n)) w)) /\
 (∀ (q:aL) (st:ah) (x:StA) (now:Int) (w:World) (hS:StAt w w st x) (d:x.nj<=1000) (D:x.nn<=1000) (h3:x.nl<=1000) (ae:ROk q) (W:∀ aa,ψ 52 #[bO q] aa (bH 0 aa)) (hq:8<=q.kind),ψ 54 #[.agg (jw st x now),bO q] w (iO x (aE st,st,now) w)) /\
 (∀ (E:Int) (q:aL) (st:ah) (x:StA) (now:Int) (w:World) (hS:StAt w w st x) (d:x.nj<=1000) (D:x.nn<=1000) (h3:x.nl<=1000) (ae:ROk q) (W:∀ aa,ψ 52 #[bO q] aa (bH E aa)) (X:E≠0),ψ 54 #[.agg (jw st x now),bO q] w (iO x (E,st,now) w)):=by
 refine⟨@fun q st x now w hS d D h3 ae W hq a6 a7 a8 a9=>(fun(ad:Unit)=>?_) (),@fun q st x now w hS d D h3 ae W hq=>(fun(ak:Unit)=>?_) (),@fun E q st x now w hS d D h3 ae W X=>(fun(ax:Unit)=>?_) ()⟩<;>(
 obtain⟨q1,q2,q3,q4⟩:=oY w (jw st x now) (aT q) lI (ta:=46) (tb:=88) (tc:=26);obtain⟨W0,au⟩:∃ W0,((w.alloc (.cells (jw st x now) 46)).alloc (.cells (aT q) 88)).alloc (.cells lI 26)=W0:=⟨_,rfl⟩;rw [au] at q1 q2 q3 q4;have H0:NxP w st x now q 0 ⟨none,none⟩ W0.drew:=⟨q4.drew,q1,q2,q3,(hS.upS q4).drew,fun O l=>(by cases l),fun N l=>(by cases l),fun O N l=>(by cases l)⟩;have W:=ω W
 first
  |(
   guard_hyp ad
   obtain⟨af,hG⟩:∃ af,(if 1099511627776<now+q.n then (1,st,now+q.n) else (aE (ny st (now+q.n)),ny st (now+q.n),now+q.n))=af:=⟨_,rfl⟩;rw [hG];have HG:=ω hG;clear hG;have Hq:=ω hq;clear hq)
  |(
   guard_hyp ak
   have d1:(q.kind == 1)=false:=eY (by omega);have d2:(q.kind == 2)=false:=eY (by omega);have d3:(q.kind == 3)=false:=eY (by omega);have d4:(q.kind == 4)=false:=eY (by omega);have d5:(q.kind == 5)=false:=eY (by omega);have d6:(q.kind == 6)=false:=eY (by omega);have d7:(q.kind == 7)=false:=eY (by omega);clear hq)
  |skip
 have ap:=ω au;clear q1 q2 q3 q4 hS au;unfold bO;unfold jw aT at ap |-;go_enter Tryz.func54,Tryz.ntmps54
 go_wp2_with fail
 rw [ap.z];clear ap;refine rq 184 (nxV w st x now) [6,7] (NxP w st x now q) ⟨none,none⟩ H0 ?_ ?_
 · clear H0;refine⟨?_,?_,?_,?_,?_,?_,?_,?_,trivial⟩
   · exact ok0 0 2 2 rfl fun _=>rfl
   · refine okQ 0 2 fun p e m b _ _ a c=>?_;obtain⟨u1,d,rfl⟩:=c.g 0 13 rfl rfl;obtain⟨y,H,I,J⟩:=Blk.c4 (a.s);simp [go_sem,Oper.wp,execOp,Act.eval,d,y,H,I,J];exact⟨_,rfl,e,fun _ _ _ l=>l,rfl,a⟩
   · exact ok0 0 2 2 rfl fun _=>rfl
   · refine okQ 0 2 fun p e m b _ _ a c=>?_;obtain⟨u1,d,rfl⟩:=c.g 2 15 rfl rfl;have a4:ζ b w 4 (.int .i64 now):=a.s.cell 4;simp [go_sem,Oper.wp,execOp,Act.eval,d,a4];exact⟨_,rfl,e,fun _ _ _ l=>l,rfl,a⟩
   · refine okQ 0 0 fun p e m b _ _ a c=>?_;obtain rfl:p=0:=by omega
     simp [go_sem,Oper.wp,execOp,Act.eval];exact⟨_,rfl,⟨some b,e.N⟩,Ip _,⟨_,rfl,rfl⟩,a.C8⟩
   · refine okQ 0 0 fun p e m b _ _ a c=>?_;obtain rfl:p=0:=by omega
     simp [go_sem,Oper.wp,execOp,Act.eval];exact⟨_,rfl,⟨e.O,some b⟩,Iq _,⟨_,rfl,rfl⟩,a.C9⟩
   · refine .inl ⟨0,rfl,fun e m b a c=>aJ rfl ?_⟩;obtain⟨u1,d,r1⟩:=c.g 4 7 rfl rfl;obtain⟨u2,D,rfl⟩:=c.g 1 14 rfl rfl;obtain⟨O,eO,r1⟩:=(show ∃ O,e.O=some O/\u1 = .pointer (some ⟨O,0,none⟩) from r1);subst r1;have j:Blk b O 26 lI:=(a.o O eO).2;obtain⟨K,z1,z2,z3⟩:=Blk.z4 (j);obtain⟨c0,L,c2,M⟩:=Blk.c4 (j);obtain⟨Y,Z⟩:=Blk.S4 j (.int .i64 st.rev) (.slice x.aj x.nj x.cj) (.slice x.an x.nn x.cn) (.slice x.al x.nl x.cl);have R:=a.zy eO Z Y;clear j a;simp [go_sem,Oper.wp,execOp,Act.eval,d,D,c0,L,c2,M,K,z1,z2,z3];exact⟨.int .i64 0,e,fun _ _ _ l=>l,trivial,R⟩
   · refine .inl ⟨1,rfl,fun e m b a c=>aJ rfl ?_⟩;obtain⟨u1,d,r1⟩:=c.g 5 8 rfl rfl;obtain⟨u2,D,rfl⟩:=c.g 3 16 rfl rfl;obtain⟨N,eN,r1⟩:=(show ∃ N,e.N=some N/\u1 = .pointer (some ⟨N,0,none⟩) from r1);subst r1;have j:Blk b N 3 #[(0:Int)]:=(a.n N eN).2;have K:κ b N 0:=j.thaw 0;have c0:ζ b N 0 (.int .i64 0):=j.cell 0;have R:=a.JA eN (aQ b N 0 (.int .i64 now)) (Blk.eq (j.set 0 (.int .i64 now)) rfl);clear j a;simp [go_sem,Oper.wp,execOp,Act.eval,d,D,c0,K];exact⟨.int .i64 0,e,fun _ _ _ l=>l,trivial,R⟩
 intro e ai b z;have a:=z.ph;obtain⟨G,rfl,B⟩:=z.frame [13,14,15,16,7,8] rfl;obtain⟨O,eO,f7⟩:=(show ∃ O,e.O=some O/\G 7 = .pointer (some ⟨O,0,none⟩) from B 4 _ 7 rfl rfl);obtain⟨N,eN,f8⟩:=(show ∃ N,e.N=some N/\G 8 = .pointer (some ⟨N,0,none⟩) from B 5 _ 8 rfl rfl);have i:=ω (show cJ w b O N st x now now q st x from ⟨a.below,a.s,a.q,a.r,(a.o O eO).2,(a.n N eN).2,a.at_,a.at_,(a.o O eO).1,(a.n N eN).1,a.ne O N eO eN,AW.refl _ _⟩);clear z B a H0 eO eN;simp only [foldl_cons,foldl_nil,setIfInBounds_toArray,set_cons_succ,set_cons_zero,f7,f8];clear f7 f8;obtain⟨c0,L,c2,M,c4,c5,c6,c7,c8,c9,a1,a2,a3,aq⟩:=Blk.c14 (i.q)
 first|(guard_hyp ax;have HC:=ω (show ψ 52 #[.agg (nY q)] b (bH E b) from W.z b))|have HC:=ω (show ψ 52 #[.agg (nY q)] b (bH 0 b) from W.z b)
 have a5:=i.q.lt;clear W
 go_wp2_with fail
 refine HC.mono ?_;rintro ar w1 ⟨rfl,ay⟩;have i:=ω (i.kept ay);have a5:=i.q.lt;have aG:=i.s.lt;have aD:=i.o.lt;have aC:=i.n.lt;clear ay HC c0 L c2 M c4 c5 c6 c7 c8 c9 a1 a2 a3 aq
 first
  |(
   guard_hyp ad
   have c0:ζ w1 (w.heap.size+1) 0 (.int .i64 7):=by rw [i.z.q.cell 0,<- Hq.z]; rfl
   have aq:ζ w1 (w.heap.size+1) 13 (.int .i64 q.n):=i.q.cell 13;have n0:ζ w1 N 0 (.int .i64 now):=i.n.cell 0;have K:κ w1 N 0:=i.n.thaw 0;obtain⟨w2,aw⟩:∃ w2,w1.setCell ⟨N,0,none⟩ (.int .i64 (now+q.n))=w2:=⟨_,rfl⟩;have H2:=ω (show cJ w w2 O N st x now (now+q.n) q st x from by rw [<- aw]; exact i.JA (now+q.n));have ag:=ω aw)
  |(
   guard_hyp ak
   have c0:ζ w1 (w.heap.size+1) 0 (.int .i64 q.kind):=i.q.cell 0
   go_wp2_with fail
   obtain⟨E,X⟩:∃ E,aE st=E:=⟨_,rfl⟩;have HE:=ω (show Value.int .i64 (aE st)=Value.int .i64 E from by rw [X]);have am:=ω X)
  |(
   guard_hyp ax
   have d1:(E != 0)=true:=by simpa using X)
 first|(guard_hyp ad;clear aw)|(guard_hyp ak;clear X)|go_wp2_with fail
 first
  |(
   guard_hyp ad
   have i:=H2)
  |(
   guard_hyp ak
   refine rq (Γ:=Unit) 184 (fun _=>Lw st x now E) [3,4] (fun p _=>nxE w O N st x now now q st x p) () (show cJ w (w1).drew O N st x now now q st x from i.drewN) ?_ ?_
   · clear i;refine⟨?_,?_,?_,?_,?_,?_,?_,trivial⟩
     · refine okQ 0 1 fun p e m b _ _ a c=>?_;have d:=c.k 7 rfl;have a:=(show cJ w b O N st x now now q st x from jS (by omega) a);obtain⟨y,H,I,J⟩:=Blk.c4 (a.o);simp [go_sem,Oper.wp,execOp,Act.eval,d,y,H,I,J];exact⟨_,rfl,rfl,jT (by omega) a⟩
     · refine okQ 0 2 fun p e m b _ _ a c=>?_;have d:=c.k 8 rfl;have y:ζ b N 0 (.int .i64 now):=(qP a).cell 0;simp [go_sem,Oper.wp,execOp,Act.eval,d,y];exact⟨_,rfl,rfl,a⟩
     · refine okQ 0 0 fun p e m b _ _ a c=>?_;have d:=c.k 7 rfl;have a:=(show cJ w b O N st x now now q st x from jS (by omega) a);obtain⟨y,H,I,J⟩:=Blk.c4 (a.o);simp [go_sem,Oper.wp,execOp,Act.eval,d,y,H,I,J];exact⟨_,rfl,rfl,jT (by omega) a⟩
     · refine .inl ⟨0,rfl,fun e m b a c=>aJ rfl ?_⟩;obtain⟨u1,d,rfl⟩:=c.g 2 182 rfl rfl;simp [go_sem,Oper.wp,execOp,Act.eval,d];have a:=(show cJ w b O N st x now now q st x from a);refine (lR st x b a.ao).mono ?_;rintro ar w' ⟨rfl,hb⟩;exact⟨_,rfl,HE,a.kept hb⟩
     · refine .inl ⟨1,rfl,fun e m b a c=>aJ rfl ?_⟩;have d:=c.k 4 rfl;obtain⟨u2,D,rfl⟩:=c.g 0 180 rfl rfl;have a:=(show cJ w b O N st x now now q st x from a);have j:=a.r;obtain⟨K,z1,z2,z3⟩:=Blk.z4 (j);obtain⟨c0,L,c2,M⟩:=Blk.c4 (j);obtain⟨Y,Z⟩:=Blk.S4 j (.int .i64 st.rev) (.slice x.aj x.nj x.cj) (.slice x.an x.nn x.cn) (.slice x.al x.nl x.cl);have R:nxE w O N st x now now q st x 2 _:=⟨b,a,Z,Y⟩;clear j a;simp [go_sem,Oper.wp,execOp,Act.eval,d,D,c0,L,c2,M,K,z1,z2,z3];exact⟨⟨.int .i64 0,trivial⟩,R⟩
     · exact ok1 2 2 1 181 rfl rfl (fun _ _ l=>l) fun _=>rfl
     · exact ok1 2 2 3 183 rfl rfl (fun _ _ l=>l) fun _=>rfl
   intro e ai V z;obtain⟨F,T,S,U⟩:=(show ∃ F,cJ w F O N st x now now q st x/\F.grownBy V (some (w.heap.size+2))/\Blk V (w.heap.size+2) 26 (stC st x) from z.ph);obtain⟨G,rfl,B⟩:=z.frame [180,181,182,183,5,6] rfl;have P:G 5 = .int .i64 now:=B 5 _ 5 rfl rfl;have Q:G 6 = .int .i64 E:=B 6 _ 6 rfl rfl;obtain⟨y0,y1,y2,y3⟩:=Blk.c4 (U);have aW:=ω (T.end_ S E);clear z B T S U i;simp only [foldl_cons,foldl_nil,setIfInBounds_toArray,set_cons_succ,set_cons_zero,P,Q];clear P Q;go_wp2;refine bodyPost_ret (v:=.tuple #[.agg (stC st x),.int .i64 now,.int .i64 E]) (by simp [results,Tryz.results54,go_sem,stC, *]) rfl ?_;rw [am.z])
  |(
   guard_hyp ax
   refine rq (Γ:=Unit) 184 (fun _=>nxGV st x now E) [3] (fun p _=>nxE w O N st x now now q st x (p+1)) () (show cJ w (w1).drew O N st x now now q st x from i.drewN) ?_ ?_
   · clear i;refine⟨?_,?_,?_,?_,?_,?_,trivial⟩
     · refine okQ 0 0 fun p e m b _ _ a c=>?_;have d:=c.k 7 rfl;obtain rfl:p=0:=by omega
       have a:=(show cJ w b O N st x now now q st x from jS (by omega) a);obtain⟨y,H,I,J⟩:=Blk.c4 (a.o);simp [go_sem,Oper.wp,execOp,Act.eval,d,y,H,I,J];exact⟨_,rfl,rfl,jT (by omega) a⟩
     · refine okQ 0 1 fun p e m b _ _ a c=>?_;have d:=c.k 8 rfl;have y:ζ b N 0 (.int .i64 now):=(qP a).cell 0;simp [go_sem,Oper.wp,execOp,Act.eval,d,y];exact⟨_,rfl,rfl,a⟩
     · exact ok0 0 1 9 rfl fun _=>rfl
     · refine .inl ⟨0,rfl,fun e m b a c=>aJ rfl ?_⟩;have d:=c.k 4 rfl;obtain⟨u2,D,rfl⟩:=c.g 0 21 rfl rfl;have a:=(show cJ w b O N st x now now q st x from a);have j:=a.r;obtain⟨K,z1,z2,z3⟩:=Blk.z4 (j);obtain⟨c0,L,c2,M⟩:=Blk.c4 (j);obtain⟨Y,Z⟩:=Blk.S4 j (.int .i64 st.rev) (.slice x.aj x.nj x.cj) (.slice x.an x.nn x.cn) (.slice x.al x.nl x.cl);have R:nxE w O N st x now now q st x 2 _:=⟨b,a,Z,Y⟩;clear j a;simp [go_sem,Oper.wp,execOp,Act.eval,d,D,c0,L,c2,M,K,z1,z2,z3];exact⟨⟨.int .i64 0,trivial⟩,R⟩
     · exact ok1 1 1 1 22 rfl rfl (fun _ _ l=>l) fun _=>rfl
     · exact ok1 1 1 2 23 rfl rfl (fun _ _ l=>l) fun _=>rfl
   intro e ai V z;obtain⟨F,T,S,U⟩:=(show ∃ F,cJ w F O N st x now now q st x/\F.grownBy V (some (w.heap.size+2))/\Blk V (w.heap.size+2) 26 (stC st x) from z.ph);obtain⟨G,rfl,B⟩:=z.frame [21,22,23,5,6] rfl;have P:G 5 = .int .i64 now:=B 4 _ 5 rfl rfl;have Q:G 6 = .int .i64 E:=B 5 _ 6 rfl rfl;obtain⟨y0,y1,y2,y3⟩:=Blk.c4 (U);have aW:=ω (T.end_ S E);clear z B T S U i;simp only [foldl_cons,foldl_nil,setIfInBounds_toArray,set_cons_succ,set_cons_zero,P,Q];clear P Q;go_wp2;refine bodyPost_ret (v:=.tuple #[.agg (stC st x),.int .i64 now,.int .i64 E]) (by simp [results,Tryz.results54,go_sem,stC, *]) rfl ?_
   skip)
 first|(guard_hyp ad;clear H2)|exact aW
 first
  |(
   guard_hyp ad
   obtain⟨h,ac⟩:∃ h,now+q.n=h:=⟨_,rfl⟩;have aB:=ω ac;rw [ac] at i;have aF:=i.o.lt;have aH:=i.s.lt;by_cases ab:1099511627776<now+q.n
   · have HR:=ω (show af=(1,st,h) from HG.symm.trans (by rw [if_pos ab,ac]));have d1:decide (1099511627776<now+q.n)=true:=t7 ab;clear ab ac
     go_wp2_with fail
     simp only [ag.z];clear ag;refine rq (Γ:=Unit) 184 (fun _=>Gq st x h 1) [2] (fun p _=>nxE w O N st x now h q st x (p+1)) () (show cJ w (w2).drew O N st x now h q st x from i.drewN) ?_ ?_
     · clear i;refine⟨?_,?_,?_,?_,?_,trivial⟩
       · refine okQ 0 0 fun p e m b _ _ a c=>?_;have d:=c.k 7 rfl;obtain rfl:p=0:=by omega
         have a:=(show cJ w b O N st x now h q st x from jS (by omega) a);obtain⟨y,H,I,J⟩:=Blk.c4 (a.o);simp [go_sem,Oper.wp,execOp,Act.eval,d,y,H,I,J];exact⟨_,rfl,rfl,jT (by omega) a⟩
       · refine okQ 0 1 fun p e m b _ _ a c=>?_;have d:=c.k 8 rfl;have y:ζ b N 0 (.int .i64 h):=(qP a).cell 0;simp [go_sem,Oper.wp,execOp,Act.eval,d,y];exact⟨_,rfl,rfl,a⟩
       · refine .inl ⟨0,rfl,fun e m b a c=>aJ rfl ?_⟩;have d:=c.k 4 rfl;obtain⟨u2,D,rfl⟩:=c.g 0 175 rfl rfl;have a:=(show cJ w b O N st x now h q st x from a);have j:=a.r;obtain⟨K,z1,z2,z3⟩:=Blk.z4 (j);obtain⟨c0,L,c2,M⟩:=Blk.c4 (j);obtain⟨Y,Z⟩:=Blk.S4 j (.int .i64 st.rev) (.slice x.aj x.nj x.cj) (.slice x.an x.nn x.cn) (.slice x.al x.nl x.cl);have R:nxE w O N st x now h q st x 2 _:=⟨b,a,Z,Y⟩;clear j a;simp [go_sem,Oper.wp,execOp,Act.eval,d,D,c0,L,c2,M,K,z1,z2,z3];exact⟨⟨.int .i64 0,trivial⟩,R⟩
       · exact ok1 1 1 1 176 rfl rfl (fun _ _ l=>l) fun _=>rfl
       · refine okQ 1 1 fun p e m b _ _ a c=>?_;simp [go_sem,Oper.wp,execOp,Act.eval];exact⟨_,rfl,rfl,a⟩
     intro e ai V z;obtain⟨F,T,S,U⟩:=(show ∃ F,cJ w F O N st x now h q st x/\F.grownBy V (some (w.heap.size+2))/\Blk V (w.heap.size+2) 26 (stC st x) from z.ph);obtain⟨G,rfl,B⟩:=z.frame [175,176,5,6] rfl;have P:G 5 = .int .i64 h:=B 3 _ 5 rfl rfl;have Q:G 6 = .int .i64 1:=B 4 _ 6 rfl rfl;obtain⟨y0,y1,y2,y3⟩:=Blk.c4 (U);have aW:=ω (T.end_ S 1);clear z B T S U i;simp only [foldl_cons,foldl_nil,setIfInBounds_toArray,set_cons_succ,set_cons_zero,P,Q];clear P Q;go_wp2;refine bodyPost_ret (v:=.tuple #[.agg (stC st x),.int .i64 h,.int .i64 1]) (by simp [results,Tryz.results54,go_sem,stC, *]) rfl ?_;rw [HR.z];exact aW
   · have HR:=ω (show af=(aE (ny st h),ny st h,h) from HG.symm.trans (by rw [if_neg ab,ac]));have d1:decide (1099511627776<now+q.n)=false:=fQ ab;clear ab ac;have HL:=ω (wL (fun aA=>decide (aA.till<=h)) 110 #[π N 0] w w2 O N st x now h q st x i.z h3 (enters_of Tryz.func110 (by kernel_rfl) rfl) (Pd N h st.leases w2 i.n));clear i
     go_wp2_with fail
     simp only [ag.z];clear ag c0 aq n0 K;refine HL.mono ?_;rintro ar w5 ⟨rfl,u,az⟩;have H5:=ω az;clear az HL;obtain⟨C,av⟩:∃ C,ny st h=C:=⟨_,rfl⟩;have H5:=ω (show cJ w w5 O N st x now h q C u from by rw [<- av]; exact H5);have a0:=ω av;clear av
     go_wp2_with fail
     obtain⟨E,X⟩:∃ E,aE C=E:=⟨_,rfl⟩;have HE:=ω (show Value.int .i64 (aE C)=Value.int .i64 E from by rw [X]);have am:=ω X;clear X;refine rq (Γ:=Unit) 184 (fun _=>Lw C u h E) [3,4] (fun p _=>nxE w O N st x now h q C u p) () (show cJ w (w5).drew O N st x now h q C u from H5.drewN) ?_ ?_
     · clear H5;refine⟨?_,?_,?_,?_,?_,?_,?_,trivial⟩
       · refine okQ 0 1 fun p e m b _ _ a c=>?_;have d:=c.k 7 rfl;have a:=(show cJ w b O N st x now h q C u from jS (by omega) a);obtain⟨y,H,I,J⟩:=Blk.c4 (a.o);simp [go_sem,Oper.wp,execOp,Act.eval,d,y,H,I,J];exact⟨_,rfl,rfl,jT (by omega) a⟩
       · refine okQ 0 2 fun p e m b _ _ a c=>?_;have d:=c.k 8 rfl;have y:ζ b N 0 (.int .i64 h):=(qP a).cell 0;simp [go_sem,Oper.wp,execOp,Act.eval,d,y];exact⟨_,rfl,rfl,a⟩
       · refine okQ 0 0 fun p e m b _ _ a c=>?_;have d:=c.k 7 rfl;have a:=(show cJ w b O N st x now h q C u from jS (by omega) a);obtain⟨y,H,I,J⟩:=Blk.c4 (a.o);simp [go_sem,Oper.wp,execOp,Act.eval,d,y,H,I,J];exact⟨_,rfl,rfl,jT (by omega) a⟩
       · refine .inl ⟨0,rfl,fun e m b a c=>aJ rfl ?_⟩;obtain⟨u1,d,rfl⟩:=c.g 2 182 rfl rfl;simp [go_sem,Oper.wp,execOp,Act.eval,d];have a:=(show cJ w b O N st x now h q C u from a);refine (lR C u b a.ao).mono ?_;rintro ar w' ⟨rfl,hb⟩;exact⟨_,rfl,HE,a.kept hb⟩
       · refine .inl ⟨1,rfl,fun e m b a c=>aJ rfl ?_⟩;have d:=c.k 4 rfl;obtain⟨u2,D,rfl⟩:=c.g 0 180 rfl rfl;have a:=(show cJ w b O N st x now h q C u from a);have j:=a.r;obtain⟨K,z1,z2,z3⟩:=Blk.z4 (j);obtain⟨c0,L,c2,M⟩:=Blk.c4 (j);obtain⟨Y,Z⟩:=Blk.S4 j (.int .i64 C.rev) (.slice u.aj u.nj u.cj) (.slice u.an u.nn u.cn) (.slice u.al u.nl u.cl);have R:nxE w O N st x now h q C u 2 _:=⟨b,a,Z,Y⟩;clear j a;simp [go_sem,Oper.wp,execOp,Act.eval,d,D,c0,L,c2,M,K,z1,z2,z3];exact⟨⟨.int .i64 0,trivial⟩,R⟩
       · exact ok1 2 2 1 181 rfl rfl (fun _ _ l=>l) fun _=>rfl
       · exact ok1 2 2 3 183 rfl rfl (fun _ _ l=>l) fun _=>rfl
     intro e ai V z;obtain⟨F,T,S,U⟩:=(show ∃ F,cJ w F O N st x now h q C u/\F.grownBy V (some (w.heap.size+2))/\Blk V (w.heap.size+2) 26 (stC C u) from z.ph);obtain⟨G,rfl,B⟩:=z.frame [180,181,182,183,5,6] rfl;have P:G 5 = .int .i64 h:=B 5 _ 5 rfl rfl;have Q:G 6 = .int .i64 E:=B 6 _ 6 rfl rfl;obtain⟨y0,y1,y2,y3⟩:=Blk.c4 (U);have aW:=ω (T.end_ S E);clear z B T S U H5;simp only [foldl_cons,foldl_nil,setIfInBounds_toArray,set_cons_succ,set_cons_zero,P,Q];clear P Q;go_wp2;refine bodyPost_ret (v:=.tuple #[.agg (stC C u),.int .i64 h,.int .i64 E]) (by simp [results,Tryz.results54,go_sem,stC, *]) rfl ?_;rw [HR.z,a0.z,am.z];exact aW)
  |skip)
noncomputable def Ir (st:ah) (now:Int) (q:aL):Int × ah × Int:=if cN q=0 then nextR st now q else (cN q,st,now)
theorem JB (q:aL) (st:ah) (x:StA) (now:Int) (w:World) (a:StAt w w st x) (l:aE st=0) (b:ROk q) (m:0<=now/\now<=1099511627776) :
 ψ 54 #[.agg (jw st x now),bO q] w (iO x (Ir st now q) w):=by
 obtain⟨o,p,r⟩:=qN a l;have H:=fun W=>EE q W b;unfold Ir;by_cases d:cN q=0
 · rw [if_pos d];rw [d] at H;obtain⟨s,t,n⟩:=Ab d;unfold nextR;by_cases e:q.kind=1
   · rw [if_pos e]; exact Ci.1 q st x now w a (by omega) (by omega) (by omega) b H e
   rw [if_neg e];by_cases g:q.kind=2
   · rw [if_pos g]; exact Ci.2 q st x now w a (by omega) (by omega) (by omega) b H g
   rw [if_neg g];by_cases h:q.kind=3
   · rw [if_pos h]; exact yu.1 q st x now w a (by omega) (by omega) (by omega) b H h
   rw [if_neg h];by_cases i:q.kind=4
   · rw [if_pos i]; exact yu.2.1 q st x now w a (by omega) (by omega) (by omega) b H i
   rw [if_neg i];by_cases j:q.kind=5
   · rw [if_pos j]; exact Nj q st x now w a (by omega) (by omega) (by omega) b H j (wM l)
   rw [if_neg j];by_cases k:q.kind=6
   · rw [if_pos k]; exact yu.2.2 q st x now w a (by omega) (by omega) (by omega) b H k
   rw [if_neg k];by_cases c:q.kind=7
   · rw [if_pos c]; exact yw.1 q st x now w a (by omega) (by omega) (by omega) b H c m.1 m.2 (n c).1 (n c).2
   rw [if_neg c];exact yw.2.1 q st x now w a (by omega) (by omega) (by omega) b H (by omega)
 · rw [if_neg d];exact yw.2.2 (cN q) q st x now w a (by omega) (by omega) (by omega) b H d
theorem Nk {a b:ah} (f:b.rev=a.rev) (h:lK a b):b=a:=by
 obtain⟨n,g,l,j⟩:=a;obtain⟨o,i,m,k⟩:=b;obtain⟨c,d,e⟩:=h;dsimp only at f c d e;subst f c d e;rfl
theorem LA (tl:List Value) (T:TypeId) (q:aL) (st:ah) (x:StA) (now:Int) (V:Nat) (w:World) (h:gO tl w T V st x now) (p:ROk q) :
 ψ 29 #[π V 0,bO q] w (nU tl T V st (lO st now (lD st now q)) w):=by
 have b:∀ W,StAt W W st x->ψ 54 #[.agg (jw st x now),bO q] W (iO x (Ir st now q) W):=fun W o=>JB q st x now W o h.ok p h.t;unfold Ir at b;by_cases d:cN q=0
 · rw [if_pos d] at b;obtain⟨r,s⟩:=Is h.ok now q;by_cases a:(doR st now q).1=0
   · rw [s a] at b;have e:=zN st now q;obtain⟨⟨E,g,j⟩,i⟩:∃ R,doR st now q=R:=⟨_,rfl⟩;have l:=uf h.ok a;by_cases c:lK st (doR st now q).2.1
     · rw [Cj d a c];rw [i] at b a c e l |-;have n:g=st:=Nk e c;have:=qQ.2.1 tl T q st x now V w E g j h b a n;rw [n] at this;exact this
     · by_cases k:1099511627776<st.rev+1
       · rw [EF d a c k];rw [i] at b a c e l;exact qQ.2.2.1 tl T q st x now V w E g j h b a e (fun m=>c (by rw [m]; exact⟨rfl,rfl,rfl⟩)) k
       · rw [EG d a c k];rw [i] at b a c e l |-;exact qQ.2.2.2 tl T q st x now V w E g j h b a e (fun m=>c (by rw [m]; exact⟨rfl,rfl,rfl⟩)) k l
   · rw [EH d a];obtain⟨⟨E,g,j⟩,i⟩:∃ R,nextR st now q=R:=⟨_,rfl⟩;rw [<- r] at a |-;rw [i] at b a |-;exact qQ.1 tl T q st x now V w E g j h b a
 · rw [EI d];rw [if_neg d] at b;exact qQ.1 tl T q st x now V w (cN q) st now h b d
def tlW (st:ah):List UInt8:=if (lg st 3).2=0 then (lg st 3).1.data.toList else pR 3 4 (gP 2 st.rev).1.data.toList
theorem JC (v k:Int) (p:ByteArray):(uQ v k p).1.size<=6020:=by
 unfold uQ
 split
 · exact Nat.zero_le _
 · split
   · exact Nat.zero_le _
   · rename_i h
     have a:=pW v.toNat k.toNat p.data.toList (by have b:p.data.toList.length=p.size:=(by simp); omega)
     show (BA (pR _ _ _)).size<=_
     rw [jA]; exact a.2
theorem yc (st:ah):(lg st 3).1.size<=6020:=by
 unfold lg
 split
 · exact Nat.zero_le _
 · exact JC _ _ _
theorem LB {st:ah} (h:(lg st 3).2=0):0<(lg st 3).1.size:=by
 unfold lg at h |-
 split at h
 · rename_i a; exact absurd h a
 · rename_i a
   rw [if_neg a];unfold uQ at h |-
   split at h
   · cases h
   · rename_i b
     rw [if_neg b]
     split at h
     · cases h
     · rename_i c
       rw [if_neg c];have e:(jW st 3).1.data.toList.length=(jW st 3).1.size:=by simp
       have d:=pW (3:Int).toNat (1:Int).toNat (jW st 3).1.data.toList (by omega)
       show 0<(BA (pR _ _ _)).size
       rw [jA]; exact d.1
theorem wK (st:ah):(tlW st).length<=7000:=by
 unfold tlW
 split
 · have:=yc st;have b:(lg st 3).1.data.toList.length=(lg st 3).1.size:=by simp
   omega
 · have a:=pW 3 4 (gP 2 st.rev).1.data.toList (by have:=nV 2 st.rev; simp; omega);omega
theorem Lm:tW tlW:=by
 intro g o V ah cs v ab st al ak ac k ht X hc hr hl Z hT;have P:=ω (ze st al ak V ac Z);have c0:ζ ac g 0 (π V 0):=by rw [k.cell]; exact X
 have hlt:=k.lt;have m:=ω k;have O:=ω hr;have p:=ω hc;have Q:=ω hT;have J:=yc st;have H:=LB (st:=st);have c:=ω (show tlW st=if (lg st 3).2=0 then (lg st 3).1.data.toList else pR 3 4 (gP 2 st.rev).1.data.toList from rfl);have d:=ω (fun (y:StA) (a:World) (ai:StAt a a st y) (h2:Tabs a)=>vV.1 st y 3 a ai h2);unfold q8 at d;obtain⟨S,z⟩:∃ S,(lg st 3).1=S:=⟨_,rfl⟩;obtain⟨E,Y⟩:∃ E,(lg st 3).2=E:=⟨_,rfl⟩;rw [z] at J;rw [z,Y] at c d H;have af:=ω H;have T:=ω hl;have ag:=ω J;clear k hr hc hT Z z Y X hl J H;go_enter Tryz.func39,Tryz.ntmps39
 go_wp2_with fail
 refine P.mono ?_;rintro U a ⟨y,rfl,hy,C⟩;obtain⟨W,j⟩:∃ W,a.alloc (.cells (stC st y) 26)=W:=⟨_,rfl⟩;have F:Below a a W:=by rw [<- j]; exact (θ).alloc lQ _
 have i:Blk W a 26 (stC st y):=by rw [<- j]; exact n5 a _
 have K:=C.trans (F.mono C.size);have q:=ω (d.z y W (hy.upS F) (Q.below K));have w:=ω K;have n:=ω i;have u:=ω j;obtain⟨s0,s1,s2,s3⟩:=Blk.c4 (i);have aj:=i.lt;clear hy C F i j K P d c0 hlt Q;unfold stC at q u |-
 go_wp2_with fail
 simp only [u.z];clear u;refine q.mono ?_;rintro U L ⟨rfl,D⟩;have e:=ω (w.trans (D.mono w.size));have h:=m.below e.z m.lt;have N:=ω h;have r:=ω (O.below e.z);have B:=n.below D n.lt;have y0:ζ L g (o+3) v:=by rw [h.cell]; exact p
 have ao:=h.lt;have r0:ζ L a 0 (.int .i64 st.rev):=B.cell 0;have aa:=B.lt;clear D h B q w n s0 s1 s2 s3 aj m O;by_cases b:E=0
 · have s:=ω (show tlW st=S.data.toList from by rw [c.z,if_pos b]);have l:=af.z b;subst b;clear c r0 aa;have am:=T.z;have ap:=ag.z
   go_wp2_with (at_builtin; refine Es rfl _ _ rfl v ab rfl r.z S rfl l (by omega) ?_; intro v' M I G; obtain⟨A',c',rfl⟩:=I.shape; have x:=qL N.z ht r.z G; have z0:ζ M g (o+3) v:=(x.cell _).trans p.z; have zt:κ M g (o+3):=x.thaw _; have ae:=ω I; have ad:=ω G; clear I G x)
   go_end0;exact⟨rfl,_,_,by rw [s.z]; exact ae.z,.of_below e.z ad.z,by rw [List.length_append]; rfl⟩
 · have d0:(E != 0)=true:=bne_iff_ne.2 b;have s:=ω (show tlW st=pR 3 4 (gP 2 st.rev).1.data.toList from by rw [c.z,if_neg b]);have R:=ω (vw g o ah cs v ab 2 st.rev L N.z ht p.z r.z T.z);clear b c y0
   go_wp2_with fail
   refine R.mono ?_;rintro U M l;have HP:=ω (l.first e.z);obtain⟨rfl,_⟩:=l;clear R r0 aa;go_wp2;go_end0;rw [s.z];exact HP
theorem Gj (b:ByteArray) (w:World) (hb:b.size<=9223372036854775807) (hT:Tabs w):ψ 36 #[b] w (tq (rqF b).1 (rqF b).2 w):=by
 have aH:=AL b hb;have z:=jN hb;obtain⟨W,Q⟩:∃ W,(w.alloc (.cells (aT gF) 88)).alloc (.cells #[b,(0:Int)] 149)=W:=⟨_,rfl⟩;have ar:Below w w (χ w (aT gF) 88):=(θ).alloc lQ _;have av:Below w w W:=by rw [<- Q]; exact ar.alloc ar.size _
 have hR:Blk W w 88 (aT gF):=by rw [<- Q]; exact Blk.alloc (show Blk _ _ _ _ from n5 w _) _
 obtain⟨g,hg⟩:∃ g,w.heap.size+1=g:=⟨_,rfl⟩
 have aJ:rF W g b 0:=by
  rw [<- Q,<- hg];have aU:=n5 (χ w (aT gF) 88) (.cells #[b,(0:Int)] 149);rwa [show (w.alloc (.cells (aT gF) 88)).heap.size=w.heap.size+1 by simp] at aU
 have aZ:=hT.lts;have i:j5 W g (.ok () b):=⟨aJ,hb,hT.below av,by omega,by omega⟩;have HN:=ω (show Calls Tryz.prog _ _ _ (oH g (dJ b) _ _ _) from qR g (.ok () b) W i);have HR:=ω hR;have aF:=ω av;have HW:=ω Q;unfold aT gF bK aV aN at HW;have Hg:=ω hg;have Y:=ω aH;have M:=ω hT;have ak:=ω z;have bi:=hR.lt;have bj:=i.at_.lt;have F:w.heap.size<g:=by omega
 clear ar av hR aJ aZ i hT Q hg aH hb z;go_enter Tryz.func36,Tryz.ntmps36
 go_wp2_with fail
 simp only [HW.z,Hg.z];clear HW;refine HN.mono ?_;rintro D a ⟨C,rfl,hv,i,aw⟩;have bk:=i.at_.lt;have c:=ω (ay aw HR.z (Nat.ne_of_lt F));have h:=ω (cR aF.z aw (Nat.le_of_lt F));clear aw HN HR aF;rcases l:dJ b with ⟨k,G⟩ | x;rotate_left;rw [l] at i;have z:=ak.z;rw [l] at z;obtain⟨G,_,hA⟩:=i.at_;obtain⟨e,d⟩:∃ e:Int,e=x:=⟨_,rfl⟩;have r:=ω (show rqF b=(gF,e) from by rw [d]; unfold rqF rqP; rw [l]; rfl);have U:ζ a g 1 (.int .i64 (x:Int)):=Blk.cell (show rF a g _ x from hA) 1;have e2:((x:Int) != 0)=true:=bne_iff_ne.2 (by have:=z.1; omega);have e1:((x:Int) == 0)=false:=beq_eq_false_iff_ne.2 (by have:=z.1; omega);have Z:=ω d;clear hv i z hA ak l Y M Hg d;rotate_left
 focus
  rw [l] at i hv;obtain rfl:C=k:=hv;have ae:rqP b=jJ C G:=by unfold rqP; rw [l]; rfl
  have U:ζ a g 1 (.int .i64 0):=Blk.cell (show rF a g _ 0 from i.at_) 1;have j:=ω i;clear i l ak;cases R:ranged (C:Int) 1 9
  focus
   have s:=KS (dI C) a R;dsimp only [bO,aT,dI,bK,aV,aN] at s;have L:=ω s;have l:∀ (w:World),(binOp .eql 151 .nilIface .nilIface).run Tryz.prog w = .ok (.bool true) w:=fun _=>rfl
   have hp:jJ C G = .bad 1:=by
    have:=fT.1 R;unfold jJ;rw [if_neg (by omega),if_neg (by omega),if_neg (by omega),if_neg (by omega),if_neg (by omega),if_neg (by omega)]
   obtain⟨e,d⟩:∃ e:Int,e=1:=⟨_,rfl⟩;have r:=ω (show rqF b=(gF,e) from by rw [d]; unfold rqF; rw [ae,hp]; rfl);have Z:=ω d;clear R hp ae Y M d s
   go_wp2_with fail
   refine L.mono ?_;rintro D a ⟨rfl,o⟩;have c:=ω (c.below o c.lt);have h:=ω (h.trans (o.mono h.size));clear o U L j Hg
  rotate_left
  focus
   obtain⟨bg,bf,J0,J1,ao⟩:=JD C G R;have s:=ao.pt a;dsimp only [bO,aT,dI,bK,aV,aN] at s;have L:=ω s;have p:=ω ao;have am:=ω ae;clear R ae ao s
   go_wp2_with fail
   refine L.mono ?_;rintro D w3 ⟨v,rfl,aq,o⟩;have Pe:j5 w3 g (.ok () G):=j.next (σ':=.ok () G) (Blk.below (show rF a g _ 0 from j.at_) o j.at_.lt) j.good (fU _ o);have ai:=p.tk a v w3 g aq j.at_.lt Pe;rw [<- am.z] at ai;have aD:=ω ai;have hm:=p.hm a v w3 aq;have l:=p.hn;have hc:=p.hc;have aB:=ω (c.below o c.lt);have a7:=ω (h.trans (o.mono h.size));have bl:=Pe.at_.lt;clear aq o Pe L j U ai
   go_wp2_with fail
   refine aD.mono ?_;rintro D w4 ⟨rfl,⟨q,hq,aI⟩,Nl,t4⟩;have aC:=ω (aB.below t4 F);have a8:=ω (a7.trans (t4.mono (Nat.le_of_lt F)));have aA:=ω (PW g _ w4 Nl.at_ Nl.good);have al:=ω aI;have Hq:=ω hq;have bm:=Nl.at_.lt;clear aI hq Nl t4 aD aB a7 hm hc
   go_wp2_with fail
   refine aA.mono ?_;rintro D a ⟨rfl,ac⟩;have c:=ω (ay ac aC.z (Nat.ne_of_lt F));have h:=ω (cR a8.z ac (Nat.le_of_lt F));have aj:=ω ac;clear ac aA aC a8 l;rcases Y.z with ⟨x,ba,O,P⟩ | ⟨q',s',ax,O,P⟩;rw [O];obtain⟨e,d⟩:∃ e:Int,e=x:=⟨_,rfl⟩;have r:=ω (show rqF b=(gF,e) from by rw [d]; exact P);have Z:=ω d;have e2:((x:Int) != 0)=true:=bne_iff_ne.2 (by omega);have e1:((x:Int) == 0)=false:=beq_eq_false_iff_ne.2 (by omega);clear P O ba d aj Y p al Hq am M;rotate_left
   focus
    rw [O];obtain rfl:=Hq.z q' s' ax;have aE:=ω (p.wh q g v a (p.kp q g v w4 a al.z aj.z));have j:=ω (zK ax);have B:=ω P;clear O ax P aj p al Hq am
    go_wp2_with fail
    refine aE.mono ?_;rintro D H ⟨rfl,au⟩;have X:=ω (c.below au c.lt);have J:=ω (h.trans (au.mono h.size));obtain⟨T,S⟩:∃ T,H.alloc (.cells (aT q) 88)=T:=⟨_,rfl⟩;have aa:Below H H T:=by rw [<- S]; exact (θ).alloc lQ _
    have ad:Blk T H 88 (aT q):=by rw [<- S]; exact n5 H _
    have K:=za q T j.z (M.below (J.trans (aa.mono J.size)));obtain⟨E,ap⟩:∃ E,cN q=E:=⟨_,rfl⟩;rw [ap] at K;unfold bO at K;unfold aT at K S;have a9:=ω K;have B:=ω (show rqF b=if E=0 then (q,0) else (gF,E) from by rw [<- ap]; exact B);obtain⟨d0,d1,d2,d3,d4,d5,d6,d7,d8,d9,aK,aL,aM,aO⟩:=Blk.c14 (ad);have aG:=ω S;have ag:=ω ad;have bn:=ad.lt;have ah:=ω (X.below aa X.lt);have af:=ω (J.trans (aa.mono J.size));have bh:w.heap.size<H.heap.size:=X.lt;clear au S aa ad aE X J ap M j K;unfold bO;unfold aT
    go_wp2_with fail
    simp only [aG.z];clear aG;refine a9.mono ?_;rintro D a ⟨rfl,ab⟩;have c:=ω (ah.below ab ah.lt);have V:=ω (ag.below ab ag.lt);have h:=ω (af.trans (ab.mono af.size));clear ab a9 ag ah af d0 d1 d2 d3 d4 d5 d6 d7 d8 d9 aK aL aM aO;by_cases N:E=0
    · subst N;have r:=ω (show rqF b=(q,0) from by rw [B.z,if_pos rfl]);have aY:=V.lt;have aW:=c.lt;obtain⟨e0,e1,e2,e3,e4,e5,e6,e7,e8,e9,aP,aQ,aR,aS⟩:=Blk.c14 (V.z);obtain⟨r0,r1,r2,r3,r4,r5,r6,r7,r8,r9,az,a0,a1,a2⟩:=Blk.c14 (show Blk a w _ #[(0:Int),.string ⟨#[]⟩,(0:Int),(0:Int),(0:Int),.string ⟨#[]⟩,.string ⟨#[]⟩,(0:Int),.string ⟨#[]⟩,.string ⟨#[]⟩,.string ⟨#[]⟩,(0:Int),.string ⟨#[]⟩,(0:Int)] from c.z);obtain⟨z0,z1,z2,z3,z4,z5,z6,z7,z8,z9,a3,a4,a5,a6⟩:=Blk.z14 (c.z);clear B V;go_wp2;have y:=nG q c.z;have u:=h.trans (kY a w q);obtain⟨I,m⟩:∃ I,mQ a w q=I:=⟨_,rfl⟩;rw [m] at y u;unfold mQ at m;simp only [m];clear m c h e0 r0 z0 e1 r1 z1 e2 r2 z2 e3 r3 z3 e4 r4 z4 e5 r5 z5 e6 r6 z6 e7 r7 z7 e8 r8 z8 e9 r9 z9 aP az a3 aQ a0 a4 aR a1 a5 aS a2 a6 aY aW;obtain⟨y0,U,y2,y3,y4,y5,y6,y7,y8,y9,bb,bc,bd,be⟩:=Blk.c14 (y);have bG:=ω u;clear y u;refine bodyPost_ret (v:=.tuple #[.agg #[.int .i64 q.kind,.string q.job.name,.int .i64 q.job.prio,.int .i64 q.job.need,.int .i64 q.job.tries,.string q.job.tag,.string q.node.name,.int .i64 q.node.room,.string q.node.zone,.string q.lease.job,.string q.lease.node,.int .i64 q.lease.till,.string q.name,.int .i64 q.n],.int .i64 0]) (by simp [results,Tryz.results36,go_sem, *]) rfl ?_;exact⟨by rw [r.z]; rfl,bG⟩
    obtain⟨e,d⟩:∃ e:Int,e=E:=⟨_,rfl⟩;have r:=ω (show rqF b=(gF,e) from by rw [B.z,if_neg N,d]);have Z:=ω d;have e2:(E != 0)=true:=bne_iff_ne.2 N;have e1:(E == 0)=false:=beq_eq_false_iff_ne.2 N;clear N d B V
 all_goals
  obtain⟨r0,r1,r2,r3,r4,r5,r6,r7,r8,r9,az,a0,a1,a2⟩:=Blk.c14 (show Blk a w _ #[(0:Int),.string ⟨#[]⟩,(0:Int),(0:Int),(0:Int),.string ⟨#[]⟩,.string ⟨#[]⟩,(0:Int),.string ⟨#[]⟩,.string ⟨#[]⟩,.string ⟨#[]⟩,(0:Int),.string ⟨#[]⟩,(0:Int)] from c.z);obtain⟨z0,z1,z2,z3,z4,z5,z6,z7,z8,z9,a3,a4,a5,a6⟩:=Blk.z14 (c.z);have aX:=c.lt;go_wp2
  try (go_region; go_wp2)
  have y:=nG gF c.z;have u:=h.trans (kY a w gF);obtain⟨I,m⟩:∃ I,mQ a w gF=I:=⟨_,rfl⟩;rw [m] at y u;unfold mQ at m;dsimp only [gF,bK,aV,aN] at m;simp only [m];clear m aX c h r0 z0 r1 z1 r2 z2 r3 z3 r4 z4 r5 z5 r6 z6 r7 z7 r8 z8 r9 z9 az a3 a0 a4 a1 a5 a2 a6;obtain⟨y0,U,y2,y3,y4,y5,y6,y7,y8,y9,bb,bc,bd,be⟩:=Blk.c14 (show Blk I w _ #[(0:Int),.string ⟨#[]⟩,(0:Int),(0:Int),(0:Int),.string ⟨#[]⟩,.string ⟨#[]⟩,(0:Int),.string ⟨#[]⟩,.string ⟨#[]⟩,.string ⟨#[]⟩,(0:Int),.string ⟨#[]⟩,(0:Int)] from y);have bG:=ω u;have d:=Z.z;clear y u;refine bodyPost_ret (v:=.tuple #[.agg #[.int .i64 0,.string ⟨#[]⟩,.int .i64 0,.int .i64 0,.int .i64 0,.string ⟨#[]⟩,.string ⟨#[]⟩,.int .i64 0,.string ⟨#[]⟩,.string ⟨#[]⟩,.string ⟨#[]⟩,.int .i64 0,.string ⟨#[]⟩,.int .i64 0],.int .i64 e]) (by simp [results,Tryz.results36,go_sem, *]) rfl ?_
  first | exact⟨by rw [r.z]; rfl,bG⟩ | exact⟨by rw [r.z]; rfl,bG.drew⟩
end Go.Proofs.YtimglglgcgpjgabGreatDoor
