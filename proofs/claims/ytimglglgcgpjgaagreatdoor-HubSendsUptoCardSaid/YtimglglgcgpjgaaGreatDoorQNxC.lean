/- Of the proof of a statement: NxC. -/
import Derived.Test.YtimglglgcgpjgaaGreatDoorQDEncR
set_option linter.unusedVariables false
set_option linter.unusedSimpArgs false
set_option maxRecDepth 100000
set_option maxHeartbeats 8000000
namespace Go.Proofs.YtimglglgcgpjgaaGreatDoor
open List (foldl_cons foldl_nil setIfInBounds_toArray set_cons_succ set_cons_zero)
open Go.RowKit
def Gl (st:ah) (x:StA) (a E:Int):Nat->Value->Prop
 | 0,u=>u = .agg #[.int .i64 st.rev,.slice x.aj x.nj x.cj,.slice x.an x.nn x.cn,.slice x.al x.nl x.cl]
 | 1,u=>u = .int .i64 a
 | 3,u=>u = .int .i64 a
 | 4,u=>u = .int .i64 E
 | _,_=>True
def nxGV (st:ah) (x:StA) (a E:Int):Nat->Value->Prop
 | 0,u=>u = .agg #[.int .i64 st.rev,.slice x.aj x.nj x.cj,.slice x.an x.nn x.cn,.slice x.al x.nl x.cl]
 | 1,u=>u = .int .i64 a
 | 2,u=>u = .int .i64 E
 | 4,u=>u = .int .i64 a
 | 5,u=>u = .int .i64 E
 | _,_=>True
theorem yA :
 (∀ (q:aK) (st:ah) (x:StA) (now:Int) (w:World) (hS:StAt w w st x) (h:x.nj<=1000) (C:x.nn<=1000) (Y:x.nl<=1000) (aq:ROk q) (R:∀ W,ψ 55 #[bP q] W (bG 0 W)) (hq:q.kind=3),ψ 57 #[.agg (iB st x now),bP q] w (iQ x (if (cC st.jobs q.name).isSome=true then (aE (nB st q.name),nB st q.name,now) else (6,st,now)) w)) /\
 (∀ (q:aK) (st:ah) (x:StA) (now:Int) (w:World) (hS:StAt w w st x) (h:x.nj<=1000) (C:x.nn<=1000) (Y:x.nl<=1000) (aq:ROk q) (R:∀ W,ψ 55 #[bP q] W (bG 0 W)) (hq:q.kind=4),ψ 57 #[.agg (iB st x now),bP q] w (iQ x (if (bU st.nodes q.name).isSome=true then (aE (nC st q.name),nC st q.name,now) else (6,st,now)) w)) /\
 (∀ (q:aK) (st:ah) (x:StA) (now:Int) (w:World) (hS:StAt w w st x) (h:x.nj<=1000) (C:x.nn<=1000) (Y:x.nl<=1000) (aq:ROk q) (R:∀ W,ψ 55 #[bP q] W (bG 0 W)) (hq:q.kind=6),ψ 57 #[.agg (iB st x now),bP q] w (iQ x (if (cD st.leases q.name).isSome=true then (aE (mR st q.name),mR st q.name,now) else (6,st,now)) w)):=by
 refine⟨@fun q st x now w hS h C Y aq R hq=>(fun(L:Unit)=>?_) (),@fun q st x now w hS h C Y aq R hq=>(fun(M:Unit)=>?_) (),@fun q st x now w hS h C Y aq R hq=>(fun(a5:Unit)=>?_) ()⟩<;>(
 first|(guard_hyp L;have ay:Tg 25:=⟨⟩;have av:Tg 66:=⟨⟩;have az:Tg 67:=⟨⟩)|(guard_hyp M;have ay:Tg 26:=⟨⟩;have av:Tg 68:=⟨⟩;have az:Tg 69:=⟨⟩)|(have ay:Tg 27:=⟨⟩;have av:Tg 70:=⟨⟩;have az:Tg 71:=⟨⟩)
 obtain⟨q1,q2,q3,q4⟩:=qG w (iB st x now) (aV q) lP (ta:=36) (tb:=87) (tc:=26);obtain⟨W0,ax⟩:∃ W0,((w.alloc (.cells (iB st x now) 36)).alloc (.cells (aV q) 87)).alloc (.cells lP 26)=W0:=⟨_,rfl⟩;rw [ax] at q1 q2 q3 q4;have H0:NxP w st x now q 0 ⟨none,none⟩ W0.drew:=⟨q4.drew,q1,q2,q3,(hS.upS q4).drew,fun O y=>(by cases y),fun N y=>(by cases y),fun O N y=>(by cases y)⟩;have R:=ω R
 first|(guard_hyp L;obtain⟨G,hG⟩:∃ G,(if (cC st.jobs q.name).isSome=true then (aE (nB st q.name),nB st q.name,now) else (6,st,now))=G:=⟨_,rfl⟩)|(guard_hyp M;obtain⟨G,hG⟩:∃ G,(if (bU st.nodes q.name).isSome=true then (aE (nC st q.name),nC st q.name,now) else (6,st,now))=G:=⟨_,rfl⟩)|obtain⟨G,hG⟩:∃ G,(if (cD st.leases q.name).isSome=true then (aE (mR st q.name),mR st q.name,now) else (6,st,now))=G:=⟨_,rfl⟩
 rw [hG];have HG:=ω hG;clear hG;have Hq:=ω hq;clear hq;have aw:=ω ax;clear q1 q2 q3 q4 hS ax;unfold bP;unfold iB aV at aw |-;go_enter Tryz.func57,Tryz.ntmps57
 go_wp2_with fail
 rw [aw.z];clear aw;refine rq 184 (nxV w st x now) [6,7] (NxP w st x now q) ⟨none,none⟩ H0 ?_ ?_
 · clear H0;refine⟨?_,?_,?_,?_,?_,?_,?_,?_,trivial⟩
   · exact ok0 0 2 2 rfl fun _=>rfl
   · refine okQ 0 2 fun D i d c _ _ a e=>?_;obtain⟨u1,h,rfl⟩:=e.g 0 13 rfl rfl;obtain⟨I,aa,ab,ac⟩:=Blk.c4 (a.s);simp [go_sem,Oper.wp,execOp,Act.eval,h,I,aa,ab,ac];exact⟨_,rfl,i,fun _ _ _ y=>y,rfl,a⟩
   · exact ok0 0 2 2 rfl fun _=>rfl
   · refine okQ 0 2 fun D i d c _ _ a e=>?_;obtain⟨u1,h,rfl⟩:=e.g 2 15 rfl rfl;have aB:ζ c w 4 (.int .i64 now):=a.s.cell 4;simp [go_sem,Oper.wp,execOp,Act.eval,h,aB];exact⟨_,rfl,i,fun _ _ _ y=>y,rfl,a⟩
   · refine okQ 0 0 fun D i d c _ _ a e=>?_;obtain rfl:D=0:=by omega
     simp [go_sem,Oper.wp,execOp,Act.eval];exact⟨_,rfl,⟨some c,i.N⟩,Kp _,⟨_,rfl,rfl⟩,a.FI⟩
   · refine okQ 0 0 fun D i d c _ _ a e=>?_;obtain rfl:D=0:=by omega
     simp [go_sem,Oper.wp,execOp,Act.eval];exact⟨_,rfl,⟨i.O,some c⟩,Kq _,⟨_,rfl,rfl⟩,a.FJ⟩
   · refine .inl ⟨0,rfl,fun i d c a e=>aL rfl ?_⟩;obtain⟨u1,h,r1⟩:=e.g 4 7 rfl rfl;obtain⟨u2,C,rfl⟩:=e.g 1 14 rfl rfl;obtain⟨O,eO,r1⟩:=(show ∃ O,i.O=some O/\u1 = .pointer (some ⟨O,0,none⟩) from r1);subst r1;have z:Blk c O 26 lP:=(a.o O eO).2;obtain⟨z0,z1,z2,z3⟩:=Blk.z4 (z);obtain⟨c0,c1,c2,c3⟩:=Blk.c4 (z);obtain⟨am,ap⟩:=Blk.S4 z (.int .i64 st.rev) (.slice x.aj x.nj x.cj) (.slice x.an x.nn x.cn) (.slice x.al x.nl x.cl);have ad:=a.Al eO ap am;clear z a;simp [go_sem,Oper.wp,execOp,Act.eval,h,C,c0,c1,c2,c3,z0,z1,z2,z3];exact⟨.int .i64 0,i,fun _ _ _ y=>y,trivial,ad⟩
   · refine .inl ⟨1,rfl,fun i d c a e=>aL rfl ?_⟩;obtain⟨u1,h,r1⟩:=e.g 5 8 rfl rfl;obtain⟨u2,C,rfl⟩:=e.g 3 16 rfl rfl;obtain⟨N,eN,r1⟩:=(show ∃ N,i.N=some N/\u1 = .pointer (some ⟨N,0,none⟩) from r1);subst r1;have z:Blk c N 3 #[(0:Int)]:=(a.n N eN).2;have z0:κ c N 0:=z.thaw 0;have c0:ζ c N 0 (.int .i64 0):=z.cell 0;have ad:=a.Ko eN (aR c N 0 (.int .i64 now)) (Blk.eq (z.set 0 (.int .i64 now)) rfl);clear z a;simp [go_sem,Oper.wp,execOp,Act.eval,h,C,c0,z0];exact⟨.int .i64 0,i,fun _ _ _ y=>y,trivial,ad⟩
 intro i a1 c J;have a:=J.ph;obtain⟨X,rfl,K⟩:=J.frame [13,14,15,16,7,8] rfl;obtain⟨O,eO,f7⟩:=(show ∃ O,i.O=some O/\X 7 = .pointer (some ⟨O,0,none⟩) from K 4 _ 7 rfl rfl);obtain⟨N,eN,f8⟩:=(show ∃ N,i.N=some N/\X 8 = .pointer (some ⟨N,0,none⟩) from K 5 _ 8 rfl rfl);have b:=ω (show cK w c O N st x now now q st x from ⟨a.below,a.s,a.q,a.r,(a.o O eO).2,(a.n N eN).2,a.at_,a.at_,(a.o O eO).1,(a.n N eN).1,a.ne O N eO eN,BL.refl _ _⟩);clear J K a H0 eO eN;simp only [foldl_cons,foldl_nil,setIfInBounds_toArray,set_cons_succ,set_cons_zero,f7,f8];clear f7 f8;obtain⟨c0,c1,c2,c3,c4,c5,c6,c7,c8,c9,a8,a9,ag,aA⟩:=Blk.c14 (b.q);have HC:=ω (show ψ 55 #[.agg (oL q)] c (bG 0 c) from R.z c);have a4:=b.q.lt;clear R
 go_wp2_with fail
 refine HC.mono ?_;rintro ai Z ⟨rfl,a2⟩;have b:=ω (b.kept a2);have a4:=b.q.lt;have aH:=b.s.lt;have aF:=b.o.lt;have aD:=b.n.lt;clear a2 HC c0 c1 c2 c3 c4 c5 c6 c7 c8 c9 a8 a9 ag aA;have c0:ζ Z (w.heap.size+1) 0 (.int .i64 ay):=by rw [b.z.q.cell 0]; exact congrArg (fun k=>some (Value.int .i64 k)) Hq.z
 have ag:ζ Z (w.heap.size+1) 12 (.string q.name):=b.q.cell 12
 first|(guard_hyp L;have s1:ζ Z w 1 (.slice x.aj x.nj x.cj):=b.s.cell 1)|(guard_hyp M;have s2:ζ Z w 2 (.slice x.an x.nn x.cn):=b.s.cell 2)|have s3:ζ Z w 3 (.slice x.al x.nl x.cl):=b.s.cell 3
 first|(guard_hyp L;have HA:=ω (fJ.1 st.jobs q.name x.aj x.nj x.cj Z b.at_.j b.at_.lj (by omega)))|(guard_hyp M;have HA:=ω (fJ.2 st.nodes q.name x.an x.nn x.cn Z b.at_.n b.at_.ln (by omega)))|have HA:=ω (qc st.leases q.name x.al x.nl x.cl Z b.at_.l b.at_.ll (by omega))
 go_wp2_with fail
 refine HA.mono ?_;rintro ai T ⟨ix,rfl,a3,aC⟩;have b:=ω (b.kept a3);clear a3 HA;have aH:=b.s.lt;have a4:=b.q.lt;have aF:=b.o.lt;have aD:=b.n.lt;rcases aC with ⟨rfl,au⟩ | ⟨kk,xx,rfl,aJ,P⟩
 · first|(guard_hyp L;have HR:=ω (show G=(6,st,now) from HG.symm.trans (if_neg (by simp [show cC st.jobs q.name=none from au]))))|(guard_hyp M;have HR:=ω (show G=(6,st,now) from HG.symm.trans (if_neg (by simp [show bU st.nodes q.name=none from au]))))|have HR:=ω (show G=(6,st,now) from HG.symm.trans (if_neg (by simp [show cD st.leases q.name=none from au])))
   clear au
   go_wp2_with fail
   refine rq (Γ:=Unit) 184 (fun _=>Gl st x now 6) [2] (fun D _=>nxE w O N st x now now q st x (D+1)) () (show cK w (T).drew O N st x now now q st x from b.drewN) ?_ ?_
   · clear b;refine⟨?_,?_,?_,?_,?_,trivial⟩
     · refine okQ 0 0 fun D i d c _ _ a e=>?_;have h:=e.k 7 rfl;obtain rfl:D=0:=by omega
       have a:=(show cK w c O N st x now now q st x from jT (by omega) a);obtain⟨I,aa,ab,ac⟩:=Blk.c4 (a.o);simp [go_sem,Oper.wp,execOp,Act.eval,h,I,aa,ab,ac];exact⟨_,rfl,rfl,jU (by omega) a⟩
     · refine okQ 0 1 fun D i d c _ _ a e=>?_;have h:=e.k 8 rfl;have I:ζ c N 0 (.int .i64 now):=(qF a).cell 0;simp [go_sem,Oper.wp,execOp,Act.eval,h,I];exact⟨_,rfl,rfl,a⟩
     · refine .inl ⟨0,rfl,fun i d c a e=>aL rfl ?_⟩;have h:=e.k 4 rfl
       first|(guard_hyp L;obtain⟨u2,C,rfl⟩:=e.g 0 54 rfl rfl)|(guard_hyp M;obtain⟨u2,C,rfl⟩:=e.g 0 74 rfl rfl)|obtain⟨u2,C,rfl⟩:=e.g 0 162 rfl rfl
       have a:=(show cK w c O N st x now now q st x from a);have z:=a.r;obtain⟨z0,z1,z2,z3⟩:=Blk.z4 (z);obtain⟨c0,c1,c2,c3⟩:=Blk.c4 (z);obtain⟨am,ap⟩:=Blk.S4 z (.int .i64 st.rev) (.slice x.aj x.nj x.cj) (.slice x.an x.nn x.cn) (.slice x.al x.nl x.cl);have ad:nxE w O N st x now now q st x 2 _:=⟨c,a,ap,am⟩;clear z a;simp [go_sem,Oper.wp,execOp,Act.eval,h,C,c0,c1,c2,c3,z0,z1,z2,z3];exact⟨⟨.int .i64 0,trivial⟩,ad⟩
     · exact ok1 1 1 1 av rfl rfl (fun _ _ y=>y) fun _=>rfl
     · refine okQ 1 1 fun D i d c _ _ a e=>?_;simp [go_sem,Oper.wp,execOp,Act.eval];exact⟨_,rfl,rfl,a⟩
   intro i a1 wz J;obtain⟨wm,F,hg,hr⟩:=(show ∃ wm,cK w wm O N st x now now q st x/\wm.grownBy wz (some (w.heap.size+2))/\Blk wz (w.heap.size+2) 26 (stC st x) from J.ph);obtain⟨X,rfl,K⟩:=J.frame [az,av,5,6] rfl;have f5:X 5 = .int .i64 now:=K 3 _ 5 rfl rfl;have f6:X 6 = .int .i64 6:=K 4 _ 6 rfl rfl;obtain⟨y0,y1,y2,y3⟩:=Blk.c4 (hr);have aW:=ω (F.end_ hg 6);clear J K F hg hr b;simp only [foldl_cons,foldl_nil,setIfInBounds_toArray,set_cons_succ,set_cons_zero,f5,f6];clear f5 f6;go_wp2;refine bodyPost_ret (v:=.tuple #[.agg (stC st x),.int .i64 now,.int .i64 6]) (by simp [results,Tryz.results57,go_sem,stC, *]) rfl ?_;rw [HR.z];exact aW
 · first|(guard_hyp L;have HR:=ω (show G=(aE (nB st q.name),nB st q.name,now) from HG.symm.trans (if_pos (by simp [show cC st.jobs q.name=some xx from P]))))|(guard_hyp M;have HR:=ω (show G=(aE (nC st q.name),nC st q.name,now) from HG.symm.trans (if_pos (by simp [show bU st.nodes q.name=some xx from P]))))|have HR:=ω (show G=(aE (mR st q.name),mR st q.name,now) from HG.symm.trans (if_pos (by simp [show cD st.leases q.name=some xx from P])))
   have d0:decide ((kk:Int)<0)=false:=fK (by omega);clear aJ P
   first
    |(
     guard_hyp L
     have s1:ζ T w 1 (.slice x.aj x.nj x.cj):=b.s.cell 1;have HP:=ω (xR.1 (fun d=>decide (d.name=q.name)) 103 #[π (w.heap.size+1) 0] st.jobs x.aj x.nj x.cj T (enters_of Tryz.func103 (by kernel_rfl) rfl) b.at_.j b.at_.lj h (Oj (w.heap.size+1) q st.jobs T b.q)))
    |(
     guard_hyp M
     have s2:ζ T w 2 (.slice x.an x.nn x.cn):=b.s.cell 2;have HP:=ω (xR.2.1 (fun d=>decide (d.name=q.name)) 106 #[π (w.heap.size+1) 0] st.nodes x.an x.nn x.cn T (enters_of Tryz.func106 (by kernel_rfl) rfl) b.at_.n b.at_.ln C (Ok (w.heap.size+1) q st.nodes T b.q)))
    |(
     guard_hyp a5
     have HL:=ω (wB (fun l=>decide (l.job=q.name)) 111 #[π (w.heap.size+1) 0] w T O N st x now now q st x b.z Y (enters_of Tryz.func111 (by kernel_rfl) rfl) (B4.2 (w.heap.size+1) q st.leases T b.q));clear b c0 ag)
   go_wp2_with fail
   first
    |(
     guard_hyp L
     refine HP.mono ?_;rintro ai U ⟨A,H,rfl,S,ak⟩;obtain⟨m,F⟩:∃ m,(st.jobs.filter fun d=>!decide (d.name=q.name)).length=m:=⟨_,rfl⟩
     have aI:m<=1000:=by
      have y:=List.length_filter_le (fun d=>!decide (d.name=q.name)) st.jobs;have C:=b.at_.lj;rw [<- F];omega
     have B:=b.kept ak;rw [F] at S |-
     have Q:=ω (show cK w (sX U O 1 (.slice A m H)) O N st x now now q ⟨st.rev,st.jobs.filter fun d=>!decide (d.name=q.name),st.nodes,st.leases⟩ ⟨A,m,H,x.an,x.nn,x.cn,x.al,x.nl,x.cl⟩ from
      B.Al 1 _ rfl (B.ao.Ks H (cS S) F (by omega) (fun a0 hz=>B.at_.oj a0 (List.mem_filter.1 hz).1)) ⟨.own S b.below.size,B.new.n,B.new.l⟩)
     have o1:ζ U O 1 (.slice x.aj x.nj x.cj):=B.o.cell 1;have z1:κ U O 1:=B.o.thaw 1;have aG:=B.o.lt;obtain⟨V,ae⟩:∃ V,U.setCell ⟨O,1,none⟩ (.slice A m H)=V:=⟨_,rfl⟩;rw [ae] at Q;have af:=ω ae;have HL:=ω (wB (fun l=>decide (l.job=q.name)) 104 #[π (w.heap.size+1) 0] w V O N st x now now q ⟨st.rev,st.jobs.filter fun d=>!decide (d.name=q.name),st.nodes,st.leases⟩ ⟨A,m,H,x.an,x.nn,x.cn,x.al,x.nl,x.cl⟩ Q.z Y (enters_of Tryz.func104 (by kernel_rfl) rfl) (B4.1 (w.heap.size+1) q st.leases V Q.q));clear F S ak B HP b ae s1 Q c0 ag
     go_wp2_with fail
     try simp only [af.z])
    |(
     guard_hyp M
     refine HP.mono ?_;rintro ai U ⟨A,H,rfl,S,ak⟩;obtain⟨m,F⟩:∃ m,(st.nodes.filter fun d=>!decide (d.name=q.name)).length=m:=⟨_,rfl⟩
     have aI:m<=1000:=by
      have y:=List.length_filter_le (fun d=>!decide (d.name=q.name)) st.nodes;have C:=b.at_.ln;rw [<- F];omega
     have B:=b.kept ak;rw [F] at S |-
     have Q:=ω (show cK w (sX U O 2 (.slice A m H)) O N st x now now q ⟨st.rev,st.jobs,st.nodes.filter fun d=>!decide (d.name=q.name),st.leases⟩ ⟨x.aj,x.nj,x.cj,A,m,H,x.al,x.nl,x.cl⟩ from
      B.Al 2 _ rfl (B.ao.NX H (cS S) F (by omega) (fun a0 hz=>B.at_.on_ a0 (List.mem_filter.1 hz).1)) ⟨B.new.j,.own S b.below.size,B.new.l⟩)
     have o2:ζ U O 2 (.slice x.an x.nn x.cn):=B.o.cell 2;have z2:κ U O 2:=B.o.thaw 2;have aG:=B.o.lt;obtain⟨V,ae⟩:∃ V,U.setCell ⟨O,2,none⟩ (.slice A m H)=V:=⟨_,rfl⟩;rw [ae] at Q;have af:=ω ae;have HL:=ω (wB (fun l=>decide (l.node=q.name)) 107 #[π (w.heap.size+1) 0] w V O N st x now now q ⟨st.rev,st.jobs,st.nodes.filter fun d=>!decide (d.name=q.name),st.leases⟩ ⟨x.aj,x.nj,x.cj,A,m,H,x.al,x.nl,x.cl⟩ Q.z Y (enters_of Tryz.func107 (by kernel_rfl) rfl) (ML (w.heap.size+1) q st.leases V Q.q));clear F S ak B HP b ae s2 Q c0 ag
     go_wp2_with fail
     try simp only [af.z])
    |skip
   refine HL.mono ?_;rintro ai w5 ⟨rfl,u,ar⟩;have H5:=ω ar
   first
    |(
     guard_hyp L
     clear ar HL af o1 z1)
    |(
     guard_hyp M
     clear ar HL af o2 z2)
    |(
     guard_hyp a5
     clear ar HL)
   first|(guard_hyp L;obtain⟨p,P⟩:∃ p,nB st q.name=p:=⟨_,rfl⟩)|(guard_hyp M;obtain⟨p,P⟩:∃ p,nC st q.name=p:=⟨_,rfl⟩)|obtain⟨p,P⟩:∃ p,mR st q.name=p:=⟨_,rfl⟩
   have H5:=ω (show cK w w5 O N st x now now q p u from by rw [<- P]; exact H5);have a7:=ω P;clear P
   go_wp2_with fail
   obtain⟨E,hE⟩:∃ E,aE p=E:=⟨_,rfl⟩;have HE:=ω (show Value.int .i64 (aE p)=Value.int .i64 E from by rw [hE]);have a6:=ω hE;clear hE;refine rq (Γ:=Unit) 184 (fun _=>Kr p u now E) [3,4] (fun D _=>nxE w O N st x now now q p u D) () (show cK w (w5).drew O N st x now now q p u from H5.drewN) ?_ ?_
   · clear H5;refine⟨?_,?_,?_,?_,?_,?_,?_,trivial⟩
     · refine okQ 0 1 fun D i d c _ _ a e=>?_;have h:=e.k 7 rfl;have a:=(show cK w c O N st x now now q p u from jT (by omega) a);obtain⟨I,aa,ab,ac⟩:=Blk.c4 (a.o);simp [go_sem,Oper.wp,execOp,Act.eval,h,I,aa,ab,ac];exact⟨_,rfl,rfl,jU (by omega) a⟩
     · refine okQ 0 2 fun D i d c _ _ a e=>?_;have h:=e.k 8 rfl;have I:ζ c N 0 (.int .i64 now):=(qF a).cell 0;simp [go_sem,Oper.wp,execOp,Act.eval,h,I];exact⟨_,rfl,rfl,a⟩
     · refine okQ 0 0 fun D i d c _ _ a e=>?_;have h:=e.k 7 rfl;have a:=(show cK w c O N st x now now q p u from jT (by omega) a);obtain⟨I,aa,ab,ac⟩:=Blk.c4 (a.o);simp [go_sem,Oper.wp,execOp,Act.eval,h,I,aa,ab,ac];exact⟨_,rfl,rfl,jU (by omega) a⟩
     · refine .inl ⟨0,rfl,fun i d c a e=>aL rfl ?_⟩;obtain⟨u1,h,rfl⟩:=e.g 2 182 rfl rfl;simp [go_sem,Oper.wp,execOp,Act.eval,h];have a:=(show cK w c O N st x now now q p u from a);refine (lQ p u c a.ao).mono ?_;rintro ai w' ⟨rfl,hb⟩;exact⟨_,rfl,HE,a.kept hb⟩
     · refine .inl ⟨1,rfl,fun i d c a e=>aL rfl ?_⟩;have h:=e.k 4 rfl;obtain⟨u2,C,rfl⟩:=e.g 0 180 rfl rfl;have a:=(show cK w c O N st x now now q p u from a);have z:=a.r;obtain⟨z0,z1,z2,z3⟩:=Blk.z4 (z);obtain⟨c0,c1,c2,c3⟩:=Blk.c4 (z);obtain⟨am,ap⟩:=Blk.S4 z (.int .i64 p.rev) (.slice u.aj u.nj u.cj) (.slice u.an u.nn u.cn) (.slice u.al u.nl u.cl);have ad:nxE w O N st x now now q p u 2 _:=⟨c,a,ap,am⟩;clear z a;simp [go_sem,Oper.wp,execOp,Act.eval,h,C,c0,c1,c2,c3,z0,z1,z2,z3];exact⟨⟨.int .i64 0,trivial⟩,ad⟩
     · exact ok1 2 2 1 181 rfl rfl (fun _ _ y=>y) fun _=>rfl
     · exact ok1 2 2 3 183 rfl rfl (fun _ _ y=>y) fun _=>rfl
   intro i a1 wz J;obtain⟨wm,F,hg,hr⟩:=(show ∃ wm,cK w wm O N st x now now q p u/\wm.grownBy wz (some (w.heap.size+2))/\Blk wz (w.heap.size+2) 26 (stC p u) from J.ph);obtain⟨X,rfl,K⟩:=J.frame [180,181,182,183,5,6] rfl;have f5:X 5 = .int .i64 now:=K 5 _ 5 rfl rfl;have f6:X 6 = .int .i64 E:=K 6 _ 6 rfl rfl;obtain⟨y0,y1,y2,y3⟩:=Blk.c4 (hr);have aW:=ω (F.end_ hg E);clear J K F hg hr H5;simp only [foldl_cons,foldl_nil,setIfInBounds_toArray,set_cons_succ,set_cons_zero,f5,f6];clear f5 f6;go_wp2;refine bodyPost_ret (v:=.tuple #[.agg (stC p u),.int .i64 now,.int .i64 E]) (by simp [results,Tryz.results57,go_sem,stC, *]) rfl ?_;rw [HR.z,a7.z,a6.z];exact aW)
end Go.Proofs.YtimglglgcgpjgaaGreatDoor
