/- Of the proof of a statement: RDo. -/
import Derived.Test.YtimglglgcgpjgaaGreatDoorQDEncR
import Derived.Test.YtimglglgcgpjgaaGreatDoorQWFrame
set_option linter.unusedVariables false
set_option linter.unusedSimpArgs false
set_option maxRecDepth 100000
set_option maxHeartbeats 8000000
namespace Go.Proofs.YtimglglgcgpjgaaGreatDoor
open List (foldl_cons foldl_nil setIfInBounds_toArray set_cons_succ set_cons_zero)
open Go.RowKit
theorem kX.own {w:World} {V g sz n c:Nat} {A:Option Addr} {e:TypeId} {xs:List Value} (d:∃ b,g<b/\w.ownsRow b e sz (.slice A n c) n xs) (i:V<=g):kX V A n:=by
 rintro _ b j rfl;obtain⟨f,h,a⟩:=d;have:=(a.lt b rfl).1;omega
theorem sL.far {w:World} {g V:Nat} {d:aX} {x:eF} (h:sL w g d x) (a:V<=g):AX V x:=⟨kX.own h.j a,kX.own h.n a,kX.own h.l a,kX.own h.gj a,kX.own h.gn a,kX.own h.gl a⟩
structure AY (tl:List Value) (T:TypeId) (w0:World) (V:Nat) (st:ah) (x:StA) (now:Int) (q:aK) (w:World):Prop where
 sv:iO tl w T V st x now
 q:Blk w w0 87 (aV q)
 r:Blk w (w0.heap.size+1) 92 #[(0:Int),(0:Int)]
 d:Blk w (w0.heap.size+2) 95 eS
 below:Below w0 w0 w
 lt:V<w0.heap.size
structure RdG where
 N:Option Nat
 y:Option StA
def EG (S V:Nat) (st:ah) (x:StA) (now:Int) (q:aK) (E:Int) (so:ah) (nw:Int) (γ:RdG):Nat->Value->Prop
 | 0,u=>u = π V 0
 | 1,u=>u = π V 0
 | 2,u=>u = .agg #[.int .i64 st.rev,.slice x.aj x.nj x.cj,.slice x.an x.nn x.cn,.slice x.al x.nl x.cl,.int .i64 now]
 | 3,u=>u = .agg #[.int .i64 q.kind,.string q.job.name,.int .i64 q.job.prio,.int .i64 q.job.need,.int .i64 q.job.tries,.string q.job.tag,.string q.node.name,.int .i64 q.node.room,.string q.node.zone,.string q.lease.job,.string q.lease.node,.int .i64 q.lease.till,.string q.name,.int .i64 q.n]
 | 4,u=>∃ y,γ.y=some y/\u = .tuple #[.agg #[.int .i64 so.rev,.slice y.aj y.nj y.cj,.slice y.an y.nn y.cn,.slice y.al y.nl y.cl],.int .i64 nw,.int .i64 E]
 | 5,u=>∃ y,γ.y=some y/\u = .tuple #[.agg #[.int .i64 so.rev,.slice y.aj y.nj y.cj,.slice y.an y.nn y.cn,.slice y.al y.nl y.cl],.int .i64 nw,.int .i64 E]
 | 6,u=>∃ y,γ.y=some y/\u = .agg #[.int .i64 so.rev,.slice y.aj y.nj y.cj,.slice y.an y.nn y.cn,.slice y.al y.nl y.cl]
 | 7,u=>u = .int .i64 nw
 | 8,u=>u = .int .i64 E
 | 9,u=>∃ N,γ.N=some N/\u = π N 0
 | 11,u=>u = .int .i64 nw
 | 12,u=>u = .int .i64 E
 | _,_=>True
theorem OU {S V:Nat} {st:ah} {x:StA} {now:Int} {q:aK} {E:Int} {so:ah} {nw:Int} {γ:RdG} (N:Option Nat):∀ j v,j≠9->EG S V st x now q E so nw γ j v->EG S V st x now q E so nw ⟨N,γ.y⟩ j v:=by
 intro j v a h;unfold EG at *
 split at h
 all_goals first | exact h | exact absurd rfl a
theorem OV {S V:Nat} {st:ah} {x:StA} {now:Int} {q:aK} {E:Int} {so:ah} {nw:Int} {γ:RdG} (b:γ.y=none) (y:Option StA):∀ j v,j≠4->EG S V st x now q E so nw γ j v->EG S V st x now q E so nw ⟨γ.N,y⟩ j v:=by
 intro j v c h;unfold EG at *
 split at h
 all_goals first | exact h | (obtain⟨_,a,_⟩:=h; rw [b] at a; cases a)
structure RdP (tl:List Value) (T:TypeId) (w0:World) (V:Nat) (st:ah) (x:StA) (now:Int) (q:aK) (so:ah) (p:Nat) (γ:RdG) (w:World):Prop where
 h:AY tl T w0 V st x now q w
 y0:p=0->γ.y=none
 y1:0<p->∃ y,γ.y=some y/\StAt w w so y/\Far V y
 n0:p<2->∀ N,γ.N=some N->w0.heap.size+3<=N/\Blk w N 26 lP
 n2:p=2->∃ N y,γ.N=some N/\γ.y=some y/\w0.heap.size+3<=N/\Blk w N 26 (stC so y)
structure RnE (tl:List Value) (T:TypeId) (w0:World) (V N DD:Nat) (st:ah) (x:StA) (now:Int) (q:aK) (so:ah) (z:StA) (D:aX) (p:Nat) (γ:eF) (w:World):Prop where
 h:AY tl T w0 V st x now q w
 n:Blk w N 26 (stC so z)
 a:StAt w w so z
 db:Blk w DD 95 (dcP D γ p)
 del:0<p->dz w w D γ
 ns:w0.heap.size+3<=N
 ds:w0.heap.size+3<=DD
 nd:N≠DD
 fz:Far V z
 fd:0<p->AX V γ
section
variable {tl:List Value} {T:TypeId} {w0 w w':World} {V N DD:Nat} {st:ah} {x:StA} {now:Int} {q:aK} {so:ah} {z y:StA} {nw:Int} {D:aX} {γ dx:eF} {g:RdG} {p:Nat}
theorem AY.kept (h:AY tl T w0 V st x now q w) (a:Below w w w'):AY tl T w0 V st x now q w':=
 ⟨h.sv.below a,h.q.below a h.q.lt,h.r.below a h.r.lt,h.d.below a h.d.lt,h.below.trans (a.mono h.below.size),h.lt⟩
theorem AY.drew (h:AY tl T w0 V st x now q w):AY tl T w0 V st x now q w.drew:=⟨⟨h.sv.blk,h.sv.at_.drew,h.sv.ok,h.sv.t,h.sv.far⟩,h.q,h.r,h.d,h.below.drew,h.lt⟩
theorem AY.but (h:AY tl T w0 V st x now q w) {g:Nat} {t:TypeId} {cs:Array Value} (b:Blk w g t cs) (c:gL cs) (a:w.grownBy w' (some g)) (e:w0.heap.size+3<=g):AY tl T w0 V st x now q w':=by
 have:=h.lt;exact⟨⟨ay a h.sv.blk (by omega),(h.sv.at_.fY b c a).more a.size,h.sv.ok,h.sv.t,h.sv.far⟩,ay a h.q (by omega),ay a h.r (by omega),ay a h.d (by omega),cU h.below a (by omega),h.lt⟩
theorem RdP.drew (h:RdP tl T w0 V st x now q so 0 g w):RdP tl T w0 V st x now q so 0 g w.drew:=
 ⟨h.h.drew,h.y0,fun h=>absurd h (by decide),fun b N a=>h.n0 b N a,fun h=>absurd h (by decide)⟩
theorem RdP.call (h:RdP tl T w0 V st x now q so 0 g w) (ha:StAt w' w' so y) (c:Far V y) (b:Below w w w'):RdP tl T w0 V st x now q so 1 ⟨g.N,some y⟩ w':=
 ⟨h.h.kept b,fun h=>absurd h (by decide),fun _=>⟨y,rfl,ha,c⟩,fun _ N a=>⟨(h.n0 (by decide) N a).1,(h.n0 (by decide) N a).2.below b (h.n0 (by decide) N a).2.lt⟩,fun h=>absurd h (by decide)⟩
theorem RdP.alloc (h:RdP tl T w0 V st x now q so p g w) (c:p<2):RdP tl T w0 V st x now q so p ⟨some w,g.y⟩ (χ w lP 26):=by
 have b:Below w w (χ w lP 26):=(θ).alloc lJ _;have i:=h.h.d.lt;refine⟨h.h.kept b,h.y0,fun c=>?_,fun _ N a=>?_,fun h=>by omega⟩
 · obtain⟨y,e,ha,f⟩:=h.y1 c;exact⟨y,e,ha.upS b,f⟩
 · injection a with a;subst a;exact⟨by omega,n5 w _⟩
theorem RdP.store (h:RdP tl T w0 V st x now q so 1 g w) (b:g.N=some N) (i:g.y=some y) (a:w.grownBy w' (some N)) (j:Blk w' N 26 (stC so y)):RdP tl T w0 V st x now q so 2 g w':=by
 obtain⟨c,d⟩:=h.n0 (by decide) N b;have e:gL lP:=iV ⟨0,[],[],[]⟩ ⟨none,0,0,none,0,0,none,0,0⟩;obtain⟨l,f,ha,k⟩:=h.y1 (by decide);exact⟨h.h.but d e a c,fun h=>absurd h (by decide),fun _=>⟨l,f,(ha.fY d e a).more a.size,k⟩,fun h=>absurd h (by decide),fun _=>⟨N,y,b,i,c,j⟩⟩
theorem RnE.drew (h:RnE tl T w0 V N DD st x now q so z D p γ w):RnE tl T w0 V N DD st x now q so z D p γ w.drew:=
 ⟨h.h.drew,h.n,h.a.drew,h.db,fun b=>(h.del b).drew,h.ns,h.ds,h.nd,h.fz,h.fd⟩
theorem RnE.kept (h:RnE tl T w0 V N DD st x now q so z D p γ w) (b:Below w w w'):RnE tl T w0 V N DD st x now q so z D p γ w':=
 ⟨h.h.kept b,h.n.below b h.n.lt,h.a.upS b,h.db.below b h.db.lt,fun c=>(h.del c).upS b,h.ns,h.ds,h.nd,h.fz,h.fd⟩
theorem RnE.call (h:RnE tl T w0 V N DD st x now q so z D 0 γ w) (b:Below w w w') (c:dz w' w' D dx) (d:AX V dx):RnE tl T w0 V N DD st x now q so z D 1 dx w':=
 ⟨h.h.kept b,h.n.below b h.n.lt,h.a.upS b,h.db.below b h.db.lt,fun _=>c,h.ns,h.ds,h.nd,h.fz,fun _=>d⟩
theorem RnE.store (h:RnE tl T w0 V N DD st x now q so z D 1 γ w) (b:w.grownBy w' (some DD)) (e:Blk w' DD 95 (dC D γ)):RnE tl T w0 V N DD st x now q so z D 2 γ w':=by
 have c:Blk w DD 95 (dcP D γ 1):=h.db;have d:gL (dcP D γ 1):=rL zD zA;exact⟨h.h.but c d b h.ds,ay b h.n h.nd,(h.a.fY c d b).more b.size,e,fun _=>((h.del (by decide)).fY c d b).more b.size,h.ns,h.ds,h.nd,h.fz,fun _=>h.fd (by decide)⟩
theorem RnE.toE (h:RnE tl T w0 V N DD st x now q so z zD 0 zA w):SdE tl T w0 V DD st x now zD zA #[(0:Int),(0:Int)] eS w:=
 ⟨h.h.sv.blk,h.h.sv.at_,CY _ _,h.db,h.h.r,h.h.d,grown_of V h.h.below,h.h.lt,h.ds,h.h.sv.far,Dc V⟩
theorem RnE.end_ (h:RnE tl T w0 V N DD st x now q so z D p γ w) (c:p=2\/(D=zD/\γ=zA/\p=0)) (b:w.grownBy w' (some V)) (i:Blk w' V T (EH tl so z nw)):SdE tl T w0 V DD so z nw D γ #[(0:Int),(0:Int)] eS w':=by
 have e:=h.h.lt;have f:=h.ds;refine⟨i,(h.a.qR h.fz b).more b.size,?_,?_,ay b h.h.r (by omega),ay b h.h.d (by omega),aP (grown_of V h.h.below) b,e,f,h.fz,?_⟩
 · rcases c with rfl | ⟨rfl,rfl,rfl⟩
   · exact ((h.del (by decide)).qR (h.fd (by decide)) b).more b.size
   · exact CY _ _
 · rcases c with rfl | ⟨rfl,rfl,rfl⟩
   · exact ay b h.db (by omega)
   · exact ay b h.db (by omega)
 · rcases c with rfl | ⟨rfl,rfl,rfl⟩
   · exact h.fd (by decide)
   · exact Dc V
end
def No (V N:Nat) (st:ah) (x:StA) (so:ah) (z:StA) (D:aX) (γ:eF):Nat->Value->Prop
 | 0,u=>u = π V 0
 | 1,u=>u = π V 0
 | 2,u=>u = π V 0
 | 3,u=>u = .agg #[.int .i64 st.rev,.slice x.aj x.nj x.cj,.slice x.an x.nn x.cn,.slice x.al x.nl x.cl]
 | 4,u=>u = .agg #[.int .i64 so.rev,.slice z.aj z.nj z.cj,.slice z.an z.nn z.cn,.slice z.al z.nl z.cl]
 | 5,u=>u = .agg #[.int .i64 D.from_,.int .i64 D.to_,.slice γ.aj γ.nj γ.cj,.slice γ.an γ.nn γ.cn,.slice γ.al γ.nl γ.cl,.slice γ.agj γ.ngj γ.cgj,.slice γ.agn γ.ngn γ.cgn,.slice γ.agl γ.ngl γ.cgl]
 | 7,u=>u = .bool true
 | _,_=>True
theorem Np {V N:Nat} {st:ah} {x:StA} {so:ah} {z:StA} {D:aX} {γ b:eF} {j:Nat} {v:Value} (a:j≠5) (h:No V N st x so z D γ j v):No V N st x so z D b j v:=by
 unfold No at *
 split at h
 all_goals first | exact h | exact absurd rfl a
theorem qS :
 (∀ (tl:List Value) (T:TypeId) (q:aK) (st:ah) (x:StA) (now:Int) (V:Nat) (w:World) (E:Int) (so:ah) (nw:Int) (h:iO tl w T V st x now) (hN:∀ W,StAt W W.heap.size st x->ψ 57 #[.agg (iB st x now),bP q] W (iQ x (E,so,nw) W)) (P:E≠0),ψ 29 #[π V 0,bP q] w (ou tl T V st ⟨E,false,st,now⟩ w)) /\
 (∀ (tl:List Value) (T:TypeId) (q:aK) (st:ah) (x:StA) (now:Int) (V:Nat) (w:World) (E:Int) (so:ah) (nw:Int) (h:iO tl w T V st x now) (hN:∀ W,StAt W W.heap.size st x->ψ 57 #[.agg (iB st x now),bP q] W (iQ x (E,so,nw) W)) (P:E=0) (Y:so=st),ψ 29 #[π V 0,bP q] w (ou tl T V st ⟨0,false,so,nw⟩ w)) /\
 (∀ (tl:List Value) (T:TypeId) (q:aK) (st:ah) (x:StA) (now:Int) (V:Nat) (w:World) (E:Int) (so:ah) (nw:Int) (h:iO tl w T V st x now) (hN:∀ W,StAt W W.heap.size st x->ψ 57 #[.agg (iB st x now),bP q] W (iQ x (E,so,nw) W)) (P:E=0) (C:so.rev=st.rev) (Y:so≠st) (ap:1099511627776<st.rev+1),ψ 29 #[π V 0,bP q] w (ou tl T V st ⟨2,false,st,now⟩ w)) /\
 (∀ (tl:List Value) (T:TypeId) (q:aK) (st:ah) (x:StA) (now:Int) (V:Nat) (w:World) (E:Int) (so:ah) (nw:Int) (h:iO tl w T V st x now) (hN:∀ W,StAt W W.heap.size st x->ψ 57 #[.agg (iB st x now),bP q] W (iQ x (E,so,nw) W)) (P:E=0) (C:so.rev=st.rev) (Y:so≠st) (ap:¬ 1099511627776<st.rev+1) (a5:aE so=0),ψ 29 #[π V 0,bP q] w (ou tl T V st ⟨0,true,tK so,nw⟩ w)):=by
 refine⟨@fun tl T q st x now V w E so nw h hN P=>(fun(S:Unit)=>?_) (),@fun tl T q st x now V w E so nw h hN P Y=>(fun(M a2:Unit)=>?_) () (),@fun tl T q st x now V w E so nw h hN P C Y ap=>(fun(Z a2:Unit)=>?_) () (),@fun tl T q st x now V w E so nw h hN P C Y ap a5=>(fun(ag a2:Unit)=>?_) () ()⟩<;>(
 first
  |(
   guard_hyp M
   subst P;have Hs:=ω Y;clear Y)
  |(
   guard_hyp Z
   subst P;obtain⟨i,ar⟩:∃ i,tK so=i:=⟨_,rfl⟩;have ai:=ω ar;have aa:=ω (show so.rev=st.rev/\0<=st.rev/\st.rev<=1099511627776 from ⟨C,(aM.1 (cV.1 h.ok).1).1,(aM.1 (cV.1 h.ok).1).2⟩);have sG:=ω ap;clear ar ap C;have Hs:=ω Y;clear Y)
  |(
   guard_hyp ag
   subst P;obtain⟨i,ar⟩:∃ i,tK so=i:=⟨_,rfl⟩;rw [ar];have ai:=ω ar;have aa:=ω (show so.rev=st.rev/\0<=st.rev/\st.rev<=1099511627776 from ⟨C,(aM.1 (cV.1 h.ok).1).1,(aM.1 (cV.1 h.ok).1).2⟩);have sG:=ω ap;clear ar ap C;have Hs:=ω Y;clear Y)
  |skip
 obtain⟨q1,q2,q3,q4⟩:=qG w (aV q) #[(0:Int),(0:Int)] eS (ta:=87) (tb:=92) (tc:=95);obtain⟨W0,aC⟩:∃ W0,((w.alloc (.cells (aV q) 87)).alloc (.cells #[(0:Int),(0:Int)] 92)).alloc (.cells eS 95)=W0:=⟨_,rfl⟩;rw [aC] at q1 q2 q3 q4;have H0:RdP tl T w V st x now q so 0 ⟨none,none⟩ W0.drew:=(show RdP tl T w V st x now q so 0 ⟨none,none⟩ W0 from ⟨⟨h.below q4,q1,q2,q3,q4,h.blk.lt⟩,fun _=>rfl,fun h=>absurd h (by decide),fun _ N h=>(by cases h),fun h=>absurd h (by decide)⟩).drew;have HN:=ω hN;have a8:=ω aC;have a9:=ω (qT h.at_ h.ok);have bk:=h.blk.lt;clear aC q1 q2 q3 q4 h hN;unfold bP at HN;unfold iB at HN;unfold bP;unfold aV at a8 HN |-;go_enter Tryz.func29,Tryz.ntmps29
 go_wp2_with fail
 rw [a8.z];clear a8
 first|(guard_hyp S;refine rq 64 (EG w V st x now q E so nw) [4,10] (RdP tl T w V st x now q so) ⟨none,none⟩ H0 ?_ ?_)|refine rq 64 (EG w V st x now q 0 so nw) [4,10] (RdP tl T w V st x now q so) ⟨none,none⟩ H0 ?_ ?_
 · clear H0;refine⟨?_,?_,?_,?_,?_,?_,?_,?_,?_,?_,?_,?_,?_,trivial⟩
   · exact ok0 0 2 0 rfl fun _=>rfl
   · exact ok1 0 2 0 13 rfl rfl (fun _ _ h=>h) fun _=>rfl
   · refine okQ 0 2 fun p γ a c _ _ b e=>?_;obtain⟨u1,j,rfl⟩:=e.g 1 14 rfl rfl;obtain⟨L,ac,ad,ae,a1⟩:=Blk.c5 (b.h.sv.blk);simp [go_sem,Oper.wp,execOp,Act.eval,j,L,ac,ad,ae,a1];exact⟨_,rfl,γ,fun _ _ _ h=>h,rfl,b⟩
   · refine okQ 0 2 fun p γ a c _ _ b e=>?_;have j:=e.k 3 rfl;obtain⟨L,ac,ad,ae,a1,aD,aF,aG,aZ,ba,F8,F9,Ga,Gb⟩:=Blk.c14 (b.h.q);simp [go_sem,Oper.wp,execOp,Act.eval,j,L,ac,ad,ae,a1,aD,aF,aG,aZ,ba,F8,F9,Ga,Gb];exact⟨_,rfl,γ,fun _ _ _ h=>h,rfl,b⟩
   · refine .inl ⟨0,rfl,fun γ a c b e=>aL rfl ?_⟩;obtain⟨u1,j,rfl⟩:=e.g 2 15 rfl rfl;obtain⟨u2,K,rfl⟩:=e.g 3 16 rfl rfl;have b:=(show RdP tl T w V st x now q so 0 γ c from b);simp [go_sem,Oper.wp,execOp,Act.eval,j,K];refine (HN.z c b.h.sv.at_).mono ?_;rintro B w' ⟨y,rfl,ha,bf,X⟩;exact⟨_,rfl,⟨γ.N,some y⟩,OV (b.y0 rfl) _,⟨y,rfl,rfl⟩,RdP.call b ha (bf.far b.h.sv.far (u7 b.h.lt b.h.below.size)) X⟩
   · refine okQ 0 2 fun p γ a c _ _ b e=>?_;obtain⟨u1,j,⟨y1,aw,rfl⟩⟩:=e.g 4 17 rfl rfl;simp [go_sem,Oper.wp,execOp,Act.eval,j];exact⟨_,rfl,γ,fun _ _ _ h=>h,⟨y1,aw,rfl⟩,b⟩
   · refine okQ 0 2 fun p γ a c _ _ b e=>?_;obtain⟨u1,j,⟨y1,aw,rfl⟩⟩:=e.g 5 12 rfl rfl;simp [go_sem,Oper.wp,execOp,Act.eval,j];exact⟨_,rfl,γ,fun _ _ _ h=>h,⟨y1,aw,rfl⟩,b⟩
   · refine okQ 0 2 fun p γ a c _ _ b e=>?_;obtain⟨u1,j,⟨y1,aw,rfl⟩⟩:=e.g 5 12 rfl rfl;simp [go_sem,Oper.wp,execOp,Act.eval,j];exact⟨_,rfl,γ,fun _ _ _ h=>h,rfl,b⟩
   · refine okQ 0 2 fun p γ a c _ _ b e=>?_;obtain⟨u1,j,⟨y1,aw,rfl⟩⟩:=e.g 5 12 rfl rfl;simp [go_sem,Oper.wp,execOp,Act.eval,j];exact⟨_,rfl,γ,fun _ _ _ h=>h,rfl,b⟩
   · refine okQ 0 1 fun p γ a c _ _ b e=>?_;simp [go_sem,Oper.wp,execOp,Act.eval];exact⟨_,rfl,⟨some c,γ.y⟩,OU _,⟨_,rfl,rfl⟩,RdP.alloc b (by omega)⟩
   · refine .inl ⟨1,rfl,fun γ a c b e=>aL rfl ?_⟩;obtain⟨u1,j,⟨N1,aO,rfl⟩⟩:=e.g 9 7 rfl rfl;obtain⟨u2,K,⟨J,aT,rfl⟩⟩:=e.g 6 18 rfl rfl;have b:=(show RdP tl T w V st x now q so 1 γ c from b);have l:Blk c N1 26 lP:=(b.n0 (by decide) N1 aO).2;obtain⟨O,z1,z2,z3⟩:=Blk.z4 (l);obtain⟨c0,c1,c2,c3⟩:=Blk.c4 (l);obtain⟨aY,bd⟩:=Blk.S4 l (.int .i64 so.rev) (.slice J.aj J.nj J.cj) (.slice J.an J.nn J.cn) (.slice J.al J.nl J.cl);have ab:=RdP.store b aO aT bd aY;clear l b;simp [go_sem,Oper.wp,execOp,Act.eval,j,K,c0,c1,c2,c3,O,z1,z2,z3];exact⟨.int .i64 0,γ,fun _ _ _ h=>h,trivial,ab⟩
   · exact ok1 0 2 7 19 rfl rfl (fun _ _ h=>h) fun _=>rfl
   · exact ok1 0 2 8 20 rfl rfl (fun _ _ h=>h) fun _=>rfl
 intro γ aN w1 F;have b:=(show RdP tl T w V st x now q so 2 γ w1 from F.ph);obtain⟨fv,rfl,Q⟩:=F.frame [13,14,15,16,17,12,18,19,20,7,8,9] rfl;obtain⟨N,z,eN,ez,be,a4⟩:=b.n2 rfl;obtain⟨z',aA,ha,bc⟩:=b.y1 (by decide);obtain rfl:z=z':=by rw [ez] at aA; injection aA
 have f7:fv 7 = π N 0:=by
  obtain⟨N',e1,e2⟩:=(show ∃ N,γ.N=some N/\fv 7 = .pointer (some ⟨N,0,none⟩) from Q 9 _ 7 rfl rfl);rw [eN] at e1;injection e1 with e1;rw [e2,e1]
 have f8:fv 8 = .int .i64 nw:=Q 11 _ 8 rfl rfl
 first
  |(
   guard_hyp S
   have f9:fv 9 = .int .i64 E:=Q 12 _ 9 rfl rfl)
  |(
   guard_hyp a2
   have f9:fv 9 = .int .i64 (0:Int):=Q 12 _ 9 rfl rfl)
 simp only [foldl_cons,foldl_nil,setIfInBounds_toArray,set_cons_succ,set_cons_zero,f7,f8,f9];obtain⟨o,a6⟩:∃ o,w1.alloc (.cells eS 95)=o:=⟨_,rfl⟩;obtain⟨DD,aB⟩:∃ DD,w1.heap.size=DD:=⟨_,rfl⟩;obtain⟨D0,aU⟩:∃ D0,zD=D0:=⟨_,rfl⟩;have a3:Below w1 w1 o:=by rw [<- a6]; exact (θ).alloc lJ _
 have m:=ω (show ∀ D,RnE tl T w V N DD st x now q so z D 0 zA o from fun D=>by
  have e1:=a4.lt;have e2:=b.h.d.lt;refine⟨b.h.kept a3,a4.below a3 a4.lt,ha.upS a3,?_,fun h=>absurd h (by decide),be,by omega,by omega,bc,fun h=>absurd h (by decide)⟩;rw [<- a6,<- aB]; exact n5 w1 _)
 have aI:=ω a6;have Hd:=ω aB;clear F Q b H0 eN ez aA a4 ha f7 f8 f9 a6 aB a3 HN aU
 first
  |(
   guard_hyp S
   have d1:(E == 0)=false:=eY P;clear P)
  |(
   guard_hyp M
   have HS:=ω (fun nq osq=>show ψ 9 #[.agg #[so.rev,.slice z.aj z.nj z.cj,.slice z.an z.nn z.cn,.slice z.al z.nl z.cl],.agg #[st.rev,.slice x.aj x.nj x.cj,.slice x.an x.nn x.cn,.slice x.al x.nl x.cl]] (Sort.grow (redrawn o nq) osq) (fun B w'=>B = .returned (.bool true)/\Below (Sort.grow (redrawn o nq) osq).heap.size (Sort.grow (redrawn o nq) osq) w') from by
    refine (wM so st z x _ ((m.z zD).a.upS (below_regrown o nq osq)) ((m.z zD).h.sv.at_.upS (below_regrown o nq osq))).mono ?_;rintro B w' ⟨t,rfl,ht,X⟩;have:t=true:=by exact ht.2 Hs.z
    subst this;exact⟨rfl,X⟩)
   obtain⟨v0,v1,v2,v3⟩:=Blk.r4 ((m.z zD).h.sv.blk);obtain⟨n0,n1,n2,n3⟩:=Blk.r4 ((m.z zD).n))
  |(
   guard_hyp Z
   have HS:=ω (fun nq osq=>show ψ 9 #[.agg #[so.rev,.slice z.aj z.nj z.cj,.slice z.an z.nn z.cn,.slice z.al z.nl z.cl],.agg #[st.rev,.slice x.aj x.nj x.cj,.slice x.an x.nn x.cn,.slice x.al x.nl x.cl]] (Sort.grow (redrawn o nq) osq) (fun B w'=>B = .returned (.bool false)/\Below (Sort.grow (redrawn o nq) osq).heap.size (Sort.grow (redrawn o nq) osq) w') from by
    refine (wM so st z x _ ((m.z zD).a.upS (below_regrown o nq osq)) ((m.z zD).h.sv.at_.upS (below_regrown o nq osq))).mono ?_;rintro B w' ⟨t,rfl,ht,X⟩;have:t=false:=by rw [Bool.eq_false_iff]; exact fun h=>Hs.z (ht.1 h)
    subst this;exact⟨rfl,X⟩)
   obtain⟨v0,v1,v2,v3⟩:=Blk.r4 ((m.z zD).h.sv.blk);obtain⟨n0,n1,n2,n3⟩:=Blk.r4 ((m.z zD).n))
  |(
   guard_hyp ag
   have HZ:=ω (qT (m.z zD).a a5);have aH:=ω (show aE i=0 from by rw [<- ai.z]; exact vL a5 (by have:=aa.z; have:=sG.z; omega));clear a5
   have HS:=ω (fun nq osq=>show ψ 9 #[.agg #[so.rev,.slice z.aj z.nj z.cj,.slice z.an z.nn z.cn,.slice z.al z.nl z.cl],.agg #[st.rev,.slice x.aj x.nj x.cj,.slice x.an x.nn x.cn,.slice x.al x.nl x.cl]] (Sort.grow (redrawn o nq) osq) (fun B w'=>B = .returned (.bool false)/\Below (Sort.grow (redrawn o nq) osq).heap.size (Sort.grow (redrawn o nq) osq) w') from by
    refine (wM so st z x _ ((m.z zD).a.upS (below_regrown o nq osq)) ((m.z zD).h.sv.at_.upS (below_regrown o nq osq))).mono ?_;rintro B w' ⟨t,rfl,ht,X⟩;have:t=false:=by rw [Bool.eq_false_iff]; exact fun h=>Hs.z (ht.1 h)
    subst this;exact⟨rfl,X⟩)
   obtain⟨v0,v1,v2,v3⟩:=Blk.r4 ((m.z zD).h.sv.blk);obtain⟨n0,n1,n2,n3⟩:=Blk.r4 ((m.z zD).n))
 go_wp2_with fail
 simp only [aI.z,Hd.z];clear aI Hd;refine wp_region_quiet_below (by kernel_rfl) (by kernel_rfl) ?_
 first
  |(
   guard_hyp S
   repeat (go_big_quiet_step ((fail))))
  |(
   guard_hyp a2
   repeat (go_big_quiet_step ((go_at_call 9; exact Calls.regrown_of (HS.z _ _)))))
 refine wpQuiet_nil ?_;intro _ bi;obtain⟨⟨nq,osq⟩,hw''⟩:=bi;subst hw'';have hq:=below_regrown o nq osq
 first
  |(
   guard_hyp a2
   clear v0 v1 v2 v3 n0 n1 n2 n3 HS Hs)
  |skip
 dsimp only;generalize Sort.grow (redrawn o nq) osq=I at hq |-
 first
  |(
   guard_hyp S
   have H:=((m.z zD).kept hq).toE;obtain⟨D,G⟩:∃ D,zD=D:=⟨_,rfl⟩;obtain⟨dx,ak⟩:∃ dx,zA=dx:=⟨_,rfl⟩;have am:=ω (show D=if (⟨E,false,st,now⟩:lF).ch=true then dL st (⟨E,false,st,now⟩:lF).st else zD from G.symm);rw [G,ak] at H)
  |(
   guard_hyp M
   have s:=ω (fun D=>(m.z D).kept hq);clear hq m;have aS:=(s.z zD).h.sv.blk.lt;have aQ:=(s.z zD).n.lt;have C:=(s.z zD).h.sv.blk;obtain⟨n0,n1,n2,n3⟩:=Blk.c4 ((s.z zD).n);obtain⟨c0,c1,c2,c3⟩:=Blk.c4 (C);obtain⟨O,z1,z2,z3⟩:=Blk.z4 (C);obtain⟨U,az⟩:=Blk.S4 C (.int .i64 so.rev) (.slice z.aj z.nj z.cj) (.slice z.an z.nn z.cn) (.slice z.al z.nl z.cl);obtain⟨y0,y1,J,y3⟩:=Blk.c4 U;have y4:ζ (sX (sX (sX (sX I V 0 (.int .i64 so.rev)) V 1 (.slice z.aj z.nj z.cj)) V 2 (.slice z.an z.nn z.cn)) V 3 (.slice z.al z.nl z.cl)) V 4 (.int .i64 now):=U.cell 4;have yz:κ (sX (sX (sX (sX I V 0 (.int .i64 so.rev)) V 1 (.slice z.aj z.nj z.cj)) V 2 (.slice z.an z.nn z.cn)) V 3 (.slice z.al z.nl z.cl)) V 4:=U.thaw 4;have H:=(s.z zD).end_ (.inr ⟨rfl,rfl,rfl⟩) (aJ az 4 (.int .i64 nw)) (Blk.eq (U.set 4 (.int .i64 nw)) (show _=EH tl so z nw from rfl));obtain⟨wE,aq⟩:∃ wE,((((I.setCell ⟨V,0,none⟩ (.int .i64 so.rev)).setCell ⟨V,1,none⟩ (.slice z.aj z.nj z.cj)).setCell ⟨V,2,none⟩ (.slice z.an z.nn z.cn)).setCell ⟨V,3,none⟩ (.slice z.al z.nl z.cl)).setCell ⟨V,4,none⟩ (.int .i64 nw)=wE:=⟨_,rfl⟩;rw [aq] at H;obtain⟨D,G⟩:∃ D,zD=D:=⟨_,rfl⟩;obtain⟨dx,ak⟩:∃ dx,zA=dx:=⟨_,rfl⟩;have am:=ω (show D=if (⟨0,false,so,nw⟩:lF).ch=true then dL st (⟨0,false,so,nw⟩:lF).st else zD from G.symm);rw [G,ak] at H)
  |(
   guard_hyp Z
   have s:=ω (fun D=>(m.z D).kept hq);clear hq m;have aS:=(s.z zD).h.sv.blk.lt;have aQ:=(s.z zD).n.lt;have bg:0<=so.rev:=by have:=aa.z; omega
   have bh:so.rev<=1099511627776:=by have:=aa.z; omega
   have n0:ζ I N 0 (.int .i64 so.rev):=(s.z zD).n.cell 0;have O:κ I N 0:=(s.z zD).n.thaw 0;obtain⟨w4,af⟩:∃ w4,I.setCell ⟨N,0,none⟩ (.int .i64 (so.rev+1))=w4:=⟨_,rfl⟩
   have au:=ω (show ∀ D,RnE tl T w V N DD st x now q i z D 0 zA w4 from fun D=>by
    have h:=s.z D;have hg:I.grownBy w4 (some N):=by rw [<- af]; exact aR I N 0 _
    refine⟨h.h.but h.n (iV _ _) hg h.ns,?_,?_,ay hg h.db (fun B=>h.nd B.symm),fun h=>absurd h (by decide),h.ns,h.ds,h.nd,h.fz,h.fd⟩
    · rw [<- ai.z,<- af]; exact Blk.eq (h.n.set 0 _) rfl
    · rw [<- ai.z]; exact ((h.a.fY h.n (iV _ _) hg).more hg.size).rev _)
   have av:=ω af;clear af s;have d2:decide (1099511627776<so.rev+1)=true:=t8 (by have:=sG.z; have:=aa.z; omega);have H:=(au.z zD).toE;obtain⟨D,G⟩:∃ D,zD=D:=⟨_,rfl⟩;obtain⟨dx,ak⟩:∃ dx,zA=dx:=⟨_,rfl⟩;have am:=ω (show D=if (⟨2,false,st,now⟩:lF).ch=true then dL st (⟨2,false,st,now⟩:lF).st else zD from G.symm);rw [G,ak] at H)
  |(
   guard_hyp ag
   have s:=ω (fun D=>(m.z D).kept hq);clear hq m;have aS:=(s.z zD).h.sv.blk.lt;have aQ:=(s.z zD).n.lt;have bg:0<=so.rev:=by have:=aa.z; omega
   have bh:so.rev<=1099511627776:=by have:=aa.z; omega
   have n0:ζ I N 0 (.int .i64 so.rev):=(s.z zD).n.cell 0;have O:κ I N 0:=(s.z zD).n.thaw 0;obtain⟨w4,af⟩:∃ w4,I.setCell ⟨N,0,none⟩ (.int .i64 (so.rev+1))=w4:=⟨_,rfl⟩
   have au:=ω (show ∀ D,RnE tl T w V N DD st x now q i z D 0 zA w4 from fun D=>by
    have h:=s.z D;have hg:I.grownBy w4 (some N):=by rw [<- af]; exact aR I N 0 _
    refine⟨h.h.but h.n (iV _ _) hg h.ns,?_,?_,ay hg h.db (fun B=>h.nd B.symm),fun h=>absurd h (by decide),h.ns,h.ds,h.nd,h.fz,h.fd⟩
    · rw [<- ai.z,<- af]; exact Blk.eq (h.n.set 0 _) rfl
    · rw [<- ai.z]; exact ((h.a.fY h.n (iV _ _) hg).more hg.size).rev _))
 first|(guard_hyp ag;have av:=ω af)|have ao:=ω H
 first
  |(
   guard_hyp S
   clear hq m H G ak)
  |(
   guard_hyp M
   have Hw:=ω aq;clear C U az H aq s y0 y1 J y3 G ak)
  |(
   guard_hyp Z
   clear H au G ak sG aa ai)
  |(
   guard_hyp ag
   clear af s;have d2:decide (1099511627776<so.rev+1)=false:=fK (by have:=sG.z; have:=aa.z; omega);obtain⟨D,G⟩:∃ D,dL st i=D:=⟨_,rfl⟩;have HD:=ω G
   have HB:=ω (show ∀ (c:World) {γ:eF},RnE tl T w V N DD st x now q i z D 0 γ c->ψ 58 #[.agg (stC st x),.agg (stC i z)] c (fun B w'=>∃ dx:eF,B = .returned (.agg (dC D dx))/\dz w' w' D dx/\AX V dx/\Below c c w') from fun c γ b=>by
    refine (Db st i x z c b.h.sv.at_ b.a (by have:=a9.z; omega) (by have:=a9.z; omega) (by have:=a9.z; omega) (by have:=HZ.z; omega) (by have:=HZ.z; omega) (by have:=HZ.z; omega)).mono ?_;rintro B w' ⟨dx,rfl,ho,X⟩;have u:=uM b.h.sv.at_ b.a b.h.sv.ok aH.z;rw [HD.z] at ho u |-;exact⟨dx,rfl,ho.at_ u,ho.far (v6 (Nat.le_of_lt b.h.lt) b.h.below.size),X⟩)
   have am:=ω (show D=if (⟨0,true,i,nw⟩:lF).ch=true then dL st (⟨0,true,i,nw⟩:lF).st else zD from by rw [if_pos rfl]; exact G.symm);have a7:=ω (au.z D);clear G HD aH sG aa ai au)
 go_wp2_with fail
 first
  |(
   guard_hyp M
   simp only [Hw.z];clear Hw y4 yz)
  |(
   guard_hyp Z
   simp only [av.z];clear av n0 O)
  |(
   guard_hyp ag
   simp only [av.z];clear av n0 O d2;refine rq (Γ:=eF) 64 (fun γ=>No V N st x i z D γ) [5,6] (fun p γ c=>RnE tl T w V N DD st x now q i z D p γ c) zA (show RnE tl T w V N DD st x now q i z D 0 zA w4.drew from a7.drew) ?_ ?_
   · clear a7;refine⟨?_,?_,?_,?_,?_,?_,?_,?_,trivial⟩
     · exact ok0 0 2 0 rfl fun _=>rfl
     · exact ok1 0 2 0 39 rfl rfl (fun _ _ h=>h) fun _=>rfl
     · exact ok1 0 2 1 40 rfl rfl (fun _ _ h=>h) fun _=>rfl
     · refine okQ 0 2 fun p γ a c _ _ b e=>?_;obtain⟨u1,j,rfl⟩:=e.g 2 41 rfl rfl;obtain⟨L,ac,ad,ae⟩:=Blk.c4 (b.h.sv.blk);simp [go_sem,Oper.wp,execOp,Act.eval,j,L,ac,ad,ae];exact⟨_,rfl,γ,fun _ _ _ h=>h,rfl,b⟩
     · refine okQ 0 2 fun p γ a c _ _ b e=>?_;have j:=e.k 7 rfl;obtain⟨L,ac,ad,ae⟩:=Blk.c4 (b.n);simp [go_sem,Oper.wp,execOp,Act.eval,j,L,ac,ad,ae];exact⟨_,rfl,γ,fun _ _ _ h=>h,rfl,b⟩
     · refine .inl ⟨0,rfl,fun γ a c b e=>aL rfl ?_⟩;obtain⟨u1,j,rfl⟩:=e.g 3 42 rfl rfl;obtain⟨u2,K,rfl⟩:=e.g 4 43 rfl rfl;have b:=(show RnE tl T w V N DD st x now q i z D 0 γ c from b);simp [go_sem,Oper.wp,execOp,Act.eval,j,K];refine (HB.z _ b).mono ?_;rintro B w' ⟨dx,rfl,F,bb,X⟩;exact⟨_,rfl,dx,fun bm v hj h=>Np hj h,rfl,RnE.call b X F bb⟩
     · refine .inl ⟨1,rfl,fun γ a c b e=>aL rfl ?_⟩;have j:=e.k 10 rfl;obtain⟨u2,K,rfl⟩:=e.g 5 44 rfl rfl;have b:=(show RnE tl T w V N DD st x now q i z D 1 γ c from b);have l:=(show Blk c DD 95 eS from b.db);obtain⟨O,z1,z2,z3,z4,z5,z6,z7⟩:=Blk.z8 (l);obtain⟨c0,c1,c2,c3,c4,c5,c6,c7⟩:=Blk.c8 (l);obtain⟨ax,a0⟩:=Blk.S8 (l) (.int .i64 D.from_) (.int .i64 D.to_) (.slice γ.aj γ.nj γ.cj) (.slice γ.an γ.nn γ.cn) (.slice γ.al γ.nl γ.cl) (.slice γ.agj γ.ngj γ.cgj) (.slice γ.agn γ.ngn γ.cgn) (.slice γ.agl γ.ngl γ.cgl);have ab:=RnE.store b a0 ax;clear l b ax a0;simp [go_sem,Oper.wp,execOp,Act.eval,j,K,c0,c1,c2,c3,c4,c5,c6,c7,O,z1,z2,z3,z4,z5,z6,z7];exact⟨.int .i64 0,γ,fun _ _ _ h=>h,trivial,ab⟩
     · refine okQ 0 2 fun p γ a c _ _ b e=>?_;simp [go_sem,Oper.wp,execOp,Act.eval];exact⟨_,rfl,γ,fun _ _ _ h=>h,rfl,b⟩
   intro dx aN wz F;have u:=(show RnE tl T w V N DD st x now q i z D 2 dx wz from F.ph);obtain⟨fv,rfl,Q⟩:=F.frame [39,40,41,42,43,44,11] rfl;have aP:fv 11 = .bool true:=Q 7 _ 11 rfl rfl;have bl:=u.h.sv.blk.lt;have bj:=u.n.lt;have C:=u.h.sv.blk;obtain⟨n0,n1,n2,n3⟩:=Blk.c4 (u.n);obtain⟨c0,c1,c2,c3⟩:=Blk.c4 (C);obtain⟨O,z1,z2,z3⟩:=Blk.z4 (C);obtain⟨U,az⟩:=Blk.S4 C (.int .i64 i.rev) (.slice z.aj z.nj z.cj) (.slice z.an z.nn z.cn) (.slice z.al z.nl z.cl);obtain⟨y0,y1,J,y3⟩:=Blk.c4 U;have y4:ζ (sX (sX (sX (sX wz V 0 (.int .i64 i.rev)) V 1 (.slice z.aj z.nj z.cj)) V 2 (.slice z.an z.nn z.cn)) V 3 (.slice z.al z.nl z.cl)) V 4 (.int .i64 now):=U.cell 4;have yz:κ (sX (sX (sX (sX wz V 0 (.int .i64 i.rev)) V 1 (.slice z.aj z.nj z.cj)) V 2 (.slice z.an z.nn z.cn)) V 3 (.slice z.al z.nl z.cl)) V 4:=U.thaw 4;have H:=u.end_ (.inl rfl) (aJ az 4 (.int .i64 nw)) (Blk.eq (U.set 4 (.int .i64 nw)) (show _=EH tl i z nw from rfl));obtain⟨wE,aq⟩:∃ wE,((((wz.setCell ⟨V,0,none⟩ (.int .i64 i.rev)).setCell ⟨V,1,none⟩ (.slice z.aj z.nj z.cj)).setCell ⟨V,2,none⟩ (.slice z.an z.nn z.cn)).setCell ⟨V,3,none⟩ (.slice z.al z.nl z.cl)).setCell ⟨V,4,none⟩ (.int .i64 nw)=wE:=⟨_,rfl⟩;rw [aq] at H;have ao:=ω H;have Hw:=ω aq;clear F Q u C U az H aq a7 HB y0 y1 J y3;simp only [foldl_cons,foldl_nil,setIfInBounds_toArray,set_cons_succ,set_cons_zero,aP];clear aP
   go_wp2_with fail
   simp only [Hw.z];clear Hw y4 yz)
  |skip
 first|(guard_hyp S;refine rq (Γ:=Unit) 64 (fun _=>EI V st E D dx false) [9,10] (fun p _=>SdE tl T w V DD st x now D dx (rcP E st.rev p) (dcP D dx p)) () (show SdE tl T w V DD st x now D dx #[(0:Int),(0:Int)] eS (I).drew from ao.drew) ?_ ?_)|(guard_hyp M;refine rq (Γ:=Unit) 64 (fun _=>EI V so 0 D dx false) [9,10] (fun p _=>SdE tl T w V DD so z nw D dx (rcP 0 so.rev p) (dcP D dx p)) () (show SdE tl T w V DD so z nw D dx #[(0:Int),(0:Int)] eS (wE).drew from ao.drew) ?_ ?_)|(guard_hyp Z;refine rq (Γ:=Unit) 64 (fun _=>EI V st 2 D dx false) [9,10] (fun p _=>SdE tl T w V DD st x now D dx (rcP 2 st.rev p) (dcP D dx p)) () (show SdE tl T w V DD st x now D dx #[(0:Int),(0:Int)] eS (w4).drew from ao.drew) ?_ ?_)|refine rq (Γ:=Unit) 64 (fun _=>EI V i 0 D dx true) [9,10] (fun p _=>SdE tl T w V DD i z nw D dx (rcP 0 i.rev p) (dcP D dx p)) () (show SdE tl T w V DD i z nw D dx #[(0:Int),(0:Int)] eS (wE).drew from ao.drew) ?_ ?_
 · clear ao;refine⟨?_,?_,?_,?_,?_,?_,?_,?_,?_,?_,?_,?_,trivial⟩
   · exact ok0 0 0 9 rfl fun _=>rfl
   · exact ok0 0 0 0 rfl fun _=>rfl
   · exact ok1 0 0 1 56 rfl rfl (fun _ _ h=>h) fun _=>rfl
   · exact ok1 0 0 2 57 rfl rfl (fun _ _ h=>h) fun _=>rfl
   · exact ok1 0 0 3 58 rfl rfl (fun _ _ h=>h) fun _=>rfl
   · refine okQ 0 0 fun p γ a c _ _ b e=>?_;obtain⟨u1,j,rfl⟩:=e.g 4 59 rfl rfl
     first|(guard_hyp M;have L:ζ c V 0 (.int .i64 so.rev):=b.v.cell 0)|(guard_hyp ag;have L:ζ c V 0 (.int .i64 i.rev):=b.v.cell 0)|have L:ζ c V 0 (.int .i64 st.rev):=b.v.cell 0
     simp [go_sem,Oper.wp,execOp,Act.eval,j,L];exact⟨_,rfl,rfl,b⟩
   · refine okQ 0 0 fun p γ a c _ _ b e=>?_;obtain⟨u1,j,rfl⟩:=e.g 0 55 rfl rfl;obtain⟨u2,K,rfl⟩:=e.g 5 60 rfl rfl;simp [go_sem,Oper.wp,execOp,Act.eval,j,K];exact⟨_,rfl,rfl,b⟩
   · refine okQ 0 1 fun p γ a c _ _ b e=>?_;have j:=e.k 10 rfl;obtain⟨L,ac,ad,ae,a1,aD,aF,aG⟩:=Blk.c8 (b.db);simp [go_sem,Oper.wp,execOp,Act.eval,j,L,ac,ad,ae,a1,aD,aF,aG];exact⟨_,rfl,rfl,b⟩
   · exact ok0 0 2 11 rfl fun _=>rfl
   · refine .inl ⟨0,rfl,fun γ a c b e=>aL rfl ?_⟩;have j:=e.k 4 rfl;obtain⟨u2,K,rfl⟩:=e.g 6 61 rfl rfl
     first|(guard_hyp M;have b:=(show SdE tl T w V DD so z nw D dx #[(0:Int),(0:Int)] eS c from b))|(guard_hyp ag;have b:=(show SdE tl T w V DD i z nw D dx #[(0:Int),(0:Int)] eS c from b))|have b:=(show SdE tl T w V DD st x now D dx #[(0:Int),(0:Int)] eS c from b)
     have l:=b.r;obtain⟨O,z1⟩:=Blk.z2 (l);obtain⟨c0,c1⟩:=Blk.c2 (l)
     first|(guard_hyp S;have ab:=b.BM (gJ 0 0) (aJ (aJ (bO c (w.heap.size+1)) 0 (.int .i64 E)) 1 (.int .i64 st.rev)) (Blk.eq ((l.set 0 (.int .i64 E)).set 1 (.int .i64 st.rev)) (show _=rcP E st.rev 1 from rfl)))|(guard_hyp M;have ab:=b.BM (gJ 0 0) (aJ (aJ (bO c (w.heap.size+1)) 0 (.int .i64 0)) 1 (.int .i64 so.rev)) (Blk.eq ((l.set 0 (.int .i64 0)).set 1 (.int .i64 so.rev)) (show _=rcP 0 so.rev 1 from rfl)))|(guard_hyp Z;have ab:=b.BM (gJ 0 0) (aJ (aJ (bO c (w.heap.size+1)) 0 (.int .i64 2)) 1 (.int .i64 st.rev)) (Blk.eq ((l.set 0 (.int .i64 2)).set 1 (.int .i64 st.rev)) (show _=rcP 2 st.rev 1 from rfl)))|have ab:=b.BM (gJ 0 0) (aJ (aJ (bO c (w.heap.size+1)) 0 (.int .i64 0)) 1 (.int .i64 i.rev)) (Blk.eq ((l.set 0 (.int .i64 0)).set 1 (.int .i64 i.rev)) (show _=rcP 0 i.rev 1 from rfl))
     clear l b;simp [go_sem,Oper.wp,execOp,Act.eval,j,K,c0,c1,O,z1];exact⟨⟨.int .i64 0,trivial⟩,ab⟩
   · refine .inl ⟨1,rfl,fun γ a c b e=>aL rfl ?_⟩;have j:=e.k 5 rfl;obtain⟨u2,K,rfl⟩:=e.g 7 62 rfl rfl
     first|(guard_hyp S;have b:=(show SdE tl T w V DD st x now D dx (rcP E st.rev 1) eS c from b))|(guard_hyp M;have b:=(show SdE tl T w V DD so z nw D dx (rcP 0 so.rev 1) eS c from b))|(guard_hyp Z;have b:=(show SdE tl T w V DD st x now D dx (rcP 2 st.rev 1) eS c from b))|have b:=(show SdE tl T w V DD i z nw D dx (rcP 0 i.rev 1) eS c from b)
     have l:=b.d;obtain⟨O,z1,z2,z3,z4,z5,z6,z7⟩:=Blk.z8 (l);obtain⟨c0,c1,c2,c3,c4,c5,c6,c7⟩:=Blk.c8 (l);obtain⟨ax,a0⟩:=Blk.S8 (l) (.int .i64 D.from_) (.int .i64 D.to_) (.slice dx.aj dx.nj dx.cj) (.slice dx.an dx.nn dx.cn) (.slice dx.al dx.nl dx.cl) (.slice dx.agj dx.ngj dx.cgj) (.slice dx.agn dx.ngn dx.cgn) (.slice dx.agl dx.ngl dx.cgl);have ab:=b.M9 (rL zD zA) a0 (dc':=dC D dx) ax;clear l b ax a0;simp [go_sem,Oper.wp,execOp,Act.eval,j,K,c0,c1,c2,c3,c4,c5,c6,c7,O,z1,z2,z3,z4,z5,z6,z7];exact⟨⟨.int .i64 0,trivial⟩,ab⟩
   · exact ok1 2 2 8 63 rfl rfl (fun _ _ h=>h) fun _=>rfl
 intro γ aN wz F
 first|(guard_hyp S;have u:=(show SdE tl T w V DD st x now D dx #[E,st.rev] (dC D dx) wz from F.ph))|(guard_hyp M;have u:=(show SdE tl T w V DD so z nw D dx #[(0:Int),so.rev] (dC D dx) wz from F.ph))|(guard_hyp Z;have u:=(show SdE tl T w V DD st x now D dx #[(2:Int),st.rev] (dC D dx) wz from F.ph))|have u:=(show SdE tl T w V DD i z nw D dx #[(0:Int),i.rev] (dC D dx) wz from F.ph)
 obtain⟨fv,rfl,Q⟩:=F.frame [55,56,57,58,59,60,61,62,63,6] rfl
 first|(guard_hyp ag;have f6:fv 6 = .bool true:=Q 11 _ 6 rfl rfl)|have f6:fv 6 = .bool false:=Q 11 _ 6 rfl rfl
 obtain⟨r0,r1⟩:=Blk.c2 (u.r);obtain⟨y0,y1,J,y3,y4,y5,y6,y7⟩:=Blk.c8 (u.d)
 first|(guard_hyp S;have aW:=ω (u.end_ (st:=st) (R:=⟨E,false,st,now⟩) rfl rfl am.z))|(guard_hyp M;have aW:=ω (u.end_ (st:=st) (R:=⟨0,false,so,nw⟩) rfl rfl am.z))|(guard_hyp Z;have aW:=ω (u.end_ (st:=st) (R:=⟨2,false,st,now⟩) rfl rfl am.z))|have aW:=ω (u.end_ (st:=st) (R:=⟨0,true,i,nw⟩) rfl rfl am.z)
 clear F Q u ao;simp only [foldl_cons,foldl_nil,setIfInBounds_toArray,set_cons_succ,set_cons_zero,f6];clear f6;go_wp2
 first|(guard_hyp S;refine bodyPost_ret (v:=.tuple #[.agg #[.int .i64 E,.int .i64 st.rev],.agg (dC D dx),.bool false]) (by simp [results,Tryz.results29,go_sem,dC, *]) rfl ?_)|(guard_hyp M;refine bodyPost_ret (v:=.tuple #[.agg #[.int .i64 0,.int .i64 so.rev],.agg (dC D dx),.bool false]) (by simp [results,Tryz.results29,go_sem,dC, *]) rfl ?_)|(guard_hyp Z;refine bodyPost_ret (v:=.tuple #[.agg #[.int .i64 2,.int .i64 st.rev],.agg (dC D dx),.bool false]) (by simp [results,Tryz.results29,go_sem,dC, *]) rfl ?_)|refine bodyPost_ret (v:=.tuple #[.agg #[.int .i64 0,.int .i64 i.rev],.agg (dC D dx),.bool true]) (by simp [results,Tryz.results29,go_sem,dC, *]) rfl ?_
 exact aW)
end Go.Proofs.YtimglglgcgpjgaaGreatDoor
