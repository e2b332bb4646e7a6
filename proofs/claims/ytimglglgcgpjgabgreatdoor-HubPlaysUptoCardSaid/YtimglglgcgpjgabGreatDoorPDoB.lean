/- Of the proof of a statement: DoB, DoC, FitsR. -/
import Derived.Test.YtimglglgcgpjgabGreatDoorPDoA
set_option linter.unusedVariables false
set_option linter.unusedSimpArgs false
set_option maxRecDepth 100000
set_option maxHeartbeats 8000000
namespace Go.Proofs.YtimglglgcgpjgabGreatDoor
open List (foldl_cons foldl_nil setIfInBounds_toArray set_cons_succ set_cons_zero)
open Go.RowKit
theorem oP {w:World} {base n g sz:Nat} {e t:TypeId} {v:Value} {xs:List Value} {cs:Array Value} (h:Blk w g t cs) (i:w.ownsRow base e sz v n xs) (f:t≠e):v.ownBlock≠some g:=by
 intro a;rcases i.2 with ⟨c,_⟩ | ⟨q,k,l,j,_,b,_⟩
 · rw [c] at a; cases a
 · rw [j] at a;have:q=g:=by simpa [Value.ownBlock] using a
   subst this;unfold Blk at h;rw [h] at b;injection b with b;injection b with _ d;exact f d
theorem Al :
 (∀ (Q:Nat) (q:aL) (w:World) (g:Option Nat) (a:Blk w Q 88 (aT q)) (b:g≠some Q),zu (fun l=>decide (l.job=q.name)) 146 #[π Q 0] w g) /\
 (∀ (Q:Nat) (q:aL) (w:World) (g:Option Nat) (a:Blk w Q 88 (aT q)) (b:g≠some Q),zu (fun l=>decide (l.node=q.name)) 148 #[π Q 0] w g):=by
 refine⟨@fun Q q w g a b=>(fun(d:Unit)=>?_) (),@fun Q q w g a b=>?_⟩<;>(
 first|(guard_hyp d;have i:Tg 22:=⟨⟩)|(have i:Tg 23:=⟨⟩)
 intro W h x;have c:Blk W Q 88 (aT q):=(h.block Q a.lt (fun j=>b j.symm)).trans a;have m:ζ W Q 12 (.string q.name):=c.cell 12;have n:=c.lt
 first|(guard_hyp d;have e:=ω (oO x.job q.name))|have e:=ω (oO x.node q.name)
 obtain⟨job,node,k⟩:=x
 show ψ i #[.agg #[job,node,k],π Q 0] W _
 clear a h c
 first|(guard_hyp d;go_enter Tryz.func146,Tryz.ntmps146)|go_enter Tryz.func148,Tryz.ntmps148
 go_wp2;go_ret;exact⟨bA e.z,(θ).alloc lQ _⟩)
def Ia (N d e Q:Nat) (st:ah) (x:StA) (now:Int) (q:aL) (b:Bool) (a:rD):Nat->Value->Prop
 | 0,u=>u = π d 0
 | 1,u=>u = π d 0
 | 2,u=>u = π d 0
 | 3,u=>u = π N 0
 | 4,u=>u = π d 0
 | 5,u=>u = π d 0
 | 6,u=>u = π d 0
 | 7,u=>u = π N 0
 | 8,u=>u = π N 0
 | 9,u=>u = π N 1
 | 10,u=>u = .slice x.aj x.nj x.cj
 | 11,u=>u = π Q 12
 | 12,u=>u = .string q.name
 | 13,u=>a.s=true/\u = .tuple #[.slice a.A a.m a.c,.bool b]
 | 14,u=>a.s=true/\u = .tuple #[.slice a.A a.m a.c,.bool b]
 | 15,u=>a.s=true/\u = .slice a.A a.m a.c
 | 16,u=>u = .bool b
 | 17,u=>u = π N 0
 | 18,u=>u = π N 1
 | 19,_=>True
 | 20,u=>u = .bool b
 | _,_=>False
theorem Kx {N c a Q:Nat} {st:ah} {x:StA} {now:Int} {q:aL} {b:Bool} {e g:rD} {j:Nat} {v:Value} (f:e.s=false) (h:Ia N c a Q st x now q b e j v):Ia N c a Q st x now q b g j v:=by
 unfold Ia at *
 split at h
 all_goals first | exact h | (obtain⟨d,_⟩:=h; rw [f] at d; cases d)
def Ib (N d e Q:Nat) (st:ah) (x:StA) (now:Int) (q:aL) (b:Bool) (a:rD):Nat->Value->Prop
 | 0,u=>u = π d 0
 | 1,u=>u = π d 0
 | 2,u=>u = π d 0
 | 3,u=>u = π N 0
 | 4,u=>u = π d 0
 | 5,u=>u = π d 0
 | 6,u=>u = π d 0
 | 7,u=>u = π N 0
 | 8,u=>u = π N 0
 | 9,u=>u = π N 2
 | 10,u=>u = .slice x.an x.nn x.cn
 | 11,u=>u = π Q 12
 | 12,u=>u = .string q.name
 | 13,u=>a.s=true/\u = .tuple #[.slice a.A a.m a.c,.bool b]
 | 14,u=>a.s=true/\u = .tuple #[.slice a.A a.m a.c,.bool b]
 | 15,u=>a.s=true/\u = .slice a.A a.m a.c
 | 16,u=>u = .bool b
 | 17,u=>u = π N 0
 | 18,u=>u = π N 2
 | 19,_=>True
 | 20,u=>u = .bool b
 | _,_=>False
theorem Ky {N c a Q:Nat} {st:ah} {x:StA} {now:Int} {q:aL} {b:Bool} {e g:rD} {j:Nat} {v:Value} (f:e.s=false) (h:Ib N c a Q st x now q b e j v):Ib N c a Q st x now q b g j v:=by
 unfold Ib at *
 split at h
 all_goals first | exact h | (obtain⟨d,_⟩:=h; rw [f] at d; cases d)
def Ic (N d e Q:Nat) (st:ah) (x:StA) (now:Int) (q:aL) (b:Bool) (a:rD):Nat->Value->Prop
 | 0,u=>u = π d 0
 | 1,u=>u = π d 0
 | 2,u=>u = π d 0
 | 3,u=>u = π N 0
 | 4,u=>u = π d 0
 | 5,u=>u = π d 0
 | 6,u=>u = π d 0
 | 7,u=>u = π N 0
 | 8,u=>u = π N 0
 | 9,u=>u = π N 3
 | 10,u=>u = .slice x.al x.nl x.cl
 | 11,u=>u = π Q 12
 | 12,u=>u = .string q.name
 | 13,u=>a.s=true/\u = .tuple #[.slice a.A a.m a.c,.bool b]
 | 14,u=>a.s=true/\u = .tuple #[.slice a.A a.m a.c,.bool b]
 | 15,u=>a.s=true/\u = .slice a.A a.m a.c
 | 16,u=>u = .bool b
 | 17,u=>u = π N 0
 | 18,u=>u = π N 3
 | 19,_=>True
 | 20,u=>u = .bool b
 | _,_=>False
theorem Kz {N c a Q:Nat} {st:ah} {x:StA} {now:Int} {q:aL} {b:Bool} {e g:rD} {j:Nat} {v:Value} (f:e.s=false) (h:Ic N c a Q st x now q b e j v):Ic N c a Q st x now q b g j v:=by
 unfold Ic at *
 split at h
 all_goals first | exact h | (obtain⟨d,_⟩:=h; rw [f] at d; cases d)
theorem FJ :
 (∀ (base:Nat) (st:ah) (x:StA) (N i:Nat) (now:Int) (q:aL) (w:World) (h:Ak w base st x N i now) (D:q.kind=3),ψ 77 #[π i 0,bO q] w (iB base N i (if (cD st.jobs q.name).isSome=true then 0 else 6,nk st q.name,now) w)) /\
 (∀ (base:Nat) (st:ah) (x:StA) (N i:Nat) (now:Int) (q:aL) (w:World) (h:Ak w base st x N i now) (D:q.kind=4),ψ 77 #[π i 0,bO q] w (iB base N i (if (bU st.nodes q.name).isSome=true then 0 else 6,nu st q.name,now) w)) /\
 (∀ (base:Nat) (st:ah) (x:StA) (N i:Nat) (now:Int) (q:aL) (w:World) (h:Ak w base st x N i now) (D:q.kind=6),ψ 77 #[π i 0,bO q] w (iB base N i (if (cE st.leases q.name).isSome=true then 0 else 6,mN st q.name,now) w)):=by
 refine⟨@fun base st x N i now q w h D=>(fun(u:Unit)=>?_) (),@fun base st x N i now q w h D=>(fun(v:Unit)=>?_) (),@fun base st x N i now q w h D=>(fun(af:Unit)=>?_) ()⟩<;>(
 first|(guard_hyp u;have ag:Tg 10:=⟨⟩;have ai:Tg 24:=⟨⟩;have am:Tg 25:=⟨⟩;have ao:Tg 26:=⟨⟩;have ap:Tg 27:=⟨⟩;have aq:Tg 28:=⟨⟩;have ar:Tg 29:=⟨⟩;have aw:Tg 30:=⟨⟩;have ax:Tg 31:=⟨⟩;have ab:Tg 20:=⟨⟩;have OD:Tg 32:=⟨⟩)|(guard_hyp v;have ag:Tg 33:=⟨⟩;have ai:Tg 34:=⟨⟩;have am:Tg 35:=⟨⟩;have ao:Tg 36:=⟨⟩;have ap:Tg 37:=⟨⟩;have aq:Tg 38:=⟨⟩;have ar:Tg 39:=⟨⟩;have aw:Tg 40:=⟨⟩;have ax:Tg 41:=⟨⟩;have ab:Tg 21:=⟨⟩;have OD:Tg 42:=⟨⟩)|(have ag:Tg 43:=⟨⟩;have ai:Tg 44:=⟨⟩;have am:Tg 45:=⟨⟩;have ao:Tg 46:=⟨⟩;have ap:Tg 47:=⟨⟩;have aq:Tg 48:=⟨⟩;have ar:Tg 49:=⟨⟩;have aw:Tg 50:=⟨⟩;have ax:Tg 51:=⟨⟩;have ab:Tg 10:=⟨⟩;have OD:Tg 52:=⟨⟩)
 obtain⟨W,O⟩:∃ W,(w.alloc (.cells #[π i 0] 156)).alloc (.cells (aT q) 88)=W:=⟨_,rfl⟩;have T:Below w w W:=by rw [<- O]; exact ((θ).alloc lQ _).alloc (by simp) _
 have aa:Blk W w 156 #[π i 0]:=by rw [<- O]; exact Blk.alloc (show Blk _ _ _ _ from n5 w _) _
 have V:Blk W (w.heap.size+1) 88 (aT q):=by
  rw [<- O];have:=n5 (χ w #[π i 0] 156) (.cells (aT q) 88);rwa [show (w.alloc (.cells #[π i 0] 156)).heap.size=w.heap.size+1 by simp] at this
 have y:=h.w.below T;have a1:ζ W (w.heap.size+1) 0 (.int .i64 ag):=by rw [V.cell 0]; exact congrArg (fun k=>some (Value.int .i64 k)) D
 first|(guard_hyp u;have R:=IU base x.aj x.nj x.cj st.jobs q.name W.drew y.own.j.drew y.own.lj (by have:=h.nj; omega) h.sj)|(guard_hyp v;have R:=FF base x.an x.nn x.cn st.nodes q.name W.drew y.own.n.drew y.own.ln (by have:=h.nn; omega) h.sn)|have R:=DS base x.al x.nl x.cl st.leases q.name W.drew y.own.l.drew y.own.ll (by have:=h.nl; omega) h.sl
 first|(guard_hyp u;rw [show (cD st.jobs q.name).isSome=isL aC.name st.jobs q.name from (qz h.sj).symm])|(guard_hyp v;rw [show (bU st.nodes q.name).isSome=isL av.name st.nodes q.name from (qz h.sn).symm])|rw [show (cE st.leases q.name).isSome=isL ak.job st.leases q.name from (qz h.sl).symm]
 first|(guard_hyp u;obtain⟨b,Z⟩:∃ b,isL aC.name st.jobs q.name=b:=⟨_,rfl⟩)|(guard_hyp v;obtain⟨b,Z⟩:∃ b,isL av.name st.nodes q.name=b:=⟨_,rfl⟩)|obtain⟨b,Z⟩:∃ b,isL ak.job st.leases q.name=b:=⟨_,rfl⟩
 rw [Z] at R |-;clear Z;obtain⟨E,hE⟩:∃ E:Int,(if b=true then (0:Int) else 6)=E:=⟨_,rfl⟩;rw [hE];have HE:=ω hE;clear hE;have HD:=ω R
 first|(guard_hyp u;have z:=ω (show W.drew.ownsRow base 86 5 (.slice x.aj x.nj x.cj) x.nj (au aS st.jobs) from y.own.j.drew))|(guard_hyp v;have z:=ω (show W.drew.ownsRow base 81 3 (.slice x.an x.nn x.cn) x.nn (au aH st.nodes) from y.own.n.drew))|have z:=ω (show W.drew.ownsRow base 77 3 (.slice x.al x.nl x.cl) x.nl (au aB st.leases) from y.own.l.drew)
 have ac:=ω (show base<=W.drew.heap.size from y.bs);have ad:=ω y.bN;have H:=ω h
 first|(guard_hyp u;have J:Hu w W base st x N i w (w.heap.size+1) now q (st.jobs.filter fun s=>!decide (aC.name s=q.name)) 0 ⟨none,0,0,false⟩ W.drew:=⟨aa,V,y.wk,y.nb,(T.mono h.w.bs).drew,y.own.n.drew,y.own.l.drew,fun _=>rfl,fun _=>rfl,fun h=>absurd h (by decide)⟩)|(guard_hyp v;have J:H8 w W base st x N i w (w.heap.size+1) now q (st.nodes.filter fun s=>!decide (av.name s=q.name)) 0 ⟨none,0,0,false⟩ W.drew:=⟨aa,V,y.wk,y.nb,(T.mono h.w.bs).drew,y.own.j.drew,y.own.l.drew,fun _=>rfl,fun _=>rfl,fun h=>absurd h (by decide)⟩)|have J:N7 w W base st x N i w (w.heap.size+1) now q (st.leases.filter fun s=>!decide (ak.job s=q.name)) 0 ⟨none,0,0,false⟩ W.drew:=⟨aa,V,y.wk,y.nb,(T.mono h.w.bs).drew,y.own.j.drew,y.own.n.drew,fun _=>rfl,fun _=>rfl,fun h=>absurd h (by decide)⟩
 clear T aa V y R h;unfold bO;unfold aT at O |-;clear D;go_enter Tryz.func77,Tryz.ntmps77
 go_wp2_with fail
 try rw [O]
 clear O a1
 first|(guard_hyp u;refine rq 157 (Ia N i w (w.heap.size+1) st x now q b) [13,19] (Hu w W base st x N i w (w.heap.size+1) now q (st.jobs.filter fun s=>!decide (aC.name s=q.name))) ⟨none,0,0,false⟩ J ?_ ?_)|(guard_hyp v;refine rq 157 (Ib N i w (w.heap.size+1) st x now q b) [13,19] (H8 w W base st x N i w (w.heap.size+1) now q (st.nodes.filter fun s=>!decide (av.name s=q.name))) ⟨none,0,0,false⟩ J ?_ ?_)|refine rq 157 (Ic N i w (w.heap.size+1) st x now q b) [13,19] (N7 w W base st x N i w (w.heap.size+1) now q (st.leases.filter fun s=>!decide (ak.job s=q.name))) ⟨none,0,0,false⟩ J ?_ ?_
 · refine⟨?_,?_,?_,?_,?_,?_,?_,?_,?_,?_,?_,?_,?_,?_,?_,?_,?_,?_,?_,?_,?_,trivial⟩
   · refine okQ 0 2 fun I d s p _ _ a e=>?_;have o:=e.k 2 rfl;have C:ζ p w 0 (π i 0):=a.bp.cell 0;simp [go_sem,Oper.wp,execOp,Act.eval,o,C];exact⟨_,rfl,d,fun _ _ _ h=>h,rfl,a⟩
   · exact ok1 0 2 0 ai rfl rfl (fun _ _ h=>h) fun _=>rfl
   · exact ok1 0 2 1 am rfl rfl (fun _ _ h=>h) fun _=>rfl
   · refine okQ 0 2 fun I d s p _ _ a e=>?_
     first|(guard_hyp u;obtain⟨u1,o,rfl⟩:=e.g 2 63 rfl rfl)|(guard_hyp v;obtain⟨u1,o,rfl⟩:=e.g 2 87 rfl rfl)|obtain⟨u1,o,rfl⟩:=e.g 2 117 rfl rfl
     have C:ζ p i 0 (π N 0):=a.wk.cell 0;simp [go_sem,Oper.wp,execOp,Act.eval,o,C];exact⟨_,rfl,d,fun _ _ _ h=>h,rfl,a⟩
   · refine okQ 0 2 fun I d s p _ _ a e=>?_;have o:=e.k 2 rfl;have C:ζ p w 0 (π i 0):=a.bp.cell 0;simp [go_sem,Oper.wp,execOp,Act.eval,o,C];exact⟨_,rfl,d,fun _ _ _ h=>h,rfl,a⟩
   · exact ok1 0 2 4 ao rfl rfl (fun _ _ h=>h) fun _=>rfl
   · exact ok1 0 2 5 ap rfl rfl (fun _ _ h=>h) fun _=>rfl
   · refine okQ 0 2 fun I d s p _ _ a e=>?_
     first|(guard_hyp u;obtain⟨u1,o,rfl⟩:=e.g 6 67 rfl rfl)|(guard_hyp v;obtain⟨u1,o,rfl⟩:=e.g 6 91 rfl rfl)|obtain⟨u1,o,rfl⟩:=e.g 6 121 rfl rfl
     have C:ζ p i 0 (π N 0):=a.wk.cell 0;simp [go_sem,Oper.wp,execOp,Act.eval,o,C];exact⟨_,rfl,d,fun _ _ _ h=>h,rfl,a⟩
   · exact ok1 0 2 7 aq rfl rfl (fun _ _ h=>h) fun _=>rfl
   · exact ok1 0 2 8 ar rfl rfl (fun _ _ h=>h) fun _=>rfl
   · refine okQ 0 0 fun I d s p _ _ a e=>?_
     first|(guard_hyp u;obtain⟨u1,o,rfl⟩:=e.g 9 70 rfl rfl)|(guard_hyp v;obtain⟨u1,o,rfl⟩:=e.g 9 94 rfl rfl)|obtain⟨u1,o,rfl⟩:=e.g 9 124 rfl rfl
     obtain rfl:I=0:=by omega
     first|(guard_hyp u;have C:ζ p N 1 (.slice x.aj x.nj x.cj):=a.nb.cell 1)|(guard_hyp v;have C:ζ p N 2 (.slice x.an x.nn x.cn):=a.nb.cell 2)|have C:ζ p N 3 (.slice x.al x.nl x.cl):=a.nb.cell 3
     simp [go_sem,Oper.wp,execOp,Act.eval,o,C];exact⟨_,rfl,d,fun _ _ _ h=>h,rfl,a⟩
   · exact ok0 0 2 3 rfl fun _=>rfl
   · refine okQ 0 2 fun I d s p _ _ a e=>?_
     first|(guard_hyp u;obtain⟨u1,o,rfl⟩:=e.g 11 72 rfl rfl)|(guard_hyp v;obtain⟨u1,o,rfl⟩:=e.g 11 96 rfl rfl)|obtain⟨u1,o,rfl⟩:=e.g 11 126 rfl rfl
     have C:ζ p (w.heap.size+1) 12 (.string q.name):=a.q.cell 12;simp [go_sem,Oper.wp,execOp,Act.eval,o,C];exact⟨_,rfl,d,fun _ _ _ h=>h,rfl,a⟩
   · refine .inl ⟨0,rfl,fun d s p a e=>aJ rfl ?_⟩
     first|(guard_hyp u;obtain⟨u1,o,rfl⟩:=e.g 10 71 rfl rfl)|(guard_hyp v;obtain⟨u1,o,rfl⟩:=e.g 10 95 rfl rfl)|obtain⟨u1,o,rfl⟩:=e.g 10 125 rfl rfl
     first|(guard_hyp u;obtain⟨u2,L,rfl⟩:=e.g 12 73 rfl rfl)|(guard_hyp v;obtain⟨u2,L,rfl⟩:=e.g 12 97 rfl rfl)|obtain⟨u2,L,rfl⟩:=e.g 12 127 rfl rfl
     simp [go_sem,Oper.wp,execOp,Act.eval,o,L];obtain rfl:=a.here rfl;refine (HD.z).mono ?_;rintro ay w' ⟨A',m,c',rfl,hm,ho,B⟩
     first|(guard_hyp u;exact⟨_,rfl,⟨A',m,c',true⟩,fun j a0 hj h=>Kx (a.unset rfl) h,⟨rfl,rfl⟩,⟨Blk.jV a.bp B z.z (by decide),Blk.jV a.q B z.z (by decide),Blk.jV a.wk B z.z (by decide),Blk.eq (Blk.jV a.nb B z.z (by decide)) rfl,a.below.trans (B.below ac.z (fun q D=>(z.lt q D).1)),cQ a.n B z.z (by decide),cQ a.l B z.z (by decide),fun h=>absurd h (by decide),fun h=>absurd h (by decide),fun _=>⟨ho,hm⟩⟩⟩)|(guard_hyp v;exact⟨_,rfl,⟨A',m,c',true⟩,fun j a0 hj h=>Ky (a.unset rfl) h,⟨rfl,rfl⟩,⟨Blk.jV a.bp B z.z (by decide),Blk.jV a.q B z.z (by decide),Blk.jV a.wk B z.z (by decide),Blk.eq (Blk.jV a.nb B z.z (by decide)) rfl,a.below.trans (B.below ac.z (fun q D=>(z.lt q D).1)),cQ a.j B z.z (by decide),cQ a.l B z.z (by decide),fun h=>absurd h (by decide),fun h=>absurd h (by decide),fun _=>⟨ho,hm⟩⟩⟩)|exact⟨_,rfl,⟨A',m,c',true⟩,fun j a0 hj h=>Kz (a.unset rfl) h,⟨rfl,rfl⟩,⟨Blk.jV a.bp B z.z (by decide),Blk.jV a.q B z.z (by decide),Blk.jV a.wk B z.z (by decide),Blk.eq (Blk.jV a.nb B z.z (by decide)) rfl,a.below.trans (B.below ac.z (fun q D=>(z.lt q D).1)),cQ a.j B z.z (by decide),cQ a.n B z.z (by decide),fun h=>absurd h (by decide),fun h=>absurd h (by decide),fun _=>⟨ho,hm⟩⟩⟩
   · refine okQ 0 2 fun I d s p _ _ a e=>?_
     first|(guard_hyp u;obtain⟨u1,o,F,rfl⟩:=e.g 13 74 rfl rfl)|(guard_hyp v;obtain⟨u1,o,F,rfl⟩:=e.g 13 98 rfl rfl)|obtain⟨u1,o,F,rfl⟩:=e.g 13 128 rfl rfl
     simp [go_sem,Oper.wp,execOp,Act.eval,o];exact⟨_,rfl,d,fun _ _ _ h=>h,⟨F,rfl⟩,a⟩
   · refine okQ 0 2 fun I d s p _ _ a e=>?_
     first|(guard_hyp u;obtain⟨u1,o,F,rfl⟩:=e.g 14 60 rfl rfl)|(guard_hyp v;obtain⟨u1,o,F,rfl⟩:=e.g 14 84 rfl rfl)|obtain⟨u1,o,F,rfl⟩:=e.g 14 114 rfl rfl
     simp [go_sem,Oper.wp,execOp,Act.eval,o];exact⟨_,rfl,d,fun _ _ _ h=>h,⟨F,rfl⟩,a⟩
   · refine okQ 0 2 fun I d s p _ _ a e=>?_
     first|(guard_hyp u;obtain⟨u1,o,F,rfl⟩:=e.g 14 60 rfl rfl)|(guard_hyp v;obtain⟨u1,o,F,rfl⟩:=e.g 14 84 rfl rfl)|obtain⟨u1,o,F,rfl⟩:=e.g 14 114 rfl rfl
     simp [go_sem,Oper.wp,execOp,Act.eval,o];exact⟨_,rfl,d,fun _ _ _ h=>h,rfl,a⟩
   · exact ok1 0 2 3 aw rfl rfl (fun _ _ h=>h) fun _=>rfl
   · exact ok1 0 2 17 ax rfl rfl (fun _ _ h=>h) fun _=>rfl
   · refine .inl ⟨1,rfl,fun d s p a e=>aJ rfl ?_⟩
     first|(guard_hyp u;obtain⟨u1,o,rfl⟩:=e.g 18 78 rfl rfl)|(guard_hyp v;obtain⟨u1,o,rfl⟩:=e.g 18 102 rfl rfl)|obtain⟨u1,o,rfl⟩:=e.g 18 132 rfl rfl
     first|(guard_hyp u;obtain⟨u2,L,az,rfl⟩:=e.g 15 75 rfl rfl)|(guard_hyp v;obtain⟨u2,L,az,rfl⟩:=e.g 15 99 rfl rfl)|obtain⟨u2,L,az,rfl⟩:=e.g 15 129 rfl rfl
     first|(guard_hyp u;have hc:ζ p N 1 (.slice x.aj x.nj x.cj):=a.nb.cell 1)|(guard_hyp v;have hc:ζ p N 2 (.slice x.an x.nn x.cn):=a.nb.cell 2)|have hc:ζ p N 3 (.slice x.al x.nl x.cl):=a.nb.cell 3
     have hz:κ p N ab:=a.nb.thaw ab;simp [go_sem,Oper.wp,execOp,Act.eval,o,L,hc,hz]
     first|(guard_hyp u;exact⟨.int .i64 0,d,fun _ _ _ h=>h,trivial,⟨bL a.bp a.nb (by decide),bL a.q a.nb (by decide),bL a.wk a.nb (by decide),Blk.eq (a.nb.set 1 _) rfl,a.below.trans (aZ θ ad.z),bF a.n a.nb (by decide),bF a.l a.nb (by decide),fun h=>absurd h (by decide),fun h=>absurd h (by decide),fun _=>⟨bF (a.r (by decide)).1 a.nb (by decide),(a.r (by decide)).2⟩⟩⟩)|(guard_hyp v;exact⟨.int .i64 0,d,fun _ _ _ h=>h,trivial,⟨bL a.bp a.nb (by decide),bL a.q a.nb (by decide),bL a.wk a.nb (by decide),Blk.eq (a.nb.set 2 _) rfl,a.below.trans (aZ θ ad.z),bF a.j a.nb (by decide),bF a.l a.nb (by decide),fun h=>absurd h (by decide),fun h=>absurd h (by decide),fun _=>⟨bF (a.r (by decide)).1 a.nb (by decide),(a.r (by decide)).2⟩⟩⟩)|exact⟨.int .i64 0,d,fun _ _ _ h=>h,trivial,⟨bL a.bp a.nb (by decide),bL a.q a.nb (by decide),bL a.wk a.nb (by decide),Blk.eq (a.nb.set 3 _) rfl,a.below.trans (aZ θ ad.z),bF a.j a.nb (by decide),bF a.n a.nb (by decide),fun h=>absurd h (by decide),fun h=>absurd h (by decide),fun _=>⟨bF (a.r (by decide)).1 a.nb (by decide),(a.r (by decide)).2⟩⟩⟩
   · exact ok1 0 2 16 OD rfl rfl (fun _ _ h=>h) fun _=>rfl
 · intro d s p M;have a:=M.ph
   first|(guard_hyp u;obtain⟨fv,rfl,P⟩:=M.frame [61,62,63,64,65,66,67,68,69,70,71,72,73,74,60,75,76,77,78,5] rfl)|(guard_hyp v;obtain⟨fv,rfl,P⟩:=M.frame [85,86,87,88,89,90,91,92,93,94,95,96,97,98,84,99,100,101,102,5] rfl)|obtain⟨fv,rfl,P⟩:=M.frame [115,116,117,118,119,120,121,122,123,124,125,126,127,128,114,129,130,131,132,5] rfl
   have h5:fv 5 = .bool b:=P 20 _ 5 rfl rfl
   first
    |(
     guard_hyp u
     have K:Blk p N 26 #[st.rev,.slice d.A d.m d.c,.slice x.an x.nn x.cn,.slice x.al x.nl x.cl]:=a.nb;have G:uy p base (⟨st.rev,(st.jobs.filter fun s=>!decide (aC.name s=q.name)),st.nodes,st.leases⟩:ah) ⟨d.A,d.m,d.c,x.an,x.nn,x.cn,x.al,x.nl,x.cl⟩ N i now:=⟨K,a.wk,⟨(a.r (by decide)).1,a.n,a.l,(a.r (by decide)).2.symm,H.w.own.ln,H.w.own.ll⟩,H.w.bN,H.w.bW,v6 H.w.bs a.below.size⟩)
    |(
     guard_hyp v
     have K:Blk p N 26 #[st.rev,.slice x.aj x.nj x.cj,.slice d.A d.m d.c,.slice x.al x.nl x.cl]:=a.nb;have G:uy p base (⟨st.rev,st.jobs,(st.nodes.filter fun s=>!decide (av.name s=q.name)),st.leases⟩:ah) ⟨x.aj,x.nj,x.cj,d.A,d.m,d.c,x.al,x.nl,x.cl⟩ N i now:=⟨K,a.wk,⟨a.j,(a.r (by decide)).1,a.l,H.w.own.lj,(a.r (by decide)).2.symm,H.w.own.ll⟩,H.w.bN,H.w.bW,v6 H.w.bs a.below.size⟩)
    |(
     guard_hyp af
     have K:Blk p N 26 #[st.rev,.slice x.aj x.nj x.cj,.slice x.an x.nn x.cn,.slice d.A d.m d.c]:=a.nb;have G:uy p base (mN st q.name) ⟨x.aj,x.nj,x.cj,x.an,x.nn,x.cn,d.A,d.m,d.c⟩ N i now:=⟨K,a.wk,⟨a.j,a.n,(a.r (by decide)).1,H.w.own.lj,H.w.own.ln,(a.r (by decide)).2.symm⟩,H.w.bN,H.w.bW,v6 H.w.bs a.below.size⟩)
   have ae:=ω a.below;have b0:ζ p w 0 (π i 0):=a.bp.cell 0
   first
    |(
     guard_hyp u
     have U:=G.own.l;have Q:=ω (sP (fun l=>decide (l.job=q.name)) 146 #[π (w.heap.size+1) 0] base (⟨st.rev,(st.jobs.filter fun s=>!decide (aC.name s=q.name)),st.nodes,st.leases⟩:ah) ⟨d.A,d.m,d.c,x.an,x.nn,x.cn,x.al,x.nl,x.cl⟩ N i now p G (by have:=H.nl; show x.nl<=999; omega) (enters_of Tryz.func146 (by kernel_rfl) rfl) (Al.1 _ q p _ a.q (oP a.q U (by decide))));clear M a P K G J U)
    |(
     guard_hyp v
     have U:=G.own.l;have Q:=ω (sP (fun l=>decide (l.node=q.name)) 148 #[π (w.heap.size+1) 0] base (⟨st.rev,st.jobs,(st.nodes.filter fun s=>!decide (av.name s=q.name)),st.leases⟩:ah) ⟨x.aj,x.nj,x.cj,d.A,d.m,d.c,x.al,x.nl,x.cl⟩ N i now p G (by have:=H.nl; show x.nl<=999; omega) (enters_of Tryz.func148 (by kernel_rfl) rfl) (Al.2 _ q p _ a.q (oP a.q U (by decide))));clear M a P K G J U)
    |(
     guard_hyp af
     have Y:=ω (show iB base N i (E,mN st q.name,now) w (.returned (.int .i64 E)) p from ⟨rfl,ae,fun _=>⟨_,G⟩⟩);clear M a P K G J)
   simp only [foldl_cons,foldl_nil,setIfInBounds_toArray,set_cons_succ,set_cons_zero,h5];clear h5
   first|(guard_hyp af;cases b)|go_wp2_with fail
   first
    |(
     guard_hyp u
     refine Q.mono ?_;rintro ay w5 ⟨rfl,⟨x',X⟩,S⟩;have Y:=ω (show iB base N i (E,nk st q.name,now) w (.returned (.int .i64 E)) w5 from ⟨rfl,ae.trans S,fun _=>⟨x',X⟩⟩);clear X S b0 Q;cases b)
    |(
     guard_hyp v
     refine Q.mono ?_;rintro ay w5 ⟨rfl,⟨x',X⟩,S⟩;have Y:=ω (show iB base N i (E,nu st q.name,now) w (.returned (.int .i64 E)) w5 from ⟨rfl,ae.trans S,fun _=>⟨x',X⟩⟩);clear X S b0 Q;cases b)
    |skip
   · obtain rfl:(6:Int)=E:=HE.z;go_wp2;go_ret;exact Y
   · obtain rfl:(0:Int)=E:=HE.z;go_wp2;go_ret;exact Y)
theorem I1 (b a N:Nat) (t:Int) (w:World) (g:Option Nat) (d:Blk w b 156 #[π a 0]) (i:Blk w a 159 #[π N 0,t]) (k:g≠some b) (l:g≠some a):zu (fun m=>decide (m.till<=t)) 151 #[π b 0] w g:=by
 intro W c x;have h:Blk W b 156 #[π a 0]:=(c.block b d.lt (fun e=>k e.symm)).trans d;have j:Blk W a 159 #[π N 0,t]:=(c.block a i.lt (fun e=>l e.symm)).trans i;have o:ζ W b 0 (π a 0):=h.cell 0;have p:ζ W a 1 (.int .i64 t):=j.cell 1;have q:=h.lt;have r:=j.lt;obtain⟨job,node,n⟩:=x
 show ψ 151 #[.agg #[job,node,n],π b 0] W _
 clear d i c h j;go_enter Tryz.func151,Tryz.ntmps151;go_wp2
 all_goals first | go_quiet (fail) | skip
 go_wp2;go_ret;exact⟨rfl,((θ).alloc lQ _).trans ⟨rfl,rfl,rfl,lQ,fun _ _=>rfl⟩⟩
theorem do_7 (base:Nat) (st:ah) (x:StA) (N a:Nat) (now:Int) (q:aL) (w:World) (h:Ak w base st x N a now) (C:q.kind=7) (S:0<=now) (T:now<=1099511627776) (U:0<=q.n) (V:q.n<=1099511627776) :
 ψ 77 #[π a 0,bO q] w (iB base N a (if 1099511627776 - now<q.n then (1,st,now) else (0,ny st (now+q.n),now+q.n)) w):=by
 obtain⟨W,d⟩:∃ W,(w.alloc (.cells #[π a 0] 156)).alloc (.cells (aT q) 88)=W:=⟨_,rfl⟩;have p:Below w w W:=by rw [<- d]; exact ((θ).alloc lQ _).alloc (by simp) _
 have r:Blk W w 156 #[π a 0]:=by rw [<- d]; exact Blk.alloc (show Blk _ _ _ _ from n5 w _) _
 have u:Blk W (w.heap.size+1) 88 (aT q):=by
  rw [<- d];have:=n5 (χ w #[π a 0] 156) (.cells (aT q) 88);rwa [show (w.alloc (.cells #[π a 0] 156)).heap.size=w.heap.size+1 by simp] at this
 have o:=h.w.below p;have K:ζ W (w.heap.size+1) 0 (.int .i64 7):=by rw [u.cell 0,<- C]; rfl
 have L:ζ W (w.heap.size+1) 13 (.int .i64 q.n):=u.cell 13;have I:ζ W w 0 (π a 0):=r.cell 0;have O:ζ W a 1 (.int .i64 now):=o.wk.cell 1;have P:κ W a 1:=o.wk.thaw 1;have H:=ω h;have b:=ω o;have y:=ω (p.mono h.w.bs);have z:=ω r;clear p r u o h;unfold bO;unfold aT at d |-;clear C;by_cases m:1099511627776 - now<q.n
 · rw [if_pos m];have J:decide (1099511627776 - now<q.n)=true:=t7 m;go_enter Tryz.func77,Tryz.ntmps77
   go_wp2_with fail
   try rw [d]
   clear d
   go_region
   go_wp2;go_ret;exact⟨rfl,y.drew,fun h=>absurd h (by decide:(1:Int)≠0)⟩
 · rw [if_neg m];have J:decide (1099511627776 - now<q.n)=false:=fQ m;go_enter Tryz.func77,Tryz.ntmps77
   go_wp2_with fail
   try rw [d]
   clear d
   go_region
   go_wp2
   go_region
   obtain⟨c,g⟩:∃ c,(W.setCell ⟨a,1,none⟩ (.int .i64 (now+q.n))).drew.drew=c:=⟨_,rfl⟩
   have i:uy c base st x N a (now+q.n):=by
    rw [<- g];have e:=b.own;exact⟨bL b.nb b.wk (by decide),Blk.eq (b.wk.set 1 _) rfl,⟨(bF e.j b.wk (by decide)).drew.drew,(bF e.n b.wk (by decide)).drew.drew,(bF e.l b.wk (by decide)).drew.drew,e.lj,e.ln,e.ll⟩,b.bN,b.bW,by show base<=(W.setCell _ _).heap.size; simpa using b.bs⟩
   have k:Blk c w 156 #[π a 0]:=by
    rw [<- g];exact bL z.z b.wk (by decide)
   have E:=ω (show Below base w c from by rw [<- g]; exact (y.trans (aZ θ b.bW)).drew.drew);have G:ζ c w 0 (π a 0):=k.cell 0;have s:=i.own.l;have v:=ω (sP (fun l=>decide (l.till<=now+q.n)) 151 #[π w 0] base st x N a (now+q.n) c i (by have:=H.nl; omega) (enters_of Tryz.func151 (by kernel_rfl) rfl) (I1 w a N (now+q.n) c _ k i.wk (oP k s (by decide)) (oP i.wk s (by decide))));rw [g];clear g i k s b z L I O P K
   go_wp2_with fail
   refine v.mono ?_;rintro R M ⟨rfl,⟨Q,D⟩,B⟩;have F:=ω (show iB base N a (0,ny st (now+q.n),now+q.n) w (.returned (.int .i64 0)) M from ⟨rfl,E.trans B,fun _=>⟨Q,D⟩⟩);clear D B G v;go_wp2;go_ret;exact F
theorem do_8 (base:Nat) (st:ah) (x:StA) (N a:Nat) (now:Int) (q:aL) (w:World) (h:Ak w base st x N a now) (i:8<=q.kind) :
 ψ 77 #[π a 0,bO q] w (iB base N a (0,st,now) w):=by
 obtain⟨W,b⟩:∃ W,(w.alloc (.cells #[π a 0] 156)).alloc (.cells (aT q) 88)=W:=⟨_,rfl⟩;have c:Below w w W:=by rw [<- b]; exact ((θ).alloc lQ _).alloc (by simp) _
 have d:Blk W (w.heap.size+1) 88 (aT q):=by
  rw [<- b];have:=n5 (χ w #[π a 0] 156) (.cells (aT q) 88);rwa [show (w.alloc (.cells #[π a 0] 156)).heap.size=w.heap.size+1 by simp] at this
 have e:=h.w.below c;have r:ζ W (w.heap.size+1) 0 (.int .i64 q.kind):=d.cell 0;have g:=ω (show iB base N a (0,st,now) w (.returned (.int .i64 0)) W from ⟨rfl,c.mono h.w.bs,fun _=>⟨x,e⟩⟩);have j:(q.kind == 1)=false:=eY (by omega);have k:(q.kind == 2)=false:=eY (by omega);have l:(q.kind == 3)=false:=eY (by omega);have m:(q.kind == 4)=false:=eY (by omega);have n:(q.kind == 5)=false:=eY (by omega);have o:(q.kind == 6)=false:=eY (by omega);have p:(q.kind == 7)=false:=eY (by omega);clear c d e h i;unfold bO;unfold aT at b |-;go_enter Tryz.func77,Tryz.ntmps77;go_wp2;go_ret
 try rw [b]
 exact g
def RFJ (st:ah) (x:StA) (v:Int) (w:World) (n:Nat) (i:Value) (wr:World):Prop:=
 ∃ k:Nat,k<=n/\i = .int .i64 k/\(st.jobs.take k).all (okJ v)=true/\Below w w wr/\Blk wr w 26 (stC st x)
def RFN (st:ah) (x:StA) (v:Int) (w:World) (n:Nat) (i:Value) (wr:World):Prop:=
 ∃ k:Nat,k<=n/\i = .int .i64 k/\(st.nodes.take k).all (okN v)=true/\Below w w wr/\Blk wr w 26 (stC st x)
theorem all_false {α:Type} {p:α->Bool} {l:List α} {k:Nat} {x:α} (h:l[k]? = some x) (a:p x=false):l.all p=false:=by
 rw [List.all_eq_false];exact⟨x,m8 h,by rw [a]; simp⟩
theorem I2 (st:ah) (x:StA) (v:Int) (w:World) (hS:StAt w w st x) (hv:ranged v 1 3=true) :
 ψ 175 #[.agg (stC st x),v] w fun ag w'=>ag = .returned (.bool (pY st v))/\Below w w w':=by
 have u:=ω hS;have b:=ω (show Below w w (χ w (stC st x) 26) from (θ).alloc lQ _);have d:=ω (show Blk (χ w (stC st x) 26) w 26 (stC st x) from n5 w _);obtain⟨rev,jobs,nodes,leases⟩:=st;obtain⟨aj,I,cj,Q,B,S,al,nl,cl⟩:=x;have ae:=u.lj;have af:=u.ln;have ak:=u.bj;have am:=u.bn;simp only at ae af ak am;obtain⟨F,W⟩:∃ F,pY ⟨rev,jobs,nodes,leases⟩ v=F:=⟨_,rfl⟩;rw [W];have K:=ω (show ((decide (v=3) || decide (rev=0)) && jobs.all (okJ v) && nodes.all (okN v))=F from W)
 have hd:(decide (1<v)=false/\decide (2<v)=false/\decide (v=3)=false/\decide (v<3)=true/\decide (v<2)=true)\/(decide (1<v)=true/\decide (2<v)=false/\decide (v=3)=false/\decide (v<3)=true/\decide (v<2)=false)\/(decide (1<v)=true/\decide (2<v)=true/\decide (v=3)=true/\decide (v<3)=false/\decide (v<2)=false):=by
  rcases DU hv with rfl | rfl | rfl
  · exact .inl ⟨rfl,rfl,rfl,rfl,rfl⟩
  · exact .inr (.inl ⟨rfl,rfl,rfl,rfl,rfl⟩)
  · exact .inr (.inr ⟨rfl,rfl,rfl,rfl,rfl⟩)
 clear hS W hv;simp only [stC] at *;by_cases g:rev=0;rotate_left
 all_goals rcases hd with ⟨L,T,z,d4,d5⟩ | ⟨L,T,z,d4,d5⟩ | ⟨L,T,z,d4,d5⟩
 · have e1:(rev == 0)=false:=beq_eq_false_iff_ne.2 g;have e2:(rev != 0)=true:=bne_iff_ne.2 g;have U:=ω (show false=F by rw [<- K.z,z,decide_eq_false g]; rfl);go_enter Tryz.func175,Tryz.ntmps175;go_wp2;go_ret;exact⟨bA U.z,b⟩
 · have e1:(rev == 0)=false:=beq_eq_false_iff_ne.2 g;have e2:(rev != 0)=true:=bne_iff_ne.2 g;have U:=ω (show false=F by rw [<- K.z,z,decide_eq_false g]; rfl);go_enter Tryz.func175,Tryz.ntmps175;go_wp2;go_ret;exact⟨bA U.z,b⟩
 all_goals (
  have P:=ω (show (jobs.all (okJ v) && nodes.all (okN v))=F by rw [<- K.z,z]; simp [g]);clear K z
  try subst g
  go_enter Tryz.func175,Tryz.ntmps175;go_wp2
  go_loopw [4,6,19] (fun _ _ r wr=>RFJ ⟨_,jobs,nodes,leases⟩ ⟨aj,I,cj,Q,B,S,al,nl,cl⟩ v w I r wr) (fun _ _ r _=>I - (intOf r).toNat)
  case atStart=>exact⟨0,Nat.zero_le _,rfl,by simp,b,d⟩
  case round=>
   clear b d;obtain⟨k,hk,rfl,D,c,o⟩:=hrel;have C:=ω D;have b:=ω c;have d:=ω o;have ap:=c.size;clear D;by_cases hlt:k<I
   · obtain⟨y,e⟩:∃ y,jobs[k]? = some y:=⟨_,δ (by omega)⟩;obtain⟨R,ar,E,ai,H⟩:=(u.j.below c).dL aU ae e;have X:=ω (wu (p:=okJ v) e);have Y:=ω (all_false (p:=okJ v) e);simp only at E;subst E;obtain⟨s,ab,aa,l,i⟩:=y;obtain⟨c0,c1,c2,c3,c4⟩:=rc5 H;have ao:R<wr.heap.size:=by omega
     have G:=ω (b.alloc b.size (.cells #[s,ab,aa,l,i] 86));have V:=ω (d.alloc (.cells #[s,ab,aa,l,i] 86));clear H e c o;obtain⟨a,ha⟩:∃ a,decide (i.size=0)=a:=⟨_,rfl⟩;obtain⟨q,M⟩:∃ q,decide (l=0)=q:=⟨_,rfl⟩;have J:=ω (FK (j:=⟨s,ab,aa,l,i⟩) ha M L T)
     have Z:(a=true/\i=⟨#[]⟩)\/(a=false/\(i.toList == [])=false/\(i.toList == ByteArray.toList ⟨#[]⟩)=false):=by
      by_cases h:i.size=0
      · exact .inl ⟨by rw [<- ha]; exact t7 h,og h⟩
      · exact .inr ⟨by rw [<- ha]; exact fQ h,oQ h,nB h⟩
     have aq:(q=true/\l=0)\/(q=false/\(l == 0)=false/\(l != 0)=true):=by
      by_cases h:l=0
      · exact .inl ⟨by rw [<- M]; exact t7 h,h⟩
      · exact .inr ⟨by rw [<- M]; exact fQ h,beq_eq_false_iff_ne.2 h,bne_iff_ne.2 h⟩
     clear ha M;rcases Z with ⟨rfl,rfl⟩ | ⟨rfl,t1,t2⟩
     all_goals rcases aq with ⟨rfl,rfl⟩ | ⟨rfl,r1,r2⟩
     all_goals go_wp2
     all_goals first
      | (go_ret
         exact⟨bA (by rw [<- P.z,Y.z (by rw [J.z]; rfl)]; rfl),G⟩)
      | (go_roundw
         case rel=>exact⟨k+1,by omega,by go_num,by rw [X.z,C.z,J.z]; rfl,G,V⟩
         case measure=>simp [intOf]; omega)
   · have N:jobs.all (okJ v)=true:=by
      have:=C.z;rwa [show List.take k jobs=jobs from List.take_of_length_le (by omega)] at this
     have ad:=ω (show nodes.all (okN v)=F by rw [<- P.z,N]; rfl);have y2:ζ wr w 2 (.slice Q B S):=d.cell 2;clear N c o P;go_wp2;clear y2
     go_loopw [4,8,43] (fun _ _ r wr=>RFN ⟨_,jobs,nodes,leases⟩ ⟨aj,I,cj,Q,B,S,al,nl,cl⟩ v w B r wr) (fun _ _ r _=>B - (intOf r).toNat)
     case atStart=>exact⟨0,Nat.zero_le _,rfl,by simp,b,d⟩
     case round=>
      clear b d C;obtain⟨O,hm,rfl,D,c,o⟩:=hrel;have C:=ω D;have b:=ω c;have d:=ω o;have ap:=c.size;clear D;by_cases au:O<B
      · obtain⟨y,e⟩:∃ y,nodes[O]? = some y:=⟨_,δ (by omega)⟩;obtain⟨R,ar,E,ai,H⟩:=(u.n.below c).dL aO af e;have X:=ω (wu (p:=okN v) e);have Y:=ω (all_false (p:=okN v) e);simp only at E;subst E;obtain⟨s,ac,m⟩:=y;obtain⟨c0,c1,c2⟩:=rc3 H;have ao:R<wr.heap.size:=by omega
        have G:=ω (b.alloc b.size (.cells #[s,ac,m] 81));have V:=ω (d.alloc (.cells #[s,ac,m] 81));clear H e c o;obtain⟨a,ha⟩:∃ a,decide (m.size=0)=a:=⟨_,rfl⟩;have J:=ω (FM (n:=⟨s,ac,m⟩) ha L)
        have Z:(a=true/\m=⟨#[]⟩)\/(a=false/\(m.toList == [])=false/\(m.toList == ByteArray.toList ⟨#[]⟩)=false):=by
         by_cases h:m.size=0
         · exact .inl ⟨by rw [<- ha]; exact t7 h,og h⟩
         · exact .inr ⟨by rw [<- ha]; exact fQ h,oQ h,nB h⟩
        clear ha;rcases Z with ⟨rfl,rfl⟩ | ⟨rfl,t1,t2⟩
        all_goals go_wp2
        all_goals first
         | (go_ret
            exact⟨bA (by rw [<- ad.z,Y.z (by rw [J.z]; rfl)]),G⟩)
         | (go_roundw
            case rel=>exact⟨O+1,by omega,by go_num,by rw [X.z,C.z,J.z]; rfl,G,V⟩
            case measure=>simp [intOf]; omega)
      · have N:=ω (show true=F by
         rw [<- ad.z];have:=C.z;rw [show List.take O nodes=nodes from List.take_of_length_le (by omega)] at this;exact this.symm)
        clear c o;go_wp2;go_ret;exact⟨bA N.z,b⟩)
end Go.Proofs.YtimglglgcgpjgabGreatDoor
