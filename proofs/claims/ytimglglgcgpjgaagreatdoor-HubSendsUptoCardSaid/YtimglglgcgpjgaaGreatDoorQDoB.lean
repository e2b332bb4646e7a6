/- Of the proof of a statement: DoB. -/
import Derived.Test.YtimglglgcgpjgaaGreatDoorQDoA
set_option linter.unusedVariables false
set_option linter.unusedSimpArgs false
set_option maxRecDepth 100000
set_option maxHeartbeats 8000000
namespace Go.Proofs.YtimglglgcgpjgaaGreatDoor
open List (foldl_cons foldl_nil setIfInBounds_toArray set_cons_succ set_cons_zero)
open Go.RowKit
theorem oQ {w:World} {base n g sz:Nat} {e t:TypeId} {v:Value} {xs:List Value} {cs:Array Value} (h:Blk w g t cs) (i:w.ownsRow base e sz v n xs) (f:t≠e):v.ownBlock≠some g:=by
 intro a;rcases i.2 with ⟨c,_⟩ | ⟨q,k,l,j,_,b,_⟩
 · rw [c] at a; cases a
 · rw [j] at a;have:q=g:=by simpa [Value.ownBlock] using a
   subst this;unfold Blk at h;rw [h] at b;injection b with b;injection b with _ d;exact f d
theorem Ao :
 (∀ (Q:Nat) (q:aK) (w:World) (g:Option Nat) (a:Blk w Q 87 (aV q)) (b:g≠some Q),zH (fun l=>decide (l.job=q.name)) 146 #[π Q 0] w g) /\
 (∀ (Q:Nat) (q:aK) (w:World) (g:Option Nat) (a:Blk w Q 87 (aV q)) (b:g≠some Q),zH (fun l=>decide (l.node=q.name)) 148 #[π Q 0] w g):=by
 refine⟨@fun Q q w g a b=>(fun(d:Unit)=>?_) (),@fun Q q w g a b=>?_⟩<;>(
 first|(guard_hyp d;have i:Tg 37:=⟨⟩)|(have i:Tg 38:=⟨⟩)
 intro W h x;have c:Blk W Q 87 (aV q):=(h.block Q a.lt (fun j=>b j.symm)).trans a;have m:ζ W Q 12 (.string q.name):=c.cell 12;have n:=c.lt
 first|(guard_hyp d;have e:=ω (oP x.job q.name))|have e:=ω (oP x.node q.name)
 obtain⟨job,node,k⟩:=x
 show ψ i #[.agg #[job,node,k],π Q 0] W _
 clear a h c
 first|(guard_hyp d;go_enter Tryz.func146,Tryz.ntmps146)|go_enter Tryz.func148,Tryz.ntmps148
 go_wp2;go_ret;exact⟨bB e.z,(θ).alloc lJ _⟩)
def Ia (N d e Q:Nat) (st:ah) (x:StA) (now:Int) (q:aK) (b:Bool) (a:rE):Nat->Value->Prop
 | 0,u=>u = π d 0
 | 1,u=>u = π d 0
 | 2,u=>u = π d 0
 | 3,u=>u = π N 0
 | 4,u=>u = π d 0
 | 5,u=>u = π d 0
 | 6,u=>u = π d 0
 | 7,u=>u = π N 0
 | 8,u=>u = π N 0
 | 9,u=>u = π N 1
 | 10,u=>u = .slice x.aj x.nj x.cj
 | 11,u=>u = π Q 12
 | 12,u=>u = .string q.name
 | 13,u=>a.s=true/\u = .tuple #[.slice a.A a.m a.c,.bool b]
 | 14,u=>a.s=true/\u = .tuple #[.slice a.A a.m a.c,.bool b]
 | 15,u=>a.s=true/\u = .slice a.A a.m a.c
 | 16,u=>u = .bool b
 | 17,u=>u = π N 0
 | 18,u=>u = π N 1
 | 19,_=>True
 | 20,u=>u = .bool b
 | _,_=>False
theorem KA {N c a Q:Nat} {st:ah} {x:StA} {now:Int} {q:aK} {b:Bool} {e g:rE} {j:Nat} {v:Value} (f:e.s=false) (h:Ia N c a Q st x now q b e j v):Ia N c a Q st x now q b g j v:=by
 unfold Ia at *
 split at h
 all_goals first | exact h | (obtain⟨d,_⟩:=h; rw [f] at d; cases d)
def Ib (N d e Q:Nat) (st:ah) (x:StA) (now:Int) (q:aK) (b:Bool) (a:rE):Nat->Value->Prop
 | 0,u=>u = π d 0
 | 1,u=>u = π d 0
 | 2,u=>u = π d 0
 | 3,u=>u = π N 0
 | 4,u=>u = π d 0
 | 5,u=>u = π d 0
 | 6,u=>u = π d 0
 | 7,u=>u = π N 0
 | 8,u=>u = π N 0
 | 9,u=>u = π N 2
 | 10,u=>u = .slice x.an x.nn x.cn
 | 11,u=>u = π Q 12
 | 12,u=>u = .string q.name
 | 13,u=>a.s=true/\u = .tuple #[.slice a.A a.m a.c,.bool b]
 | 14,u=>a.s=true/\u = .tuple #[.slice a.A a.m a.c,.bool b]
 | 15,u=>a.s=true/\u = .slice a.A a.m a.c
 | 16,u=>u = .bool b
 | 17,u=>u = π N 0
 | 18,u=>u = π N 2
 | 19,_=>True
 | 20,u=>u = .bool b
 | _,_=>False
theorem KB {N c a Q:Nat} {st:ah} {x:StA} {now:Int} {q:aK} {b:Bool} {e g:rE} {j:Nat} {v:Value} (f:e.s=false) (h:Ib N c a Q st x now q b e j v):Ib N c a Q st x now q b g j v:=by
 unfold Ib at *
 split at h
 all_goals first | exact h | (obtain⟨d,_⟩:=h; rw [f] at d; cases d)
def Ic (N d e Q:Nat) (st:ah) (x:StA) (now:Int) (q:aK) (b:Bool) (a:rE):Nat->Value->Prop
 | 0,u=>u = π d 0
 | 1,u=>u = π d 0
 | 2,u=>u = π d 0
 | 3,u=>u = π N 0
 | 4,u=>u = π d 0
 | 5,u=>u = π d 0
 | 6,u=>u = π d 0
 | 7,u=>u = π N 0
 | 8,u=>u = π N 0
 | 9,u=>u = π N 3
 | 10,u=>u = .slice x.al x.nl x.cl
 | 11,u=>u = π Q 12
 | 12,u=>u = .string q.name
 | 13,u=>a.s=true/\u = .tuple #[.slice a.A a.m a.c,.bool b]
 | 14,u=>a.s=true/\u = .tuple #[.slice a.A a.m a.c,.bool b]
 | 15,u=>a.s=true/\u = .slice a.A a.m a.c
 | 16,u=>u = .bool b
 | 17,u=>u = π N 0
 | 18,u=>u = π N 3
 | 19,_=>True
 | 20,u=>u = .bool b
 | _,_=>False
theorem KC {N c a Q:Nat} {st:ah} {x:StA} {now:Int} {q:aK} {b:Bool} {e g:rE} {j:Nat} {v:Value} (f:e.s=false) (h:Ic N c a Q st x now q b e j v):Ic N c a Q st x now q b g j v:=by
 unfold Ic at *
 split at h
 all_goals first | exact h | (obtain⟨d,_⟩:=h; rw [f] at d; cases d)
theorem FS :
 (∀ (base:Nat) (st:ah) (x:StA) (N i:Nat) (now:Int) (q:aK) (w:World) (h:An w base st x N i now) (D:q.kind=3),ψ 81 #[π i 0,bP q] w (iE base N i (if (cC st.jobs q.name).isSome=true then 0 else 6,nB st q.name,now) w)) /\
 (∀ (base:Nat) (st:ah) (x:StA) (N i:Nat) (now:Int) (q:aK) (w:World) (h:An w base st x N i now) (D:q.kind=4),ψ 81 #[π i 0,bP q] w (iE base N i (if (bU st.nodes q.name).isSome=true then 0 else 6,nC st q.name,now) w)) /\
 (∀ (base:Nat) (st:ah) (x:StA) (N i:Nat) (now:Int) (q:aK) (w:World) (h:An w base st x N i now) (D:q.kind=6),ψ 81 #[π i 0,bP q] w (iE base N i (if (cD st.leases q.name).isSome=true then 0 else 6,mR st q.name,now) w)):=by
 refine⟨@fun base st x N i now q w h D=>(fun(u:Unit)=>?_) (),@fun base st x N i now q w h D=>(fun(v:Unit)=>?_) (),@fun base st x N i now q w h D=>(fun(af:Unit)=>?_) ()⟩<;>(
 first|(guard_hyp u;have ag:Tg 25:=⟨⟩;have ai:Tg 39:=⟨⟩;have am:Tg 40:=⟨⟩;have ao:Tg 41:=⟨⟩;have ap:Tg 42:=⟨⟩;have aq:Tg 43:=⟨⟩;have ar:Tg 44:=⟨⟩;have aw:Tg 45:=⟨⟩;have ax:Tg 46:=⟨⟩;have ab:Tg 10:=⟨⟩;have Or:Tg 47:=⟨⟩)|(guard_hyp v;have ag:Tg 26:=⟨⟩;have ai:Tg 48:=⟨⟩;have am:Tg 49:=⟨⟩;have ao:Tg 50:=⟨⟩;have ap:Tg 51:=⟨⟩;have aq:Tg 52:=⟨⟩;have ar:Tg 53:=⟨⟩;have aw:Tg 54:=⟨⟩;have ax:Tg 55:=⟨⟩;have ab:Tg 12:=⟨⟩;have Or:Tg 56:=⟨⟩)|(have ag:Tg 27:=⟨⟩;have ai:Tg 57:=⟨⟩;have am:Tg 58:=⟨⟩;have ao:Tg 59:=⟨⟩;have ap:Tg 60:=⟨⟩;have aq:Tg 61:=⟨⟩;have ar:Tg 62:=⟨⟩;have aw:Tg 63:=⟨⟩;have ax:Tg 64:=⟨⟩;have ab:Tg 15:=⟨⟩;have Or:Tg 65:=⟨⟩)
 obtain⟨W,O⟩:∃ W,(w.alloc (.cells #[π i 0] 159)).alloc (.cells (aV q) 87)=W:=⟨_,rfl⟩;have T:Below w w W:=by rw [<- O]; exact ((θ).alloc lJ _).alloc (by simp) _
 have aa:Blk W w 159 #[π i 0]:=by rw [<- O]; exact Blk.alloc (show Blk _ _ _ _ from n5 w _) _
 have V:Blk W (w.heap.size+1) 87 (aV q):=by
  rw [<- O];have:=n5 (χ w #[π i 0] 159) (.cells (aV q) 87);rwa [show (w.alloc (.cells #[π i 0] 159)).heap.size=w.heap.size+1 by simp] at this
 have y:=h.w.below T;have a1:ζ W (w.heap.size+1) 0 (.int .i64 ag):=by rw [V.cell 0,<- D]; rfl
 first|(guard_hyp u;have R:=IN base x.aj x.nj x.cj st.jobs q.name W.drew y.own.j.drew y.own.lj (by have:=h.nj; omega) h.sj)|(guard_hyp v;have R:=FN base x.an x.nn x.cn st.nodes q.name W.drew y.own.n.drew y.own.ln (by have:=h.nn; omega) h.sn)|have R:=DX base x.al x.nl x.cl st.leases q.name W.drew y.own.l.drew y.own.ll (by have:=h.nl; omega) h.sl
 first|(guard_hyp u;rw [show (cC st.jobs q.name).isSome=isL aC.name st.jobs q.name from (qK h.sj).symm])|(guard_hyp v;rw [show (bU st.nodes q.name).isSome=isL av.name st.nodes q.name from (qK h.sn).symm])|rw [show (cD st.leases q.name).isSome=isL ak.job st.leases q.name from (qK h.sl).symm]
 first|(guard_hyp u;obtain⟨b,Z⟩:∃ b,isL aC.name st.jobs q.name=b:=⟨_,rfl⟩)|(guard_hyp v;obtain⟨b,Z⟩:∃ b,isL av.name st.nodes q.name=b:=⟨_,rfl⟩)|obtain⟨b,Z⟩:∃ b,isL ak.job st.leases q.name=b:=⟨_,rfl⟩
 rw [Z] at R |-;clear Z;obtain⟨E,hE⟩:∃ E:Int,(if b=true then (0:Int) else 6)=E:=⟨_,rfl⟩;rw [hE];have HE:=ω hE;clear hE;have HD:=ω R
 first|(guard_hyp u;have z:=ω (show W.drew.ownsRow base 85 5 (.slice x.aj x.nj x.cj) x.nj (au aS st.jobs) from y.own.j.drew))|(guard_hyp v;have z:=ω (show W.drew.ownsRow base 70 3 (.slice x.an x.nn x.cn) x.nn (au aH st.nodes) from y.own.n.drew))|have z:=ω (show W.drew.ownsRow base 66 3 (.slice x.al x.nl x.cl) x.nl (au aB st.leases) from y.own.l.drew)
 have ac:=ω (show base<=W.drew.heap.size from y.bs);have ad:=ω y.bN;have H:=ω h
 first|(guard_hyp u;have J:G9 w W base st x N i w (w.heap.size+1) now q (st.jobs.filter fun s=>!decide (aC.name s=q.name)) 0 ⟨none,0,0,false⟩ W.drew:=⟨aa,V,y.wk,y.nb,(T.mono h.w.bs).drew,y.own.n.drew,y.own.l.drew,fun _=>rfl,fun _=>rfl,fun h=>absurd h (by decide)⟩)|(guard_hyp v;have J:H8 w W base st x N i w (w.heap.size+1) now q (st.nodes.filter fun s=>!decide (av.name s=q.name)) 0 ⟨none,0,0,false⟩ W.drew:=⟨aa,V,y.wk,y.nb,(T.mono h.w.bs).drew,y.own.j.drew,y.own.l.drew,fun _=>rfl,fun _=>rfl,fun h=>absurd h (by decide)⟩)|have J:NY w W base st x N i w (w.heap.size+1) now q (st.leases.filter fun s=>!decide (ak.job s=q.name)) 0 ⟨none,0,0,false⟩ W.drew:=⟨aa,V,y.wk,y.nb,(T.mono h.w.bs).drew,y.own.j.drew,y.own.n.drew,fun _=>rfl,fun _=>rfl,fun h=>absurd h (by decide)⟩
 clear T aa V y R h;unfold bP;unfold aV at O |-;clear D;go_enter Tryz.func81,Tryz.ntmps81
 go_wp2_with fail
 try rw [O]
 clear O a1
 first|(guard_hyp u;refine rq 157 (Ia N i w (w.heap.size+1) st x now q b) [13,19] (G9 w W base st x N i w (w.heap.size+1) now q (st.jobs.filter fun s=>!decide (aC.name s=q.name))) ⟨none,0,0,false⟩ J ?_ ?_)|(guard_hyp v;refine rq 157 (Ib N i w (w.heap.size+1) st x now q b) [13,19] (H8 w W base st x N i w (w.heap.size+1) now q (st.nodes.filter fun s=>!decide (av.name s=q.name))) ⟨none,0,0,false⟩ J ?_ ?_)|refine rq 157 (Ic N i w (w.heap.size+1) st x now q b) [13,19] (NY w W base st x N i w (w.heap.size+1) now q (st.leases.filter fun s=>!decide (ak.job s=q.name))) ⟨none,0,0,false⟩ J ?_ ?_
 · refine⟨?_,?_,?_,?_,?_,?_,?_,?_,?_,?_,?_,?_,?_,?_,?_,?_,?_,?_,?_,?_,?_,trivial⟩
   · refine okQ 0 2 fun I d s p _ _ a e=>?_;have o:=e.k 2 rfl;have C:ζ p w 0 (π i 0):=a.bp.cell 0;simp [go_sem,Oper.wp,execOp,Act.eval,o,C];exact⟨_,rfl,d,fun _ _ _ h=>h,rfl,a⟩
   · exact ok1 0 2 0 ai rfl rfl (fun _ _ h=>h) fun _=>rfl
   · exact ok1 0 2 1 am rfl rfl (fun _ _ h=>h) fun _=>rfl
   · refine okQ 0 2 fun I d s p _ _ a e=>?_
     first|(guard_hyp u;obtain⟨u1,o,rfl⟩:=e.g 2 63 rfl rfl)|(guard_hyp v;obtain⟨u1,o,rfl⟩:=e.g 2 87 rfl rfl)|obtain⟨u1,o,rfl⟩:=e.g 2 117 rfl rfl
     have C:ζ p i 0 (π N 0):=a.wk.cell 0;simp [go_sem,Oper.wp,execOp,Act.eval,o,C];exact⟨_,rfl,d,fun _ _ _ h=>h,rfl,a⟩
   · refine okQ 0 2 fun I d s p _ _ a e=>?_;have o:=e.k 2 rfl;have C:ζ p w 0 (π i 0):=a.bp.cell 0;simp [go_sem,Oper.wp,execOp,Act.eval,o,C];exact⟨_,rfl,d,fun _ _ _ h=>h,rfl,a⟩
   · exact ok1 0 2 4 ao rfl rfl (fun _ _ h=>h) fun _=>rfl
   · exact ok1 0 2 5 ap rfl rfl (fun _ _ h=>h) fun _=>rfl
   · refine okQ 0 2 fun I d s p _ _ a e=>?_
     first|(guard_hyp u;obtain⟨u1,o,rfl⟩:=e.g 6 67 rfl rfl)|(guard_hyp v;obtain⟨u1,o,rfl⟩:=e.g 6 91 rfl rfl)|obtain⟨u1,o,rfl⟩:=e.g 6 121 rfl rfl
     have C:ζ p i 0 (π N 0):=a.wk.cell 0;simp [go_sem,Oper.wp,execOp,Act.eval,o,C];exact⟨_,rfl,d,fun _ _ _ h=>h,rfl,a⟩
   · exact ok1 0 2 7 aq rfl rfl (fun _ _ h=>h) fun _=>rfl
   · exact ok1 0 2 8 ar rfl rfl (fun _ _ h=>h) fun _=>rfl
   · refine okQ 0 0 fun I d s p _ _ a e=>?_
     first|(guard_hyp u;obtain⟨u1,o,rfl⟩:=e.g 9 70 rfl rfl)|(guard_hyp v;obtain⟨u1,o,rfl⟩:=e.g 9 94 rfl rfl)|obtain⟨u1,o,rfl⟩:=e.g 9 124 rfl rfl
     obtain rfl:I=0:=by omega
     first|(guard_hyp u;have C:ζ p N 1 (.slice x.aj x.nj x.cj):=a.nb.cell 1)|(guard_hyp v;have C:ζ p N 2 (.slice x.an x.nn x.cn):=a.nb.cell 2)|have C:ζ p N 3 (.slice x.al x.nl x.cl):=a.nb.cell 3
     simp [go_sem,Oper.wp,execOp,Act.eval,o,C];exact⟨_,rfl,d,fun _ _ _ h=>h,rfl,a⟩
   · exact ok0 0 2 3 rfl fun _=>rfl
   · refine okQ 0 2 fun I d s p _ _ a e=>?_
     first|(guard_hyp u;obtain⟨u1,o,rfl⟩:=e.g 11 72 rfl rfl)|(guard_hyp v;obtain⟨u1,o,rfl⟩:=e.g 11 96 rfl rfl)|obtain⟨u1,o,rfl⟩:=e.g 11 126 rfl rfl
     have C:ζ p (w.heap.size+1) 12 (.string q.name):=a.q.cell 12;simp [go_sem,Oper.wp,execOp,Act.eval,o,C];exact⟨_,rfl,d,fun _ _ _ h=>h,rfl,a⟩
   · refine .inl ⟨0,rfl,fun d s p a e=>aL rfl ?_⟩
     first|(guard_hyp u;obtain⟨u1,o,rfl⟩:=e.g 10 71 rfl rfl)|(guard_hyp v;obtain⟨u1,o,rfl⟩:=e.g 10 95 rfl rfl)|obtain⟨u1,o,rfl⟩:=e.g 10 125 rfl rfl
     first|(guard_hyp u;obtain⟨u2,L,rfl⟩:=e.g 12 73 rfl rfl)|(guard_hyp v;obtain⟨u2,L,rfl⟩:=e.g 12 97 rfl rfl)|obtain⟨u2,L,rfl⟩:=e.g 12 127 rfl rfl
     simp [go_sem,Oper.wp,execOp,Act.eval,o,L];obtain rfl:=a.here rfl;refine (HD.z).mono ?_;rintro ay w' ⟨A',m,c',rfl,hm,ho,B⟩
     first|(guard_hyp u;exact⟨_,rfl,⟨A',m,c',true⟩,fun j a0 hj h=>KA (a.unset rfl) h,⟨rfl,rfl⟩,⟨Blk.jZ a.bp B z.z (by decide),Blk.jZ a.q B z.z (by decide),Blk.jZ a.wk B z.z (by decide),Blk.eq (Blk.jZ a.nb B z.z (by decide)) rfl,a.below.trans (B.below ac.z (fun q D=>(z.lt q D).1)),cR a.n B z.z (by decide),cR a.l B z.z (by decide),fun h=>absurd h (by decide),fun h=>absurd h (by decide),fun _=>⟨ho,hm⟩⟩⟩)|(guard_hyp v;exact⟨_,rfl,⟨A',m,c',true⟩,fun j a0 hj h=>KB (a.unset rfl) h,⟨rfl,rfl⟩,⟨Blk.jZ a.bp B z.z (by decide),Blk.jZ a.q B z.z (by decide),Blk.jZ a.wk B z.z (by decide),Blk.eq (Blk.jZ a.nb B z.z (by decide)) rfl,a.below.trans (B.below ac.z (fun q D=>(z.lt q D).1)),cR a.j B z.z (by decide),cR a.l B z.z (by decide),fun h=>absurd h (by decide),fun h=>absurd h (by decide),fun _=>⟨ho,hm⟩⟩⟩)|exact⟨_,rfl,⟨A',m,c',true⟩,fun j a0 hj h=>KC (a.unset rfl) h,⟨rfl,rfl⟩,⟨Blk.jZ a.bp B z.z (by decide),Blk.jZ a.q B z.z (by decide),Blk.jZ a.wk B z.z (by decide),Blk.eq (Blk.jZ a.nb B z.z (by decide)) rfl,a.below.trans (B.below ac.z (fun q D=>(z.lt q D).1)),cR a.j B z.z (by decide),cR a.n B z.z (by decide),fun h=>absurd h (by decide),fun h=>absurd h (by decide),fun _=>⟨ho,hm⟩⟩⟩
   · refine okQ 0 2 fun I d s p _ _ a e=>?_
     first|(guard_hyp u;obtain⟨u1,o,F,rfl⟩:=e.g 13 74 rfl rfl)|(guard_hyp v;obtain⟨u1,o,F,rfl⟩:=e.g 13 98 rfl rfl)|obtain⟨u1,o,F,rfl⟩:=e.g 13 128 rfl rfl
     simp [go_sem,Oper.wp,execOp,Act.eval,o];exact⟨_,rfl,d,fun _ _ _ h=>h,⟨F,rfl⟩,a⟩
   · refine okQ 0 2 fun I d s p _ _ a e=>?_
     first|(guard_hyp u;obtain⟨u1,o,F,rfl⟩:=e.g 14 60 rfl rfl)|(guard_hyp v;obtain⟨u1,o,F,rfl⟩:=e.g 14 84 rfl rfl)|obtain⟨u1,o,F,rfl⟩:=e.g 14 114 rfl rfl
     simp [go_sem,Oper.wp,execOp,Act.eval,o];exact⟨_,rfl,d,fun _ _ _ h=>h,⟨F,rfl⟩,a⟩
   · refine okQ 0 2 fun I d s p _ _ a e=>?_
     first|(guard_hyp u;obtain⟨u1,o,F,rfl⟩:=e.g 14 60 rfl rfl)|(guard_hyp v;obtain⟨u1,o,F,rfl⟩:=e.g 14 84 rfl rfl)|obtain⟨u1,o,F,rfl⟩:=e.g 14 114 rfl rfl
     simp [go_sem,Oper.wp,execOp,Act.eval,o];exact⟨_,rfl,d,fun _ _ _ h=>h,rfl,a⟩
   · exact ok1 0 2 3 aw rfl rfl (fun _ _ h=>h) fun _=>rfl
   · exact ok1 0 2 17 ax rfl rfl (fun _ _ h=>h) fun _=>rfl
   · refine .inl ⟨1,rfl,fun d s p a e=>aL rfl ?_⟩
     first|(guard_hyp u;obtain⟨u1,o,rfl⟩:=e.g 18 78 rfl rfl)|(guard_hyp v;obtain⟨u1,o,rfl⟩:=e.g 18 102 rfl rfl)|obtain⟨u1,o,rfl⟩:=e.g 18 132 rfl rfl
     first|(guard_hyp u;obtain⟨u2,L,az,rfl⟩:=e.g 15 75 rfl rfl)|(guard_hyp v;obtain⟨u2,L,az,rfl⟩:=e.g 15 99 rfl rfl)|obtain⟨u2,L,az,rfl⟩:=e.g 15 129 rfl rfl
     first|(guard_hyp u;have hc:ζ p N 1 (.slice x.aj x.nj x.cj):=a.nb.cell 1)|(guard_hyp v;have hc:ζ p N 2 (.slice x.an x.nn x.cn):=a.nb.cell 2)|have hc:ζ p N 3 (.slice x.al x.nl x.cl):=a.nb.cell 3
     have hz:κ p N ab:=a.nb.thaw ab;simp [go_sem,Oper.wp,execOp,Act.eval,o,L,hc,hz]
     first|(guard_hyp u;exact⟨.int .i64 0,d,fun _ _ _ h=>h,trivial,⟨bM a.bp a.nb (by decide),bM a.q a.nb (by decide),bM a.wk a.nb (by decide),Blk.eq (a.nb.set 1 _) rfl,a.below.trans (aZ θ ad.z),bF a.n a.nb (by decide),bF a.l a.nb (by decide),fun h=>absurd h (by decide),fun h=>absurd h (by decide),fun _=>⟨bF (a.r (by decide)).1 a.nb (by decide),(a.r (by decide)).2⟩⟩⟩)|(guard_hyp v;exact⟨.int .i64 0,d,fun _ _ _ h=>h,trivial,⟨bM a.bp a.nb (by decide),bM a.q a.nb (by decide),bM a.wk a.nb (by decide),Blk.eq (a.nb.set 2 _) rfl,a.below.trans (aZ θ ad.z),bF a.j a.nb (by decide),bF a.l a.nb (by decide),fun h=>absurd h (by decide),fun h=>absurd h (by decide),fun _=>⟨bF (a.r (by decide)).1 a.nb (by decide),(a.r (by decide)).2⟩⟩⟩)|exact⟨.int .i64 0,d,fun _ _ _ h=>h,trivial,⟨bM a.bp a.nb (by decide),bM a.q a.nb (by decide),bM a.wk a.nb (by decide),Blk.eq (a.nb.set 3 _) rfl,a.below.trans (aZ θ ad.z),bF a.j a.nb (by decide),bF a.n a.nb (by decide),fun h=>absurd h (by decide),fun h=>absurd h (by decide),fun _=>⟨bF (a.r (by decide)).1 a.nb (by decide),(a.r (by decide)).2⟩⟩⟩
   · exact ok1 0 2 16 Or rfl rfl (fun _ _ h=>h) fun _=>rfl
 · intro d s p M;have a:=M.ph
   first|(guard_hyp u;obtain⟨fv,rfl,P⟩:=M.frame [61,62,63,64,65,66,67,68,69,70,71,72,73,74,60,75,76,77,78,5] rfl)|(guard_hyp v;obtain⟨fv,rfl,P⟩:=M.frame [85,86,87,88,89,90,91,92,93,94,95,96,97,98,84,99,100,101,102,5] rfl)|obtain⟨fv,rfl,P⟩:=M.frame [115,116,117,118,119,120,121,122,123,124,125,126,127,128,114,129,130,131,132,5] rfl
   have h5:fv 5 = .bool b:=P 20 _ 5 rfl rfl
   first
    |(
     guard_hyp u
     have K:Blk p N 26 #[st.rev,.slice d.A d.m d.c,.slice x.an x.nn x.cn,.slice x.al x.nl x.cl]:=a.nb;have G:uE p base (⟨st.rev,(st.jobs.filter fun s=>!decide (aC.name s=q.name)),st.nodes,st.leases⟩:ah) ⟨d.A,d.m,d.c,x.an,x.nn,x.cn,x.al,x.nl,x.cl⟩ N i now:=⟨K,a.wk,⟨(a.r (by decide)).1,a.n,a.l,(a.r (by decide)).2.symm,H.w.own.ln,H.w.own.ll⟩,H.w.bN,H.w.bW,v6 H.w.bs a.below.size⟩)
    |(
     guard_hyp v
     have K:Blk p N 26 #[st.rev,.slice x.aj x.nj x.cj,.slice d.A d.m d.c,.slice x.al x.nl x.cl]:=a.nb;have G:uE p base (⟨st.rev,st.jobs,(st.nodes.filter fun s=>!decide (av.name s=q.name)),st.leases⟩:ah) ⟨x.aj,x.nj,x.cj,d.A,d.m,d.c,x.al,x.nl,x.cl⟩ N i now:=⟨K,a.wk,⟨a.j,(a.r (by decide)).1,a.l,H.w.own.lj,(a.r (by decide)).2.symm,H.w.own.ll⟩,H.w.bN,H.w.bW,v6 H.w.bs a.below.size⟩)
    |(
     guard_hyp af
     have K:Blk p N 26 #[st.rev,.slice x.aj x.nj x.cj,.slice x.an x.nn x.cn,.slice d.A d.m d.c]:=a.nb;have G:uE p base (mR st q.name) ⟨x.aj,x.nj,x.cj,x.an,x.nn,x.cn,d.A,d.m,d.c⟩ N i now:=⟨K,a.wk,⟨a.j,a.n,(a.r (by decide)).1,H.w.own.lj,H.w.own.ln,(a.r (by decide)).2.symm⟩,H.w.bN,H.w.bW,v6 H.w.bs a.below.size⟩)
   have ae:=ω a.below;have b0:ζ p w 0 (π i 0):=a.bp.cell 0
   first
    |(
     guard_hyp u
     have U:=G.own.l;have Q:=ω (sM (fun l=>decide (l.job=q.name)) 146 #[π (w.heap.size+1) 0] base (⟨st.rev,(st.jobs.filter fun s=>!decide (aC.name s=q.name)),st.nodes,st.leases⟩:ah) ⟨d.A,d.m,d.c,x.an,x.nn,x.cn,x.al,x.nl,x.cl⟩ N i now p G (by have:=H.nl; show x.nl<=999; omega) (enters_of Tryz.func146 (by kernel_rfl) rfl) (Ao.1 _ q p _ a.q (oQ a.q U (by decide))));clear M a P K G J U)
    |(
     guard_hyp v
     have U:=G.own.l;have Q:=ω (sM (fun l=>decide (l.node=q.name)) 148 #[π (w.heap.size+1) 0] base (⟨st.rev,st.jobs,(st.nodes.filter fun s=>!decide (av.name s=q.name)),st.leases⟩:ah) ⟨x.aj,x.nj,x.cj,d.A,d.m,d.c,x.al,x.nl,x.cl⟩ N i now p G (by have:=H.nl; show x.nl<=999; omega) (enters_of Tryz.func148 (by kernel_rfl) rfl) (Ao.2 _ q p _ a.q (oQ a.q U (by decide))));clear M a P K G J U)
    |(
     guard_hyp af
     have Y:=ω (show iE base N i (E,mR st q.name,now) w (.returned (.int .i64 E)) p from ⟨rfl,ae,fun _=>⟨_,G⟩⟩);clear M a P K G J)
   simp only [foldl_cons,foldl_nil,setIfInBounds_toArray,set_cons_succ,set_cons_zero,h5];clear h5
   first|(guard_hyp af;cases b)|go_wp2_with fail
   first
    |(
     guard_hyp u
     refine Q.mono ?_;rintro ay w5 ⟨rfl,⟨x',X⟩,S⟩;have Y:=ω (show iE base N i (E,nB st q.name,now) w (.returned (.int .i64 E)) w5 from ⟨rfl,ae.trans S,fun _=>⟨x',X⟩⟩);clear X S b0 Q;cases b)
    |(
     guard_hyp v
     refine Q.mono ?_;rintro ay w5 ⟨rfl,⟨x',X⟩,S⟩;have Y:=ω (show iE base N i (E,nC st q.name,now) w (.returned (.int .i64 E)) w5 from ⟨rfl,ae.trans S,fun _=>⟨x',X⟩⟩);clear X S b0 Q;cases b)
    |skip
   · obtain rfl:(6:Int)=E:=HE.z;go_wp2;go_ret;exact Y
   · obtain rfl:(0:Int)=E:=HE.z;go_wp2;go_ret;exact Y)
end Go.Proofs.YtimglglgcgpjgaaGreatDoor
