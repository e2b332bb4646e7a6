/- Of the proof of a statement: HubG, HubS. -/
import Derived.Test.YtimglglgcgpjgabGreatDoorPSvDo
set_option linter.unusedVariables false
set_option linter.unusedSimpArgs false
set_option maxRecDepth 100000
set_option maxHeartbeats 8000000
namespace Go.Proofs.YtimglglgcgpjgabGreatDoor
open List (foldl_cons foldl_nil setIfInBounds_toArray set_cons_succ set_cons_zero)
open Go.RowKit
theorem cK.other {w w':World} {g V r:Nat} {fb:Nat->Nat} {wv:Nat->Value} {cs:Nat->bE} {st:ah} {x:StA} {now:Int} {t:TypeId} {c:Array Value} (h:cK w g V fb wv cs st x now) (b:Blk w r t c) (s:gJ c) (k:t ≠ 61) (l:t ≠ 103) (m:t ≠ 105) (n:t ≠ 5) (a:w.grownBy w' (some r)):cK w' g V fb wv cs st x now:=
 ⟨ay a h.blk (bC h.blk b k.symm),⟨ay a h.srv.blk (bC h.srv.blk b l.symm),(h.srv.at_.gy b s a).more a.size,h.srv.ok,h.srv.t⟩,fun i d=>ay a (h.feed i d) (bC (h.feed i d) b m.symm),
  fun i d=>(h.wait i d).keep fun j o=>by
   obtain⟨u,f,_⟩:=(h.wait i d).blk o;exact a.block j f.lt (fun e=>by injection e with e; exact bC f b n.symm e),h.fbi,h.wvi⟩
theorem dS.new {g V r:Nat} {fb:Nat->Nat} {wv c:Nat->Value} {w a w':World} (h:dS g V fb wv c w a) (d:a.grownBy w' (some r)) (k:w.heap.size<=r):dS g V fb wv c w w':=
 ⟨h.gr.trans (Gr.mP (S:=fun b=>b=r) d fun b e=>by injection e with e; exact e.symm) fun b j e=>by omega,fun i f=>(h.own i f)⟩
structure FrG where
 R:Option Nat
 D:Option Nat
 set:Bool
 dx:eG
 x:StA
def frV (g V:Nat) (q:aL) (E rev:Int) (D:aY) (ch:Bool) (γ:FrG):Nat->Value->Prop
 | 0,u=>u = π g 0
 | 1,u=>u = π g 0
 | 2,u=>u = π g 0
 | 3,u=>u = π V 0
 | 4,u=>u = .agg #[.int .i64 q.kind,.string q.job.name,.int .i64 q.job.prio,.int .i64 q.job.need,.int .i64 q.job.tries,.string q.job.tag,.string q.node.name,.int .i64 q.node.room,.string q.node.zone,.string q.lease.job,.string q.lease.node,.int .i64 q.lease.till,.string q.name,.int .i64 q.n]
 | 5,u=>γ.set=true/\u = .tuple #[.agg #[.int .i64 E,.int .i64 rev],.agg #[.int .i64 D.from_,.int .i64 D.to_,.slice γ.dx.aj γ.dx.nj γ.dx.cj,.slice γ.dx.an γ.dx.nn γ.dx.cn,.slice γ.dx.al γ.dx.nl γ.dx.cl,.slice γ.dx.agj γ.dx.ngj γ.dx.cgj,.slice γ.dx.agn γ.dx.ngn γ.dx.cgn,.slice γ.dx.agl γ.dx.ngl γ.dx.cgl],.bool ch]
 | 6,u=>γ.set=true/\u = .tuple #[.agg #[.int .i64 E,.int .i64 rev],.agg #[.int .i64 D.from_,.int .i64 D.to_,.slice γ.dx.aj γ.dx.nj γ.dx.cj,.slice γ.dx.an γ.dx.nn γ.dx.cn,.slice γ.dx.al γ.dx.nl γ.dx.cl,.slice γ.dx.agj γ.dx.ngj γ.dx.cgj,.slice γ.dx.agn γ.dx.ngn γ.dx.cgn,.slice γ.dx.agl γ.dx.ngl γ.dx.cgl],.bool ch]
 | 7,u=>u = .agg #[.int .i64 E,.int .i64 rev]
 | 8,u=>γ.set=true/\u = .agg #[.int .i64 D.from_,.int .i64 D.to_,.slice γ.dx.aj γ.dx.nj γ.dx.cj,.slice γ.dx.an γ.dx.nn γ.dx.cn,.slice γ.dx.al γ.dx.nl γ.dx.cl,.slice γ.dx.agj γ.dx.ngj γ.dx.cgj,.slice γ.dx.agn γ.dx.ngn γ.dx.cgn,.slice γ.dx.agl γ.dx.ngl γ.dx.cgl]
 | 9,u=>u = .bool ch
 | 10,u=>∃ r,γ.R=some r/\u = π r 0
 | 11,u=>∃ d,γ.D=some d/\u = π d 0
 | 14,u=>u = .bool ch
 | _,_=>True
section
variable {g V:Nat} {q:aL} {E rev:Int} {D:aY} {ch:Bool} {γ:FrG}
theorem M0 (b:γ.set=false) (dx:eG) (x:StA):∀ j v,j≠5->frV g V q E rev D ch γ j v->frV g V q E rev D ch { γ with set:=true,dx:=dx,x:=x } j v:=by
 intro j v a h;unfold frV at *
 split at h
 all_goals first | exact h | exact absurd rfl a | (rw [b] at h; exact absurd h.1 (by decide))
theorem PY (r:Nat):∀ j v,j≠10->frV g V q E rev D ch γ j v->frV g V q E rev D ch { γ with R:=some r } j v:=by
 intro j v a h;unfold frV at *
 split at h
 all_goals first | exact h | exact absurd rfl a
theorem PZ (r:Nat):∀ j v,j≠11->frV g V q E rev D ch γ j v->frV g V q E rev D ch { γ with D:=some r } j v:=by
 intro j v a h;unfold frV at *
 split at h
 all_goals first | exact h | exact absurd rfl a
end
def rC (E rev:Int) (p:Nat):Array Value:=if p<2 then #[(0:Int),(0:Int)] else #[E,rev]
def deC (D:aY) (dx:eG) (p:Nat):Array Value:=if p<3 then eS else dC D dx
theorem M3 (E rev:Int) (p:Nat):gJ (rC E rev p):=by
 unfold rC; split
 · exact gG 0 0
 · exact gG E rev
theorem KY (D:aY) (dx:eG) (p:Nat):gJ (deC D dx p):=by
 unfold deC; split
 · exact qY zD zA
 · exact qY D dx
structure oR (w0:World) (g V:Nat) (fb:Nat->Nat) (wv:Nat->Value) (H:cX) (x0:StA) (Q:Nat) (q:aL) (S:mF) (D:aY) (p:Nat) (γ:FrG) (w:World):Prop where
 tw:dS g V fb wv wv w0 w
 h0:p=0->γ.set=false/\cK w g V fb wv H.cs H.st x0 H.now
 h1:1<=p->cK w g V fb wv H.cs S.st γ.x S.now/\dB w w D γ.dx
 q:Blk w Q 88 (aT q)
 r:∀ r,γ.R=some r->w0.heap.size<=r/\Blk w r 93 (rC S.e S.st.rev p)
 d:∀ d,γ.D=some d->w0.heap.size<=d/\Blk w d 95 (deC D γ.dx p)
section
variable {w0 w w':World} {g V:Nat} {fb:Nat->Nat} {wv:Nat->Value} {H:cX} {x0:StA} {Q:Nat} {q:aL} {S:mF} {D:aY} {p:Nat} {γ:FrG}
theorem KZ (D:aY) (dx a:eG) {p:Nat} (b:p<3):deC D dx p=deC D a 1:=by unfold deC; rw [if_pos b,if_pos (by decide)]
theorem P0 (E rev:Int) {p:Nat} (a:p<2):rC E rev p=rC E rev 1:=by unfold rC; rw [if_pos a,if_pos (by decide)]
theorem oR.drew (h:oR w0 g V fb wv H x0 Q q S D p γ w):oR w0 g V fb wv H x0 Q q S D p γ w.drew:=by
 have a:Below w w w.drew:=(θ).drew;exact⟨h.tw.below_ a,fun e=>⟨(h.h0 e).1,(h.h0 e).2.below a⟩,fun e=>⟨(h.h1 e).1.below a,(h.h1 e).2.upS a⟩,h.q,h.r,h.d⟩
theorem oR.c0 (h:oR w0 g V fb wv H x0 Q q S D p γ w):ζ w g 0 (π V 0):=by
 rcases Nat.eq_zero_or_pos p with e | e
 · rw [(h.h0 e).2.blk.cell]; exact AO
 · rw [(h.h1 e).1.blk.cell]; exact AO
theorem oR.OR (h:oR w0 g V fb wv H x0 Q q S D p γ w) (f:p<2):oR w0 g V fb wv H x0 Q q S D p { γ with R:=some w } (χ w #[(0:Int),(0:Int)] 93):=by
 have a:Below w w (χ w #[(0:Int),(0:Int)] 93):=(θ).alloc lQ _;refine⟨h.tw.below_ a,fun e=>⟨(h.h0 e).1,(h.h0 e).2.below a⟩,fun e=>⟨(h.h1 e).1.below a,(h.h1 e).2.upS a⟩,h.q.below a h.q.lt,fun r c=>?_,fun d b=>⟨(h.d d b).1,(h.d d b).2.below a (h.d d b).2.lt⟩⟩;injection c with c;subst c;refine⟨h.tw.gr.size,?_⟩;unfold rC;rw [if_pos f];exact n5 w _
theorem oR.OS (h:oR w0 g V fb wv H x0 Q q S D p γ w) (d:p<3):oR w0 g V fb wv H x0 Q q S D p { γ with D:=some w } (χ w eS 95):=by
 have a:Below w w (χ w eS 95):=(θ).alloc lQ _;refine⟨h.tw.below_ a,fun e=>⟨(h.h0 e).1,(h.h0 e).2.below a⟩,fun e=>⟨(h.h1 e).1.below a,(h.h1 e).2.upS a⟩,h.q.below a h.q.lt,fun r c=>⟨(h.r r c).1,(h.r r c).2.below a (h.r r c).2.lt⟩,fun f b=>?_⟩;injection b with b;subst b;refine⟨h.tw.gr.size,?_⟩;unfold deC;rw [if_pos d];exact n5 w _
theorem oR.asked (h:oR w0 g V fb wv H x0 Q q S D 0 γ w) {dx:eG} {i:StA} (n:dB w' w' D dx) (l:Blk w' V 103 (jw S.st i S.now)) (o:StAt w' w' S.st i) (m:aE S.st=0) (s:0<=S.now/\S.now<=1099511627776) (b:w.grownBy w' (some V)) :
 oR w0 g V fb wv H x0 Q q S D 1 { γ with set:=true,dx:=dx,x:=i } w':=by
 obtain⟨_,a⟩:=h.h0 rfl;obtain⟨j,k⟩:=a.asked b l o m s;refine⟨h.tw.gr_ k,fun e=>absurd e (by decide),fun _=>⟨j,n⟩,ay b h.q (bC h.q a.srv.blk (by decide)),fun r f=>⟨(h.r r f).1,?_⟩,fun d c=>⟨(h.d d c).1,?_⟩⟩
 · rw [<- P0 S.e S.st.rev (p:=0) (by decide)]; exact ay b (h.r r f).2 (bC (h.r r f).2 a.srv.blk (by decide))
 · rw [<- KZ D γ.dx dx (p:=0) (by decide)]; exact ay b (h.d d c).2 (bC (h.d d c).2 a.srv.blk (by decide))
theorem oR.BI (h:oR w0 g V fb wv H x0 Q q S D 1 γ w) {r:Nat} (k:γ.R=some r) (a:w.grownBy w' (some r)) (n:Blk w' r 93 #[S.e,S.st.rev]):oR w0 g V fb wv H x0 Q q S D 2 γ w':=by
 obtain⟨i,b⟩:=h.r r k;obtain⟨l,m⟩:=h.h1 lQ;have j:=M3 S.e S.st.rev 1;refine⟨h.tw.new a i,fun e=>absurd e (by decide),fun _=>⟨l.other b j (by decide) (by decide) (by decide) (by decide) a,(m.gy b j a).more a.size⟩,ay a h.q (bC h.q b (by decide)),fun o c=>?_,fun d f=>⟨(h.d d f).1,?_⟩⟩
 · rw [k] at c;injection c with c;subst c;exact⟨i,n⟩
 · rw [KZ D γ.dx γ.dx (p:=2) (by decide)]; exact ay a (h.d d f).2 (bC (h.d d f).2 b (by decide))
theorem oR.ML (h:oR w0 g V fb wv H x0 Q q S D 2 γ w) {d:Nat} (i:γ.D=some d) (a:w.grownBy w' (some d)) (n:Blk w' d 95 (dC D γ.dx)):oR w0 g V fb wv H x0 Q q S D 3 γ w':=by
 obtain⟨f,b⟩:=h.d d i;obtain⟨l,m⟩:=h.h1 (by decide);have j:=KY D γ.dx 2;refine⟨h.tw.new a f,fun k=>absurd k (by decide),fun _=>⟨l.other b j (by decide) (by decide) (by decide) (by decide) a,(m.gy b j a).more a.size⟩,ay a h.q (bC h.q b (by decide)),fun r e=>⟨(h.r r e).1,ay a (h.r r e).2 (bC (h.r r e).2 b (by decide))⟩,fun o c=>?_⟩;rw [i] at c;injection c with c;subst c;exact⟨f,n⟩
end
theorem cK.K1 {w:World} {g V b:Nat} {fb:Nat->Nat} {wv:Nat->Value} {cs:Nat->bE} {st:ah} {x:StA} {now:Int} {t:TypeId} {c:Array Value} (h:cK w g V fb wv cs st x now) (a:Blk w b t c) (f:t ≠ 61) (j:t ≠ 103) (k:t ≠ 105) (l:t ≠ 5):¬ sZ g V fb wv b:=by
 rintro (e | e | ⟨i,d,e | e⟩)
 · exact bC a h.blk f e
 · exact bC a h.srv.blk j e
 · exact bC a (h.feed i d) k e
 · obtain⟨n,m,_⟩:=(h.wait i d).blk e;exact l (AP a m)
theorem K6 {st:ah} {now:Int} {q:aL} (h:oE q):(lO st now (lD st now q)).ch=false:=by
 have b:doR st now q=(0,st,now):=by
  unfold oE at h;unfold doR;rw [if_neg (by omega),if_neg (by omega),if_neg (by omega),if_neg (by omega),if_neg (by omega),if_neg (by omega),if_neg (by omega)]
 unfold lD;by_cases a:cN q=0
 · rw [if_pos a,b];unfold lO;rw [if_pos rfl,if_pos ⟨rfl,rfl,rfl⟩]
 · rw [if_neg a];unfold lO;rw [if_neg a]
theorem dB.grew {w w':World} {D:aY} {dx:eG} (h:dB w w D dx) {v v':Value} {l:List UInt8} (f:ByteRow w v l) (b:cZ w w' v v'):dB w' w' D dx:=by
 cases a:v.ownBlock with
 | none=>
  have:=b.grown;rw [a] at this;exact h.upS ⟨this.os,this.tape,this.output,this.size,fun k e=>this.block k e (by simp)⟩
 | some i=>
  obtain⟨j,c,d⟩:=f.blk a;have:=b.grown;rw [a] at this;exact (h.gy c d this).more this.size
theorem jK.del {g V k:Nat} {fb:Nat->Nat} {wv:Nat->Value} {cs:Nat->bE} {st:ah} {x:StA} {now:Int} {w w':World} {e:Ending} {L:List UInt8} {D:aY} {dx:eG} (f:jK g (1+k*4+3) (wv k) L w e w') (h:cK w g V fb wv cs st x now) (b:k<8) (d:dB w w D dx):dB w' w' D dx:=by
 obtain⟨_,j,i,l,a,rfl⟩:=f;have c:=aQ j g (1+k*4+3) i;exact ((d.grew (h.wait k b) a).gy (qL h.blk (by decide) (h.wait k b) a) h.Gb c).more c.size
theorem K7 (tl:ah->List UInt8) {g V k:Nat} {fb:Nat->Nat} {wv:Nat->Value} {H:cX} {x:StA} {wb:World} (w:World) (ae:ByteArray) (q:aL) (h:cK w g V fb wv H.cs H.st x H.now) (c:k<8) (hI:oK wb w g V fb wv)
 (be:∀ W,Tabs W->ψ 36 #[ae] W (tq q 0 W)) (bc:ROk q) (bz:M4 q H.st H.now) (ht:((∀ i,i<8->(H.cs i).aG=false)/\¬ oE q)\/tW tl) (bf:∀ st,(tl st).length<=7000) (hl:∀ i,i<8->(H.cs i).waits.length<=35184371000000) :
 ψ 17 #[π g 0,π g (1+k*4),.agg #[(3:Int),(3:Int),ae]] w (kX g V fb wv (lU tl H k q) (.tuple #[]) w):=by
 obtain⟨W,hW⟩:∃ W,w.alloc (.cells #[(3:Int),(3:Int),ae] 69)=W:=⟨_,rfl⟩;have ac:Below w w W:=by rw [<- hW]; exact (θ).alloc lQ _
 have G:Blk W w 69 #[(3:Int),(3:Int),ae]:=by rw [<- hW]; exact n5 w _
 have aA:=ω (be W (hI.more ac).at_);have c0:ζ W w 0 (.int .i64 3):=G.cell 0;have c1:ζ W w 1 (.int .i64 3):=G.cell 1;have c2:ζ W w 2 (.string ae):=G.cell 2;have bK:=G.lt;have HW:=ω hW;have Hh:=ω (h.below ac);have HI:=ω (hI.more ac);have aE:=ω ((dS.refl g V fb wv w).below_ ac);have Hl:=ω hl;have Ht:=ω ht;have bl:=ω bf;have b8:=ω bc;have bj:=ω hI;clear ac G hW h hI be hl ht bf bc;go_enter Tryz.func17,Tryz.ntmps17
 go_wp2_with fail
 try simp only [HW.z]
 clear HW;refine aA.mono ?_;rintro e n ⟨rfl,am⟩;obtain⟨z,ar⟩:∃ z,n.alloc (.cells (aT q) 88)=z:=⟨_,rfl⟩;have ao:Below n n z:=by rw [<- ar]; exact (θ).alloc lQ _
 have a6:Blk z n 88 (aT q):=by rw [<- ar]; exact n5 n _
 have H3:=ω ((Hh.below am).below ao);have bi:=ω ((HI.more am).more ao);have aF:=ω ((aE.below_ am).below_ ao);have bk:=ω H3.srv.ok;obtain⟨S,hS⟩:∃ S,lO H.st H.now (lD H.st H.now q)=S:=⟨_,rfl⟩;obtain⟨D,hD⟩:∃ D,(if S.ch=true then eE H.st S.st else zD)=D:=⟨_,rfl⟩;have H0:=ω (show oR z g V fb wv H x n q S D 0 ⟨none,none,false,zA,x⟩ z from ⟨dS.refl _ _ _ _ _,fun _=>⟨rfl,H3⟩,fun e=>absurd e (by decide),a6,(fun r e=>by cases e),(fun r e=>by cases e)⟩);have M5:=Il (q:=q) H3.srv.ok H3.srv.t
 have aC:=ω (fun (j:World) (γ:FrG) (a:oR z g V fb wv H x n q S D 0 γ j)=>show ψ 37 #[π V 0,.agg (nY q)] j (fun e w'=>∃ dx U,e = .returned (.tuple #[.agg #[S.e,S.st.rev],.agg #[D.from_,D.to_,.slice dx.aj dx.nj dx.cj,.slice dx.an dx.nn dx.cn,.slice dx.al dx.nl dx.cl,.slice dx.agj dx.ngj dx.cgj,.slice dx.agn dx.ngn dx.cgn,.slice dx.agl dx.ngl dx.cgl],.bool S.ch])/\oR z g V fb wv H x n q S D 1 { γ with set:=true,dx:=dx,x:=U } w') from by
  refine (bz x V j (a.h0 rfl).2.srv (bi.to a.tw).at_).mono ?_;rw [hS];rintro e w' ⟨D',dx,U,rfl,bm,b0,hv,hs,hg⟩;have e1:D'=D:=bm.trans hD;subst e1;rw [hS] at M5;exact⟨dx,U,rfl,a.asked b0 hv hs M5.1 M5.2 hg⟩)
 have aN:=ω (show (χ n (nY q) 88)=z from ar);have Y:=ω hS;have aB:=ω hD;have bM:=a6.lt;clear ar am ao a6 hS hD M5 Hh HI aE aA c0 c1 c2;unfold bO;unfold aT
 go_wp2_with fail
 simp only [aN.z];clear aN;refine rq (Γ:=FrG) 79 (fun γ=>frV g V q S.e S.st.rev D S.ch γ) [5,12,13] (fun p γ j=>oR z g V fb wv H x n q S D p γ j) ⟨none,none,false,zA,x⟩ H0.drew ?_ ?_
 · clear H0;refine⟨?_,?_,?_,?_,?_,?_,?_,?_,?_,?_,?_,?_,?_,?_,?_,trivial⟩
   · exact ok0 0 3 0 rfl fun _=>rfl
   · exact ok1 0 3 0 35 rfl rfl (fun _ _ h=>h) fun _=>rfl
   · exact ok1 0 3 1 36 rfl rfl (fun _ _ h=>h) fun _=>rfl
   · refine okQ 0 3 fun p γ s j P o a c=>?_;obtain⟨u1,l,rfl⟩:=c.g 2 37 rfl rfl;have hc:=a.c0;simp [go_sem,Oper.wp,execOp,Act.eval,l,hc];exact⟨_,rfl,γ,fun _ _ _ h=>h,rfl,a⟩
   · refine okQ 0 3 fun p γ s j P o a c=>?_;have l:=c.k 6 rfl;obtain⟨bn,bo,bp,bq,br,bs,bt,bu,bv,bw,F1,F4,F5,F6⟩:=Blk.c14 (a.q);simp [go_sem,Oper.wp,execOp,Act.eval,l,bn,bo,bp,bq,br,bs,bt,bu,bv,bw,F1,F4,F5,F6];exact⟨_,rfl,γ,fun _ _ _ h=>h,rfl,a⟩
   · refine .inl ⟨0,rfl,fun γ s j a c=>aJ rfl ?_⟩;obtain⟨u1,l,rfl⟩:=c.g 3 38 rfl rfl;obtain⟨u2,K,rfl⟩:=c.g 4 39 rfl rfl;simp [go_sem,Oper.wp,execOp,Act.eval,l,K];obtain⟨b5,hA⟩:=a.h0 rfl;refine (aC.z j γ a).mono ?_;rintro e w' ⟨dx,U,rfl,b4⟩;exact⟨_,rfl,_,M0 b5 dx U,⟨rfl,rfl⟩,b4⟩
   · refine okQ 0 3 fun p γ s j P o a c=>?_;obtain⟨u1,l,Em,rfl⟩:=c.g 5 40 rfl rfl;simp [go_sem,Oper.wp,execOp,Act.eval,l];exact⟨_,rfl,γ,fun _ _ _ h=>h,⟨Em,rfl⟩,a⟩
   · refine okQ 0 3 fun p γ s j P o a c=>?_;obtain⟨u1,l,Em,rfl⟩:=c.g 6 34 rfl rfl;simp [go_sem,Oper.wp,execOp,Act.eval,l];exact⟨_,rfl,γ,fun _ _ _ h=>h,rfl,a⟩
   · refine okQ 0 3 fun p γ s j P o a c=>?_;obtain⟨u1,l,Em,rfl⟩:=c.g 6 34 rfl rfl;simp [go_sem,Oper.wp,execOp,Act.eval,l];exact⟨_,rfl,γ,fun _ _ _ h=>h,⟨Em,rfl⟩,a⟩
   · refine okQ 0 3 fun p γ s j P o a c=>?_;obtain⟨u1,l,Em,rfl⟩:=c.g 6 34 rfl rfl;simp [go_sem,Oper.wp,execOp,Act.eval,l];exact⟨_,rfl,γ,fun _ _ _ h=>h,rfl,a⟩
   · refine okQ 0 1 fun p γ s j P o a c=>?_;simp [go_sem,Oper.wp,execOp,Act.eval];exact⟨_,rfl,_,PY _,⟨_,rfl,rfl⟩,a.OR (by omega)⟩
   · refine okQ 0 1 fun p γ s j P o a c=>?_;simp [go_sem,Oper.wp,execOp,Act.eval];exact⟨_,rfl,_,PZ _,⟨_,rfl,rfl⟩,a.OS (by omega)⟩
   · refine .inl ⟨1,rfl,fun γ s j a c=>aJ rfl ?_⟩;obtain⟨u1,l,r1,aP,rfl⟩:=c.g 10 8 rfl rfl;obtain⟨u2,K,rfl⟩:=c.g 7 41 rfl rfl;have B:Blk j r1 93 #[(0:Int),(0:Int)]:=(a.r r1 aP).2;obtain⟨z0,z1⟩:=Blk.z2 (B);obtain⟨c0,c1⟩:=Blk.c2 (B);have a5:=a.BI aP (aK (aK (bP j r1) 0 (.int .i64 S.e)) 1 (.int .i64 S.st.rev)) (Blk.eq ((B.set 0 (.int .i64 S.e)).set 1 (.int .i64 S.st.rev)) rfl);clear B a;simp [go_sem,Oper.wp,execOp,Act.eval,l,K,c0,c1,z0,z1];exact⟨.int .i64 0,γ,fun _ _ _ h=>h,trivial,a5⟩
   · refine .inl ⟨2,rfl,fun γ s j a c=>aJ rfl ?_⟩;obtain⟨u1,l,d1,aO,rfl⟩:=c.g 11 9 rfl rfl;obtain⟨u2,K,bS,rfl⟩:=c.g 8 42 rfl rfl;have B:Blk j d1 95 eS:=(a.d d1 aO).2;obtain⟨z0,z1,z2,z3,z4,z5,z6,z7⟩:=Blk.z8 (B);obtain⟨c0,c1,c2,c3,c4,c5,c6,c7⟩:=Blk.c8 (B);have a5:=a.ML aO (aK (aK (aK (aK (aK (aK (aK (aK (bP j d1) 0 (.int .i64 D.from_)) 1 (.int .i64 D.to_)) 2 (.slice γ.dx.aj γ.dx.nj γ.dx.cj)) 3 (.slice γ.dx.an γ.dx.nn γ.dx.cn)) 4 (.slice γ.dx.al γ.dx.nl γ.dx.cl)) 5 (.slice γ.dx.agj γ.dx.ngj γ.dx.cgj)) 6 (.slice γ.dx.agn γ.dx.ngn γ.dx.cgn)) 7 (.slice γ.dx.agl γ.dx.ngl γ.dx.cgl)) (Blk.eq ((((((((B.set 0 (.int .i64 D.from_)).set 1 (.int .i64 D.to_)).set 2 (.slice γ.dx.aj γ.dx.nj γ.dx.cj)).set 3 (.slice γ.dx.an γ.dx.nn γ.dx.cn)).set 4 (.slice γ.dx.al γ.dx.nl γ.dx.cl)).set 5 (.slice γ.dx.agj γ.dx.ngj γ.dx.cgj)).set 6 (.slice γ.dx.agn γ.dx.ngn γ.dx.cgn)).set 7 (.slice γ.dx.agl γ.dx.ngl γ.dx.cgl)) rfl);clear B a;simp [go_sem,Oper.wp,execOp,Act.eval,l,K,c0,c1,c2,c3,c4,c5,c6,c7,z0,z1,z2,z3,z4,z5,z6,z7];exact⟨.int .i64 0,γ,fun _ _ _ h=>h,trivial,a5⟩
   · exact ok1 0 3 9 43 rfl rfl (fun _ _ h=>h) fun _=>rfl
 intro γ s wy hd;have o:=hd.ph;obtain⟨fv,rfl,ap⟩:=hd.frame [35,36,37,38,39,40,34,41,42,43,8,9,10] rfl;obtain⟨ag,eR,h8⟩:=ap 10 _ 8 rfl rfl;obtain⟨DD,eD,h9⟩:=ap 11 _ 9 rfl rfl;have aQ:fv 10 = .bool S.ch:=ap 14 _ 10 rfl rfl;clear hd ap H0 aC;simp only [foldl_cons,foldl_nil,setIfInBounds_toArray,set_cons_succ,set_cons_zero,h8,h9,aQ];clear h8 h9 aQ;obtain⟨hA,ba⟩:=o.h1 (by decide);have aq:Blk wy ag 93 #[S.e,S.st.rev]:=(o.r ag eR).2;have aZ:Blk wy DD 95 (dC D γ.dx):=(o.d DD eD).2;have bd:=o.q;have aH:=ω (aF.trans o.tw);have HR:=ω (vw g (1+k*4) 61 _ (wv k) _ S.e S.st.rev wy hA.blk (by decide) (jy c) (hA.wait k c) (by have:=Hl.z k c; omega));obtain⟨r0,r1⟩:=Blk.c2 (aq);have b3:=aq.lt;have X:=ω hA;have aI:=ω ba;have a2:=ω aq;have a0:=ω aZ;have a1:=ω bd;clear o hA ba aq aZ bd H3 aF eR eD
 go_wp2_with fail
 refine HR.mono ?_;rintro e u a;have aX:=a.del X.z c aI.z;obtain⟨rfl,au,h5,t5⟩:=a.hub X.z c;have h5:cK u g V fb au (upd H.cs k (iV S.e S.st.rev (H.cs k))) S.st γ.x S.now:=h5;have OT:=t5.gr.blk a2.z (X.K1 a2.z (by decide) (by decide) (by decide) (by decide));have OU:=t5.gr.blk a1.z (X.K1 a1.z (by decide) (by decide) (by decide) (by decide));have OV:=t5.gr.blk a0.z (X.K1 a0.z (by decide) (by decide) (by decide) (by decide));have T5:=aH.trans t5;have a8:=ω aX;have v:=ω h5;have aa:=ω T5;have aD:oK wb w g V fb wv:=bj.z;have aw:=ω (aD.to T5);have OW:=ω OT;have J:=ω OU;have a9:=ω OV;have bQ:=OT.lt;have bN:=OU.lt;have bL:=OV.lt
 have bh:(iV S.e S.st.rev (H.cs k)).waits.length<=35184371100000:=by
  have l:=Hl.z k c;have K:=pW 3 4 (gP S.e S.st.rev).1.data.toList (by have:=nV S.e S.st.rev; simp; omega)
  show ((H.cs k).waits ++ pR 3 4 _).length<=_
  rw [List.length_append]; omega
 have a3:=ω bh;clear a h5 t5 OT OU OV T5 aX aD bh HR r0 r1 b3 X aI a2 a0 a1 aH;by_cases C:S.e=0/\oE q
 · have aV:tW tl:=Ht.resolve_left (fun h=>h.2 C.2);have y:S.ch=false:=by rw [<- Y.z]; exact K6 C.2
   have bg:ByteRow u (au k) (iV S.e S.st.rev (H.cs k)).waits:=by have:=v.wait k c; rwa [bI] at this
   have af:=ω (aV g (1+k*4) V 61 _ (au k) _ S.st γ.x S.now u v.blk (by decide) AO (jy c) bg (by have:=a3.z; omega) v.srv aw.at_);have r0:ζ u ag 0 (.int .i64 0):=by rw [<- C.1]; exact OW.cell 0
   obtain⟨AC,aR⟩:∃ AC,jr tl q S (H.cs k)=AC:=⟨_,rfl⟩;have b7:=ω aR;have HE:=ω C;rw [y];clear aV bg aR;rcases C.2 with O | O
   all_goals clear C
   · have q0:ζ u n 0 (.int .i64 8):=by rw [<- O]; exact J.cell 0
     have ab:=ω O;have az:=ω y;clear O y
     go_wp2_with fail
     refine af.mono ?_;rintro e I ad;obtain⟨rfl,a7,m,T⟩:=ad.hub v.z c;rw [nM] at m;simp only [bI] at m;have L:=T.gr.blk J.z (v.K1 J.z (by decide) (by decide) (by decide) (by decide));have q6:ζ I n 0 (.int .i64 8):=by rw [<- ab.z]; exact L.cell 0
     have b2:=L.lt;have y6:ζ I g (1+k*4+2) (.bool (H.cs k).aG):=by rw [m.blk.cell,qw c,bI]; rfl
     have z6:κ I g (1+k*4+2):=m.blk.thaw _;have b1:=m.blk.lt;have H6:=ω m;have ay:=ω (aa.trans T);clear ad m T L af r0 q0
     have bG:φ (∀ b,b=((H.cs k).aG || decide (q.kind=9))->kX g V fb wv (lU tl H k q) (.tuple #[]) w (.returned (.tuple #[])) (sQ I g (1+k*4+2) (.bool b))):=ω fun b G=>by
      obtain⟨h7,g7⟩:=H6.set1 c b;refine⟨rfl,a7,γ.x,?_,ay.gr_ g7⟩;unfold lU;dsimp only;rw [Y.z,if_neg (by rw [az.z]; decide)];dsimp only;unfold jr;rw [if_pos HE.z];subst G;exact h7
     cases R:(H.cs k).aG
     all_goals
      rw [R] at y6;have F:=ω (bG.z _ (by rw [R,ab.z]));clear R bG;go_wp2;go_end0;exact F
   · have q0:ζ u n 0 (.int .i64 9):=by rw [<- O]; exact J.cell 0
     have ab:=ω O;have az:=ω y;clear O y
     go_wp2_with fail
     refine af.mono ?_;rintro e I ad;obtain⟨rfl,a7,m,T⟩:=ad.hub v.z c;rw [nM] at m;simp only [bI] at m;have L:=T.gr.blk J.z (v.K1 J.z (by decide) (by decide) (by decide) (by decide));have q6:ζ I n 0 (.int .i64 9):=by rw [<- ab.z]; exact L.cell 0
     have b2:=L.lt;have y6:ζ I g (1+k*4+2) (.bool (H.cs k).aG):=by rw [m.blk.cell,qw c,bI]; rfl
     have z6:κ I g (1+k*4+2):=m.blk.thaw _;have b1:=m.blk.lt;have H6:=ω m;have ay:=ω (aa.trans T);clear ad m T L af r0 q0
     have bG:φ (∀ b,b=((H.cs k).aG || decide (q.kind=9))->kX g V fb wv (lU tl H k q) (.tuple #[]) w (.returned (.tuple #[])) (sQ I g (1+k*4+2) (.bool b))):=ω fun b G=>by
      obtain⟨h7,g7⟩:=H6.set1 c b;refine⟨rfl,a7,γ.x,?_,ay.gr_ g7⟩;unfold lU;dsimp only;rw [Y.z,if_neg (by rw [az.z]; decide)];dsimp only;unfold jr;rw [if_pos HE.z];subst G;exact h7
     cases R:(H.cs k).aG
     all_goals
      rw [R] at y6;have F:=ω (bG.z _ (by rw [R,ab.z]));clear R bG;go_wp2;go_end0;exact F
 · have aW:jr tl q S (H.cs k)=iV S.e S.st.rev (H.cs k):=by unfold jr; rw [if_neg C]
   have av:=ω aW;have ax:=ω C;clear aW C;have r0:ζ u ag 0 (.int .i64 S.e):=OW.cell 0;have q0:ζ u n 0 (.int .i64 q.kind):=J.cell 0
   have N:φ (S.ch=false->kX g V fb wv (lU tl H k q) (.tuple #[]) w (.returned (.tuple #[])) u):=ω fun y=>by
    refine⟨rfl,au,γ.x,?_,aa⟩;unfold lU;dsimp only;rw [Y.z,if_neg (by rw [y]; decide),av.z];exact v
   have M:φ (S.ch=true->ψ 40 #[π g 0,.agg #[D.from_,D.to_,.slice γ.dx.aj γ.dx.nj γ.dx.cj,.slice γ.dx.an γ.dx.nn γ.dx.cn,.slice γ.dx.al γ.dx.nl γ.dx.cl,.slice γ.dx.agj γ.dx.ngj γ.dx.cgj,.slice γ.dx.agn γ.dx.ngn γ.dx.cgn,.slice γ.dx.agl γ.dx.ngl γ.dx.cgl]] u (kX g V fb wv (lU tl H k q) (.tuple #[]) w)):=ω fun y=>by
    have aU:eE H.st S.st=D:=by have:=aB.z; rwa [if_pos y] at this
    have bJ:D.from_=H.st.rev:=by rw [<- aU]; rfl
    have bR:=aM.1 (cV.1 bk.z).1;refine (Eo tl (H:=⟨S.st,S.now,upd H.cs k (iV S.e S.st.rev (H.cs k))⟩) u D γ.dx v.z aw.z a8.z (by omega) (by omega) ?_ ?_).mono ?_
    · rcases Ht.z with h | h
      · refine .inl fun i hi=>?_
        show (upd H.cs k _ i).aG=false
        by_cases e:i=k
        · subst e; rw [bI]; exact h.1 i hi
        · rw [upd_ne _ _ e]; exact h.1 i hi
      · exact .inr h
    · intro i hi
      show (upd H.cs k _ i).waits.length<=_
      by_cases e:i=k
      · subst e; rw [bI]; have:=a3.z; omega
      · rw [upd_ne _ _ e]; have:=Hl.z i hi; omega
    · rintro e w' ⟨he,b6,U,l,K⟩;refine⟨he,b6,U,?_,aa.trans K⟩;unfold lU;dsimp only;rw [Y.z,if_pos y,av.z,aU];exact l
   clear a8 v aa aw OW J a3 Ht bl Hl aB Y av;obtain⟨b9,bA,bB,bC,bD,bE,bF,bH⟩:=Blk.c8 (a9.z);clear a9;obtain⟨E,ai⟩:∃ E,S.e=E:=⟨_,rfl⟩;obtain⟨CH,aS⟩:∃ CH,S.ch=CH:=⟨_,rfl⟩;obtain⟨Z,ak⟩:∃ Z,q.kind=Z:=⟨_,rfl⟩;rw [aS] at N M |-;rw [ai] at r0;rw [ak] at q0
   have bx:(E=0/\Z≠8/\Z≠9)\/E≠0:=by
    by_cases e:E=0
    · refine .inl ⟨e,fun h=>ax.z ⟨by rw [ai,e],.inl (by rw [ak,h])⟩,fun h=>ax.z ⟨by rw [ai,e],.inr (by rw [ak,h])⟩⟩
    · exact .inr e
   clear ai aS ak ax;rcases bx with ⟨rfl,h8,h9⟩ | bb
   · have d8:(Z == 8)=false:=by simpa using h8
     have d9:(Z == 9)=false:=by simpa using h9
     clear h8 h9;cases CH
     · have F:=ω (N.z rfl);clear N M;go_wp2;go_end0;exact F
     · have F:=ω (M.z rfl);clear N M
       go_wp2_with fail
       refine F.mono ?_;rintro e w' a;have a4:=ω a;obtain⟨rfl,_⟩:=a;clear F;go_wp2;go_end0;exact a4
   · have d0:(E == 0)=false:=by simpa using bb
     clear bb;cases CH
     · have F:=ω (N.z rfl);clear N M;go_wp2;go_end0;exact F
     · have F:=ω (M.z rfl);clear N M
       go_wp2_with fail
       refine F.mono ?_;rintro e w' a;have a4:=ω a;obtain⟨rfl,_⟩:=a;clear F;go_wp2;go_end0;exact a4
theorem kX.after {g V:Nat} {fb:Nat->Nat} {wv b:Nat->Value} {H:cX} {r:Value} {w a w':World} {e:Ending} (t:dS g V fb wv b w a) (h:kX g V fb b H r a e w'):kX g V fb wv H r w e w':=by
 obtain⟨c,i,j,d,f⟩:=h;exact⟨c,i,j,d,t.trans f⟩
theorem Ge (tl:ah->List UInt8) (rq:ByteArray->aL × Int) {g V k:Nat} {fb:Nat->Nat} {wv:Nat->Value} {H:cX} {x:StA} {wb:World} (w:World) (f:cL) (o:cK w g V fb wv H.cs H.st x H.now) (r:k<8) (B:oK wb w g V fb wv)
 (y:f.ver=3->f.kind=3->∀ W,Tabs W->ψ 36 #[f.pay] W (tq (rq f.pay).1 (rq f.pay).2 W)) (C:ROk (rq f.pay).1) (aa:M4 (rq f.pay).1 H.st H.now) (F:((∀ i,i<8->(H.cs i).aG=false)/\¬ oE (rq f.pay).1)\/tW tl) (O:∀ st,(tl st).length<=7000) (s:∀ i,i<8->(H.cs i).waits.length<=35184371000000) :
 ψ 17 #[π g 0,π g (1+k*4),.agg #[(f.ver:Int),(f.kind:Int),f.pay]] w (kX g V fb wv (jq tl rq H k f) (.tuple #[]) w):=by
 obtain⟨h,z,a⟩:=f;dsimp only at y C aa F |-;by_cases hg:h=3/\z=3
 · obtain⟨rfl,rfl⟩:=hg;by_cases j:(rq a).2=0
   · have v:=y rfl rfl;rw [j] at v;have e:jq tl rq H k ⟨3,3,a⟩=lU tl H k (rq a).1:=by unfold jq; rw [if_neg (by simp),if_neg (by simpa using j)]
     rw [e];exact K7 tl w a (rq a).1 o r B v C aa F O s
   · have e:jq tl rq H k ⟨3,3,a⟩=jQ H k (rq a).2:=by unfold jq; rw [if_neg (by simp),if_pos j]
     rw [e];obtain⟨W,b⟩:∃ W,w.alloc (.cells #[(3:Int),(3:Int),a] 69)=W:=⟨_,rfl⟩;have d:Below w w W:=by rw [<- b]; exact (θ).alloc lQ _
     have c:Blk W w 69 #[(3:Int),(3:Int),a]:=by rw [<- b]; exact n5 w _
     have I:=ω (y rfl rfl W (B.more d).at_);have c0:ζ W w 0 (.int .i64 3):=c.cell 0;have K:ζ W w 1 (.int .i64 3):=c.cell 1;have c2:ζ W w 2 (.string a):=c.cell 2;have ac:=c.lt;obtain⟨q,v⟩:∃ q,(rq a).1=q:=⟨_,rfl⟩;obtain⟨E,L⟩:∃ E,(rq a).2=E:=⟨_,rfl⟩;rw [v,L] at I;rw [L] at j |-;have Y:(E != 0)=true:=bne_iff_ne.2 j;have n:=ω b;have X:=ω (o.below d);have m:=ω ((dS.refl g V fb wv w).below_ d);have Hl:=ω (s k r);clear d c b o B y s F O C v L j e;go_enter Tryz.func17,Tryz.ntmps17
     go_wp2_with fail
     try simp only [n.z]
     clear n;refine I.mono ?_;rintro Z T ⟨rfl,M⟩;obtain⟨G,R⟩:∃ G,T.alloc (.cells (aT q) 88)=G:=⟨_,rfl⟩;have N:Below T T G:=by rw [<- R]; exact (θ).alloc lQ _
     have l:=ω (xY G ((X.below M).below N) r E (by have:=Hl.z; omega));have U:=ω ((m.below_ M).below_ N);have J:=ω R;clear R M N X m I c0 K c2;unfold bO;unfold aT at J |-
     go_wp2_with fail
     simp only [J.z];clear J;refine l.mono ?_;rintro Z w4 u;have P:=ω (u.after U.z);obtain⟨rfl,_⟩:=u;clear l U;go_wp2;go_end0;exact P
 · have e:jq tl rq H k ⟨h,z,a⟩=jQ H k 1:=by unfold jq; rw [if_pos (by dsimp only; omega)]
   rw [e];obtain⟨W,b⟩:∃ W,w.alloc (.cells #[(h:Int),(z:Int),a] 69)=W:=⟨_,rfl⟩;have d:Below w w W:=by rw [<- b]; exact (θ).alloc lQ _
   have c:Blk W w 69 #[(h:Int),(z:Int),a]:=by rw [<- b]; exact n5 w _
   obtain⟨c0,K⟩:=Blk.c2 (c);have ac:=c.lt;have l:=ω (xY W (o.below d) r 1 (by have:=s k r; omega));have m:=ω ((dS.refl g V fb wv w).below_ d);have n:=ω b
   have ab:((h:Int) != 3)=true\/(((h:Int) != 3)=false/\((z:Int) != 3)=true):=by
    by_cases hv:h=3
    · subst hv;exact .inr ⟨rfl,bne_iff_ne.2 (by omega)⟩
    · exact .inl (bne_iff_ne.2 (by omega))
   clear d c b o B y s F O C e hg;rcases ab with Y | ⟨Y,d1⟩
   all_goals
    go_enter Tryz.func17,Tryz.ntmps17
    go_wp2_with fail
    try simp only [n.z]
    clear n;refine l.mono ?_;rintro Z w4 u;have P:=ω (u.after m.z);obtain⟨rfl,_⟩:=u;clear l m c0 K;go_wp2;go_end0;exact P
def M6 (tl:ah->List UInt8) (rq:ByteArray->aL × Int) (g V:Nat) (fb:Nat->Nat) (wv:Nat->Value) (k:Nat) (H:cX) (a:List cL) (n:Nat) (w:World) (i:Value) (wr:World):Prop:=
 ∃ m b c,m<=n/\i = .int .i64 ((m:Nat):Int)/\cK wr g V fb b (cC tl rq k H (a.take m)).cs (cC tl rq k H (a.take m)).st c (cC tl rq k H (a.take m)).now/\dS g V fb wv b w wr
def Ep (g V:Nat) (fb:Nat->Nat) (wv:Nat->Value) (H:cX) (k:Nat) (w:World) (e:Ending) (w':World):Prop:=
 e = .returned (.tuple #[(BA (H.cs k).waits),(0:Int)])/\∃ a b,cK w' g V fb a (oF H k).cs H.st b H.now/\dS g V fb wv a w w'
theorem cK.flush {w:World} {g V k:Nat} {fb:Nat->Nat} {wv:Nat->Value} {cs:Nat->bE} {st:ah} {x:StA} {now:Int} (h:cK w g V fb wv cs st x now) (a:k<8) :
 cK (sQ w g (1+k*4+3) (.slice none 0 0)) g V fb (upd wv k (.slice none 0 0)) (upd cs k (xI (cs k))) st x now/\dS g V fb wv (upd wv k (.slice none 0 0)) w (sQ w g (1+k*4+3) (.slice none 0 0)):=by
 obtain⟨b,d⟩:=h.cell a (j:=1+k*4+3) (u:=.slice none 0 0) (c:=xI (cs k)) (v:=.slice none 0 0) (uF a _ _ rfl rfl) rfl rfl rfl (.inr ⟨rfl,rfl⟩);refine⟨b,d,fun i f=>?_⟩;by_cases e:i=k
 · subst e; rw [bI]; exact .inl rfl
 · rw [upd_ne _ _ e]; exact .inr (.inl rfl)
theorem M7 (e:Nat):(((if e=3 then 0 else e):Nat):Int)=if e=3 then 0 else (e:Int):=by split <;> rfl
theorem Jl (tl:ah->List UInt8) (rq:ByteArray->aL × Int) {g V k:Nat} {fb:Nat->Nat} {wv:Nat->Value} {H:cX} {x:StA} {wb:World} {s:ByteArray} {a:List cL} {m e:Nat} (w:World) (p:ByteArray) (hs:(H.cs k).rest ++ p=s) (hF:Frs s a m e) (I:cK w g V fb wv H.cs H.st x H.now) (d:k<8) (hI:oK wb w g V fb wv)
 (hc:(H.cs k).closed=false) (aN:(H.cs k).stuck=0) (aO:s.size<=2097152) (M8:(H.cs k).far<=2097152)
 (aM:∀ f ∈ a,f.ver=3->f.kind=3->∀ aq,Tabs aq->ψ 36 #[f.pay] aq (tq (rq f.pay).1 (rq f.pay).2 aq)) (aK:∀ f ∈ a,ROk (rq f.pay).1) (aC:∀ n f,a[n]? = some f->M4 (rq f.pay).1 (cC tl rq k { H with cs:=upd H.cs k (nX (H.cs k) s m e) } (a.take n)).st (cC tl rq k { H with cs:=upd H.cs k (nX (H.cs k) s m e) } (a.take n)).now) (ht:((∀ i,i<8->(H.cs i).aG=false)/\∀ f ∈ a,¬ oE (rq f.pay).1)\/tW tl) (aP:∀ st,(tl st).length<=7000) (hl:∀ i,i<8->(H.cs i).waits.length<=35000000000000) :
 ψ 9 #[π g 0,(k:Int),p] w (Ep g V fb wv (je tl rq H k s a m e) k w):=by
 have HO:=ω (Gf g k w d);have Hh:=ω I;have HI:=ω hI;have HF:=ω hF;have Hs:=ω hs;have bb:=ω aM;have ba:=ω aK;have aW:=ω aC;have Ht:=ω ht;have ap:=ω aP;have Hl:=ω hl;have Hc:=ω hc;have bc:=ω aN;have aF:a.length<=2097152:=by have:=hF.facts; omega
 have am:=ω aF;have bd:=ω aO;have aX:=ω M8;clear I hI hF hs aM aK aC ht aP hl hc aN aF aO M8;go_enter Tryz.func9,Tryz.ntmps9
 go_wp2_with fail
 refine HO.mono ?_;rintro x0 w1 ⟨rfl,ad⟩;have O:=Hh.below ad;have y0:ζ w1 g (1+k*4) (π (fb k) 0):=by rw [O.blk.cell]; exact Jm d
 have B:ζ w1 g (1+k*4+1) (.bool false):=by rw [O.blk.cell,lX d,Hc.z]
 have ay:=O.blk.lt;have aD:lS w1 (fb k) (H.cs k).rest ((H.cs k).far:Int) 0:=by have:=O.feed k d; rw [bc.z] at this; exact this
 have HP:=ω (K8 w1 Hs.z HF.z aD bd.z aX.z);have L:=ω O;have al:=ω ((dS.refl g V fb wv w).below_ ad);have aT:=ω (HI.more ad);clear O ad HO Hh aD
 go_wp2_with fail
 refine HP.mono ?_;rintro x0 K ⟨A,n,c,rfl,az,ag,aH,aE⟩
 obtain⟨aa,ar⟩:=L.pushed d (c:=nX (H.cs k) s m e) aH (by
  show lS K (fb k) _ (((H.cs k).far+m:Nat):Int) (((if e=3 then 0 else e):Nat):Int)
  rw [M7,Int.natCast_add]; exact aE) rfl rfl rfl
 obtain⟨W,a6,a7⟩:∃ W,(0<n->A=some ⟨W,0,none⟩/\¬ sZ g V fb wv W/\W<K.heap.size)/\bg K K 3 A n (au zx a):=by
  rcases ag.2 with ⟨hv,hn⟩ | ⟨q,bi,bj,hv,hq,be,_⟩
  · exact⟨0,fun bq=>by omega,cS ag⟩
  · refine⟨q,fun _=>⟨by injection hv,fun hS=>?_,(Array.getElem?_eq_some_iff.1 be).1⟩,cS ag⟩;rcases hS with e | e | ⟨i,T,e | e⟩
    · have:=L.blk.lt; omega
    · have:=L.srv.blk.lt; omega
    · have:=Blk.lt (L.feed i T); omega
    · obtain⟨c',b,_⟩:=(L.wait i T).blk e;have:=b.lt; omega
 obtain⟨h,av⟩:∃ h:cX,(⟨H.st,H.now,upd H.cs k (nX (H.cs k) s m e)⟩:cX)=h:=⟨_,rfl⟩;have aa:cK K g V fb wv h.cs h.st x h.now:=by rw [<- av]; exact aa
 have aR:=ω aa;have aV:=ω (al.gr_ ar);have aU:=ω (HI.to (al.gr_ ar));have ac:=ω av;have ao:=ω az;have aS:=ω a6;have a3:=ω a7;have br:n<=2097152:=by rw [<- az]; exact am
 obtain⟨E,J⟩:∃ E:Int,(if e=3 then 0 else (e:Int))=E:=⟨_,rfl⟩;rw [J];have HE:=ω J;have bm:=aa.blk.lt;clear aa ar aH aE ag av az a6 a7 J HP L al aT y0 B ay;go_wp2
 go_loopw [35] (fun i wr=>M6 tl rq g V fb wv k h a n K i wr) (fun i _=>n - (intOf i).toNat)
 case atStart=>exact⟨0,wv,x,Nat.zero_le _,rfl,aR,dS.refl _ _ _ _ _⟩
 case round=>
  obtain⟨o,ab,x',hj,rfl,F,R⟩:=hrel;obtain⟨j,aw⟩:∃ j,cC tl rq k h (a.take o)=j:=⟨_,rfl⟩;rw [aw] at F;have M:=ω aw;clear aw;have B:ζ wr g (1+k*4+1) (.bool (j.cs k).closed):=by rw [F.blk.cell]; exact lX d
  have ay:=F.blk.lt;by_cases hlt:o<n
  · obtain⟨f,hf⟩:∃ f,a[o]? = some f:=⟨_,δ (by rw [ao.z]; exact hlt)⟩;have af:=m8 hf;obtain⟨a5,aJ,a8⟩:=aS.z (by omega)
    have aA:bg wr K 3 A n (au zx a):=⟨a3.len,fun hn=>by
     obtain⟨Z,aQ,G,hB,hr⟩:=a3.at_ hn;have e2:Z=W:=by rw [a5] at G; injection G with G; injection G with G; exact G.symm
     subst e2;exact⟨Z,aQ,G,hB,fun o bh hu=>(World.cell?_of_block (R.gr.block Z a8 aJ)).trans (hr o bh hu)⟩⟩
    obtain⟨Z,aQ,rfl,bk,l⟩:=aA.dL qJ ao.z hf;have a0:=ru (tl:=tl) (rq:=rq) (k:=k) (H:=h) hf;rw [M.z] at a0;have bf:=R.gr.size;obtain⟨u,ai⟩:∃ u,wr.alloc (.cells #[(f.ver:Int),(f.kind:Int),f.pay] 69)=u:=⟨_,rfl⟩;have ae:Below wr wr u:=by rw [<- ai]; exact (θ).alloc lQ _
    have U:Blk u wr 69 #[(f.ver:Int),(f.kind:Int),f.pay]:=by rw [<- ai]; exact n5 wr _
    obtain⟨d0,d1,d2⟩:=rc3 l;have z1:ζ u g (1+k*4+1) (.bool (j.cs k).closed):=by rw [(F.blk.below ae ay).cell]; exact lX d
    have f0:ζ u wr 0 (.int .i64 (f.ver:Int)):=U.cell 0;have f1:ζ u wr 1 (.int .i64 (f.kind:Int)):=U.cell 1;have f2:ζ u wr 2 (.string f.pay):=U.cell 2;have bl:Z<wr.heap.size:=by omega
    have bp:=U.lt;have bo:o*3+3<=n*3:=by omega
    have z:=ω (R.below_ ae);have aj:=ω (F.below ae);have rE:=ω (nW (tl:=tl) (rq:=rq) (k:=k) ap.z (a.take o) h)
    have ak:=ω (show (j.cs k).closed=false->ψ 17 #[π g 0,π g (1+k*4),.agg #[(f.ver:Int),(f.kind:Int),f.pay]] u (kX g V fb ab (jq tl rq j k f) (.tuple #[]) u) from fun _=>by
     have P:=rE.z;rw [M.z] at P
     have aB:∀ i,(h.cs i).waits=(H.cs i).waits/\(h.cs i).aG=(H.cs i).aG:=fun i=>by
      rw [<- ac.z]
      show (upd H.cs k _ i).waits=_/\(upd H.cs k _ i).aG=_
      by_cases e:i=k
      · subst e; rw [bI]; exact⟨rfl,rfl⟩
      · rw [upd_ne _ _ e]; exact⟨rfl,rfl⟩
     refine Ge tl rq u f aj.z d (aU.to z.z) (bb.z f af) (ba.z f af) (by have b:=aW.z o f hf; rw [show ({ H with cs:=upd H.cs k (nX (H.cs k) s m e) }:cX)=h from ac.z,M.z] at b; exact b) ?_ ap.z (fun i T=>?_)
     · rcases Ht.z with ⟨b,r⟩ | b
       · refine .inl ⟨fun i T=>?_,r f af⟩;rw [P.2 (fun g hg=>r g (List.mem_of_mem_take hg)) i,(aB i).2];exact b i T
       · exact .inr b
     · have b:=P.1 i;have r:=Hl.z i T;rw [(aB i).1,List.length_take] at b;have h5:=am.z;have h6:min o a.length*21000<=2097152*21000:=Nat.mul_le_mul_right _ (by omega);omega)
    have N:=ω a0;have a4:=ω ai;clear F R aA l a0 ae U ai hf af rE a5 aJ a8 bf;cases l:(j.cs k).closed
    · have a2:=ω (ak.z l);rw [l] at B z1 N;rw [if_neg (by decide)] at N;clear ak l
      go_wp2_with fail
      try simp only [a4.z]
      refine a2.mono ?_;rintro x0 w4 hp;obtain⟨rfl,a1,x4,r,t4⟩:=hp;rw [<- N.z] at r;have H4:=ω r;have T4:=ω (z.trans t4);clear r t4 a2 d0 d1 d2 f0 f1 f2 B z1;go_wp2
      go_roundw
      case rel=>exact⟨o+1,a1,x4,by omega,by go_num,H4,T4⟩
      case measure=>simp [intOf]; omega
    · rw [l] at B z1 N;rw [if_pos rfl] at N;have H4:=ω (show cK u g V fb ab (cC tl rq k h (a.take (o+1))).cs (cC tl rq k h (a.take (o+1))).st x' (cC tl rq k h (a.take (o+1))).now from by rw [N.z]; exact aj);clear ak l aj;go_wp2
      try simp only [a4.z]
      go_roundw
      case rel=>exact⟨o+1,ab,x',by omega,by go_num,H4,z⟩
      case measure=>simp [intOf]; omega
  · obtain rfl:o=n:=by omega
    rw [List.take_of_length_le (by rw [ao.z]; omega)] at M
    have a9:je tl rq H k s a m e=if e≠3/\(j.cs k).closed=false then jQ j k e else j:=by
     unfold je;rw [show ({ H with cs:=upd H.cs k (nX (H.cs k) s m e) }:cX)=h from ac.z,M.z]
    have y:=ω a9;have v:=ω F;have Y:=ω (aV.trans R);have rE:=ω (nW (tl:=tl) (rq:=rq) (k:=k) ap.z a h)
    have aI:(j.cs k).waits.length<=35184372088832:=by
     have P:=rE.z.1 k;rw [M.z] at P;have b:(h.cs k).waits=(H.cs k).waits:=by rw [<- ac.z]; show (upd H.cs k _ k).waits=_; rw [bI]; rfl
     have r:=Hl.z k d;have h5:=am.z;rw [b] at P;have h6:a.length*21000<=2097152*21000:=Nat.mul_le_mul_right _ h5;omega
    have aZ:=ω aI;have ax:e≠0:=HF.facts.2.1;clear F R rE aI a9;by_cases b:e=3
    · have J:E=0:=by rw [<- HE.z,if_pos b]
      subst J;have y:=ω (show je tl rq H k s a m e=j from by rw [y.z,if_neg (fun I=>I.1 b)]);clear b ax B;have X:=ω (tX g (1+k*4) 61 _ (ab k) (j.cs k).waits wr v.blk (jy d) (v.wait k d));have C:=ω (v.flush d);have z:=ω (Y.trans C.z.2)
      go_wp2_with fail
      refine X.mono ?_;rintro x0 w5 ⟨rfl,rfl⟩;go_wp2;go_ret2;rw [y.z];exact⟨rfl,_,_,C.z.1,z⟩
    · have J:E=(e:Int):=by rw [<- HE.z,if_neg b]
      subst J;have d1:((e:Int) != 0)=true:=bne_iff_ne.2 (by omega);cases l:(j.cs k).closed
      · have y:=ω (show je tl rq H k s a m e=jQ j k e from by rw [y.z,if_pos ⟨b,l⟩]);have HC:=ω (xY wr v.z d (e:Int) aZ.z);rw [l] at B;clear b ax l
        go_wp2_with fail
        refine HC.mono ?_;rintro x0 w4 ⟨rfl,a1,x4,r,t4⟩;have v:=ω r;have Y:=ω (Y.trans t4);have bn:=r.blk.lt;clear r t4 HC B;have X:=ω (tX g (1+k*4) 61 _ (a1 k) ((jQ j k e).cs k).waits w4 v.blk (jy d) (v.wait k d));have C:=ω (v.flush d);have z:=ω (Y.trans C.z.2)
        go_wp2_with fail
        refine X.mono ?_;rintro x0 w5 ⟨rfl,rfl⟩;go_wp2;go_ret2;rw [y.z];exact⟨rfl,_,_,C.z.1,z⟩
      · have y:=ω (show je tl rq H k s a m e=j from by rw [y.z,if_neg (fun I=>by rw [l] at I; exact absurd I.2 (by decide))]);rw [l] at B;clear b ax l;have X:=ω (tX g (1+k*4) 61 _ (ab k) (j.cs k).waits wr v.blk (jy d) (v.wait k d));have C:=ω (v.flush d);have z:=ω (Y.trans C.z.2)
        go_wp2_with fail
        refine X.mono ?_;rintro x0 w5 ⟨rfl,rfl⟩;go_wp2;go_ret2;rw [y.z];exact⟨rfl,_,_,C.z.1,z⟩
end Go.Proofs.YtimglglgcgpjgabGreatDoor
