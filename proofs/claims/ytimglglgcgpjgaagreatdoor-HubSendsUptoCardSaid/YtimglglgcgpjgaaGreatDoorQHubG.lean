/- Of the proof of a statement: HubF, HubG. -/
import Derived.Test.YtimglglgcgpjgaaGreatDoorQDEnc
import Derived.Test.YtimglglgcgpjgaaGreatDoorQSvDo
set_option linter.unusedVariables false
set_option linter.unusedSimpArgs false
set_option maxRecDepth 100000
set_option maxHeartbeats 8000000
namespace Go.Proofs.YtimglglgcgpjgaaGreatDoor
open List (foldl_cons foldl_nil setIfInBounds_toArray set_cons_succ set_cons_zero)
open Go.RowKit
structure oM (w0 w:World) (g V:Nat) (fb:Nat->Nat) (wv:Nat->Value):Prop where
 base:Below w0 w0 w
 tabs:Tabs w0
 lo:∀ b,su g V fb wv b->w0.heap.size<=b
section
variable {w0 w w':World} {g V:Nat} {fb:Nat->Nat} {wv wv':Nat->Value}
theorem oM.to (h:oM w0 w g V fb wv) (d:dQ g V fb wv wv' w w'):oM w0 w' g V fb wv':=by
 have j:=h.base.size;refine⟨h.base.trans (d.gr.below h.lo j),h.tabs,fun b f=>?_⟩;rcases f with e | e | ⟨i,c,e | e⟩
 · exact h.lo b (.inl e)
 · exact h.lo b (.inr (.inl e))
 · exact h.lo b (.inr (.inr ⟨i,c,.inl e⟩))
 · rcases d.own i c with a | a | ⟨q,a,k⟩
   · rw [a] at e; cases e
   · rw [a] at e; exact h.lo b (.inr (.inr ⟨i,c,.inr e⟩))
   · rw [a] at e; injection e with e; omega
theorem oM.more (h:oM w0 w g V fb wv) (a:Below w w w'):oM w0 w' g V fb wv:=h.to ((dQ.refl g V fb wv w).below_ a)
theorem oM.at_ (h:oM w0 w g V fb wv):Tabs w:=h.tabs.below h.base
end
def M6 (q:aK) (st:ah) (now:Int):Prop:=∀ (x:StA) (V:Nat) (w:World),SrvAt w 106 V st x now->Tabs w ->
 ψ 43 #[π V 0,bP q] w (lL 106 V st (lO st now (lG st now q)) w)
theorem Ld {q:aK} (b:ROk q) (st:ah) (now:Int):M6 q st now:=fun x V w h a=>Jh q st x now V w h b a
theorem AN (tl:ah->List UInt8) (st:ah) (b:ByteArray) (e:Int) (cs:Nat->bf):jF tl st b e cs 0=cs:=by
 funext i; unfold jF; rw [if_neg (by omega)]
theorem om (tl:ah->List UInt8) (st:ah) (b:ByteArray) (e:Int) (cs:Nat->bf) (n:Nat):jF tl st b e cs n n=cs n:=by
 unfold jF; rw [if_neg (by omega)]
theorem rK (tl:ah->List UInt8) (st:ah) (b:ByteArray) (e:Int) (cs:Nat->bf) (n:Nat):jF tl st b e cs (n+1)=upd (jF tl st b e cs n) n (mD tl st b e (cs n)):=by
 funext i
 unfold jF upd;by_cases h:i=n
 · subst h; rw [if_pos (by omega),if_pos rfl]
 · rw [if_neg h];dsimp only;by_cases a:i<n
   · rw [if_pos a,if_pos (by omega)]
   · rw [if_neg a,if_neg (by omega)]
def PK (tl:ah->List UInt8) (g V:Nat) (fb:Nat->Nat) (wv:Nat->Value) (cs:Nat->bf) (st:ah) (x:StA) (now:Int) (b:ByteArray) (e:Int) (w:World) (i:Value) (wr:World):Prop:=
 ∃ n wv',n<=8/\i = .int .i64 ((n:Nat):Int)/\cJ wr g V fb wv' (jF tl st b e cs n) st x now/\dQ g V fb wv wv' w wr
theorem Ew (tl:ah->List UInt8) {g V:Nat} {fb:Nat->Nat} {wv:Nat->Value} {H:cL} {x:StA} {w0:World} (w:World) (D:aX) (dx:eF) (s:cJ w g V fb wv H.cs H.st x H.now) (T:oM w0 w g V fb wv) (hD:dz w w D dx) (ak : -9223372036854775808<=D.from_) (al:D.from_<=9223372036854775807)
 (ht:(∀ i,i<8->(H.cs i).aG=false)\/tV tl) (hl:∀ i,i<8->(H.cs i).waits.length<=35184372000000) :
 ψ 46 #[π g 0,.agg (dC D dx)] w (kT g V fb wv (mE tl H D) (.tuple #[]) w):=by
 obtain⟨W,X⟩:∃ W,w.alloc (.cells (dC D dx) 95)=W:=⟨_,rfl⟩;have v:Below w w W:=by rw [<- X]; exact (θ).alloc lJ _
 have hb:Blk W w 95 (dC D dx):=by rw [<- X]; exact n5 w _
 have C:=ω (DL D dx W (hD.upS v) ((T.more v).at_) ak al);obtain⟨c0,c1,c2,c3,c4,c5,c6,c7⟩:=Blk.c8 (hb);have aq:=hb.lt;have Z:=ω (s.below v);have HI:=ω (T.more v);have am:=ω T;have af:=ω ((dQ.refl g V fb wv w).below_ v);have Y:=ω X;have Hl:=ω hl;have Ht:=ω ht;have bE:φ (∀ wv' w',cJ w' g V fb wv' (jF tl H.st (mh D).1 (mh D).2 H.cs 8) H.st x H.now->dQ g V fb wv wv' w w'->kT g V fb wv (mE tl H D) (.tuple #[]) w (.returned (.tuple #[])) w'):=ω fun wv' w' h1 j=>⟨rfl,wv',x,h1,j⟩;have ad:=xL D;obtain⟨b,ac⟩:∃ b,(mh D).1=b:=⟨_,rfl⟩;obtain⟨E,ag⟩:∃ E,(mh D).2=E:=⟨_,rfl⟩;unfold lC at C;rw [ac,ag] at C bE;rw [ac] at ad;obtain⟨a,aa⟩:∃ a,H.cs=a:=⟨_,rfl⟩;obtain⟨d,aj⟩:∃ d,H.st=d:=⟨_,rfl⟩;obtain⟨l,ai⟩:∃ l,H.now=l:=⟨_,rfl⟩;rw [aa,aj,ai] at Z bE;rw [aa] at Ht Hl;have ap:=ω ad;clear s T hD ak al ht hl v hb X ac ag ad aa aj ai;unfold dC at C Y |-;go_enter Tryz.func46,Tryz.ntmps46
 go_wp2_with fail
 try simp only [Y.z]
 clear Y;refine C.mono ?_;rintro R w1 ⟨rfl,ab⟩;have H1:=ω (Z.below ab);have ao:=ω (af.below_ ab);clear ab C Z HI af c0 c1 c2 c3 c4 c5 c6 c7 aq;go_wp2
 go_loopw [6,7,13] (fun _ _ i wr=>PK tl g V fb wv a d x l b E w i wr) (fun _ _ i _=>8 - (intOf i).toNat)
 case atStart=>exact⟨0,wv,by omega,rfl,by rw [AN]; exact H1.z,ao⟩
 case round=>
  obtain⟨n,wv',hn,rfl,k,U⟩:=hrel;by_cases hlt:n<8
  · have y:ζ wr g (1+n*4+1) (.bool (a n).closed):=by rw [k.blk.cell,kA hlt,om]
    have O:ζ wr g (1+n*4+2) (.bool (a n).aG):=by rw [k.blk.cell,qm hlt,om]
    have au:=k.blk.lt;have o:=ω k;have P:=ω U
    have r:φ ((a n).closed=true\/(a n).aG=false->cJ wr g V fb wv' (jF tl d b E a (n+1)) d x l):=ω fun hc=>by
     have R:mD tl d b E (a n)=jF tl d b E a n n:=by rw [om]; unfold mD; rw [if_pos hc]
     rw [rK,R,qA];exact o
    have m:φ (∀ c,(a n).closed=false->(a n).aG=true->c=mD tl d b E (a n)->∀ M L,cJ L g V fb M (upd (jF tl d b E a n) n c) d x l->dQ g V fb wv' M wr L->cJ L g V fb M (jF tl d b E a (n+1)) d x l/\dQ g V fb wv M w L):=ω fun c _ _ hc M L h1 j=>by
     rw [rK,<- hc];exact⟨h1,P.trans j⟩
    have ae:ByteRow wr (wv' n) (a n).waits:=by have:=k.wait n hlt; rwa [om] at this
    have ar:(a n).waits.length<=35184372000000:=Hl.z n hlt;have G:φ (E=0->ψ 85 #[π g (1+n*4),(2:Int),b] wr (jE g (1+n*4+3) (wv' n) ((a n).waits ++ pT 3 2 b.data.toList) wr)):=ω fun _=>DI g (1+n*4) 60 _ (wv' n) _ 2 b wr o.blk (by decide) (jv hlt) ae (by omega) ap.z (by omega)
    have I:φ ((a n).aG=true->ψ 45 #[π g 0,π g (1+n*4)] wr (jE g (1+n*4+3) (wv' n) ((a n).waits ++ tl d) wr)):=ω fun hw=>by
     rcases Ht.z with s | s
     · rw [s n hlt] at hw; cases hw
     · exact s g (1+n*4) V 60 _ (wv' n) _ d x l wr o.blk (by decide) xI (jv hlt) ae (by omega) o.srv (am.to P.z).at_
    clear k U ae ar;cases e:(a n).closed
    · cases h:(a n).aG
      · have F:=ω (r.z (.inr h));rw [e] at y;rw [h] at O;clear e h r m G I;go_wp2
        go_roundw
        case rel=>exact⟨n+1,wv',by omega,by go_num,F.z,P.z⟩
        case measure=>simp [intOf]; omega
      · by_cases u:E=0
        · have F:=ω (G.z u);have z:=ω (m.z (uJ 2 b (a n)) e h (by unfold mD; rw [if_neg (by rw [e,h]; decide),if_pos u]));rw [e] at y;rw [h] at O;subst u;clear e h r m G I
          go_wp2_with fail
          refine F.mono ?_;rintro R w2 J;obtain⟨rfl,N,j,K⟩:=J.hub o.z hlt;rw [om] at j;have B:=ω (z.z N w2 j K);clear J j K F z y O;go_wp2
          go_roundw
          case rel=>exact⟨n+1,N,by omega,by go_num,B.z.1,B.z.2⟩
          case measure=>simp [intOf]; omega
        · have F:=ω (I.z h);have z:=ω (m.z (uD (tl d) (a n)) e h (by unfold mD; rw [if_neg (by rw [e,h]; decide),if_neg u]));have d1:(E == 0)=false:=by simpa using u
          rw [e] at y;rw [h] at O;clear e h r m G I u
          go_wp2_with fail
          refine F.mono ?_;rintro R w2 J;obtain⟨rfl,N,j,K⟩:=J.hub o.z hlt;rw [om] at j;have B:=ω (z.z N w2 j K);clear J j K F z y O;go_wp2
          go_roundw
          case rel=>exact⟨n+1,N,by omega,by go_num,B.z.1,B.z.2⟩
          case measure=>simp [intOf]; omega
    · have F:=ω (r.z (.inl e));rw [e] at y;clear e r m G I;go_wp2
      go_roundw
      case rel=>exact⟨n+1,wv',by omega,by go_num,F.z,P.z⟩
      case measure=>simp [intOf]; omega
  · obtain rfl:n=8:=by omega
    have HF:=ω (bE.z wv' wr k U);clear k U;go_wp2;go_end0;exact HF
theorem cJ.other {w w':World} {g V r:Nat} {fb:Nat->Nat} {wv:Nat->Value} {cs:Nat->bf} {st:ah} {x:StA} {now:Int} {t:TypeId} {c:Array Value} (h:cJ w g V fb wv cs st x now) (b:Blk w r t c) (s:gL c) (k:t ≠ 60) (l:t ≠ 106) (m:t ≠ 108) (n:t ≠ 5) (a:w.grownBy w' (some r)):cJ w' g V fb wv cs st x now:=
 ⟨ay a h.blk (bH h.blk b k.symm),⟨ay a h.srv.blk (bH h.srv.blk b l.symm),(h.srv.at_.fY b s a).more a.size,h.srv.ok,h.srv.t⟩,fun i d=>ay a (h.feed i d) (bH (h.feed i d) b m.symm),
  fun i d=>(h.wait i d).keep fun j o=>by
   obtain⟨u,f,_⟩:=(h.wait i d).blk o;exact a.block j f.lt (fun e=>by injection e with e; exact bH f b n.symm e),h.fbi,h.wvi⟩
theorem dQ.new {g V r:Nat} {fb:Nat->Nat} {wv wv':Nat->Value} {w f w':World} (h:dQ g V fb wv wv' w f) (d:f.grownBy w' (some r)) (k:w.heap.size<=r):dQ g V fb wv wv' w w':=
 ⟨h.gr.trans (Gr.mC (S:=fun b=>b=r) d fun b e=>by injection e with e; exact e.symm) fun b c e=>by omega,fun j i=>(h.own j i),fun b c a=>(h.far b c a).keep (d.block V (h.far b c a).1 (fun e=>by injection e with e; have:=a.1; omega)) d.size⟩
structure FrG where
 R:Option Nat
 D:Option Nat
 set:Bool
 dx:eF
 x:StA
def frV (g V:Nat) (q:aK) (E rev:Int) (D:aX) (ch:Bool) (γ:FrG):Nat->Value->Prop
 | 0,u=>u = π g 0
 | 1,u=>u = π g 0
 | 2,u=>u = π g 0
 | 3,u=>u = π V 0
 | 4,u=>u = .agg #[.int .i64 q.kind,.string q.job.name,.int .i64 q.job.prio,.int .i64 q.job.need,.int .i64 q.job.tries,.string q.job.tag,.string q.node.name,.int .i64 q.node.room,.string q.node.zone,.string q.lease.job,.string q.lease.node,.int .i64 q.lease.till,.string q.name,.int .i64 q.n]
 | 5,u=>γ.set=true/\u = .tuple #[.agg #[.int .i64 E,.int .i64 rev],.agg #[.int .i64 D.from_,.int .i64 D.to_,.slice γ.dx.aj γ.dx.nj γ.dx.cj,.slice γ.dx.an γ.dx.nn γ.dx.cn,.slice γ.dx.al γ.dx.nl γ.dx.cl,.slice γ.dx.agj γ.dx.ngj γ.dx.cgj,.slice γ.dx.agn γ.dx.ngn γ.dx.cgn,.slice γ.dx.agl γ.dx.ngl γ.dx.cgl],.bool ch]
 | 6,u=>γ.set=true/\u = .tuple #[.agg #[.int .i64 E,.int .i64 rev],.agg #[.int .i64 D.from_,.int .i64 D.to_,.slice γ.dx.aj γ.dx.nj γ.dx.cj,.slice γ.dx.an γ.dx.nn γ.dx.cn,.slice γ.dx.al γ.dx.nl γ.dx.cl,.slice γ.dx.agj γ.dx.ngj γ.dx.cgj,.slice γ.dx.agn γ.dx.ngn γ.dx.cgn,.slice γ.dx.agl γ.dx.ngl γ.dx.cgl],.bool ch]
 | 7,u=>u = .agg #[.int .i64 E,.int .i64 rev]
 | 8,u=>γ.set=true/\u = .agg #[.int .i64 D.from_,.int .i64 D.to_,.slice γ.dx.aj γ.dx.nj γ.dx.cj,.slice γ.dx.an γ.dx.nn γ.dx.cn,.slice γ.dx.al γ.dx.nl γ.dx.cl,.slice γ.dx.agj γ.dx.ngj γ.dx.cgj,.slice γ.dx.agn γ.dx.ngn γ.dx.cgn,.slice γ.dx.agl γ.dx.ngl γ.dx.cgl]
 | 9,u=>u = .bool ch
 | 10,u=>∃ r,γ.R=some r/\u = π r 0
 | 11,u=>∃ d,γ.D=some d/\u = π d 0
 | 14,u=>u = .bool ch
 | _,_=>True
section
variable {g V:Nat} {q:aK} {E rev:Int} {D:aX} {ch:Bool} {γ:FrG}
theorem M7 (b:γ.set=false) (dx:eF) (x:StA):∀ j v,j≠5->frV g V q E rev D ch γ j v->frV g V q E rev D ch { γ with set:=true,dx:=dx,x:=x } j v:=by
 intro j v a h;unfold frV at *
 split at h
 all_goals first | exact h | exact absurd rfl a | (rw [b] at h; exact absurd h.1 (by decide))
theorem PL (r:Nat):∀ j v,j≠10->frV g V q E rev D ch γ j v->frV g V q E rev D ch { γ with R:=some r } j v:=by
 intro j v a h;unfold frV at *
 split at h
 all_goals first | exact h | exact absurd rfl a
theorem PM (r:Nat):∀ j v,j≠11->frV g V q E rev D ch γ j v->frV g V q E rev D ch { γ with D:=some r } j v:=by
 intro j v a h;unfold frV at *
 split at h
 all_goals first | exact h | exact absurd rfl a
end
def rC (E rev:Int) (p:Nat):Array Value:=if p<2 then #[(0:Int),(0:Int)] else #[E,rev]
def deC (D:aX) (dx:eF) (p:Nat):Array Value:=if p<3 then eS else dC D dx
theorem M8 (E rev:Int) (p:Nat):gL (rC E rev p):=by
 unfold rC; split
 · exact gJ 0 0
 · exact gJ E rev
theorem Le (D:aX) (dx:eF) (p:Nat):gL (deC D dx p):=by
 unfold deC; split
 · exact rL zD zA
 · exact rL D dx
structure oR (w0:World) (g V:Nat) (fb:Nat->Nat) (wv:Nat->Value) (H:cL) (x0:StA) (Q:Nat) (q:aK) (S:lF) (D:aX) (p:Nat) (γ:FrG) (w:World):Prop where
 tw:dQ g V fb wv wv w0 w
 h0:p=0->γ.set=false/\cJ w g V fb wv H.cs H.st x0 H.now
 h1:1<=p->cJ w g V fb wv H.cs S.st γ.x S.now/\dz w w D γ.dx
 q:Blk w Q 87 (aV q)
 r:∀ r,γ.R=some r->w0.heap.size<=r/\Blk w r 92 (rC S.e S.st.rev p)
 d:∀ d,γ.D=some d->w0.heap.size<=d/\Blk w d 95 (deC D γ.dx p)
section
variable {w0 w w':World} {g V:Nat} {fb:Nat->Nat} {wv:Nat->Value} {H:cL} {x0:StA} {Q:Nat} {q:aK} {S:lF} {D:aX} {p:Nat} {γ:FrG}
theorem Lf (D:aX) (dx a:eF) {p:Nat} (b:p<3):deC D dx p=deC D a 1:=by unfold deC; rw [if_pos b,if_pos (by decide)]
theorem PN (E rev:Int) {p:Nat} (a:p<2):rC E rev p=rC E rev 1:=by unfold rC; rw [if_pos a,if_pos (by decide)]
theorem oR.drew (h:oR w0 g V fb wv H x0 Q q S D p γ w):oR w0 g V fb wv H x0 Q q S D p γ w.drew:=by
 have a:Below w w w.drew:=(θ).drew;exact⟨h.tw.below_ a,fun e=>⟨(h.h0 e).1,(h.h0 e).2.below a⟩,fun e=>⟨(h.h1 e).1.below a,(h.h1 e).2.upS a⟩,h.q,h.r,h.d⟩
theorem oR.c0 (h:oR w0 g V fb wv H x0 Q q S D p γ w):ζ w g 0 (π V 0):=by
 rcases Nat.eq_zero_or_pos p with e | e
 · rw [(h.h0 e).2.blk.cell]; exact xI
 · rw [(h.h1 e).1.blk.cell]; exact xI
theorem oR.OJ (h:oR w0 g V fb wv H x0 Q q S D p γ w) (f:p<2):oR w0 g V fb wv H x0 Q q S D p { γ with R:=some w } (χ w #[(0:Int),(0:Int)] 92):=by
 have a:Below w w (χ w #[(0:Int),(0:Int)] 92):=(θ).alloc lJ _;refine⟨h.tw.below_ a,fun e=>⟨(h.h0 e).1,(h.h0 e).2.below a⟩,fun e=>⟨(h.h1 e).1.below a,(h.h1 e).2.upS a⟩,h.q.below a h.q.lt,fun r c=>?_,fun d b=>⟨(h.d d b).1,(h.d d b).2.below a (h.d d b).2.lt⟩⟩;injection c with c;subst c;refine⟨h.tw.gr.size,?_⟩;unfold rC;rw [if_pos f];exact n5 w _
theorem oR.OK (h:oR w0 g V fb wv H x0 Q q S D p γ w) (d:p<3):oR w0 g V fb wv H x0 Q q S D p { γ with D:=some w } (χ w eS 95):=by
 have a:Below w w (χ w eS 95):=(θ).alloc lJ _;refine⟨h.tw.below_ a,fun e=>⟨(h.h0 e).1,(h.h0 e).2.below a⟩,fun e=>⟨(h.h1 e).1.below a,(h.h1 e).2.upS a⟩,h.q.below a h.q.lt,fun r c=>⟨(h.r r c).1,(h.r r c).2.below a (h.r r c).2.lt⟩,fun f b=>?_⟩;injection b with b;subst b;refine⟨h.tw.gr.size,?_⟩;unfold deC;rw [if_pos d];exact n5 w _
theorem oR.asked (h:oR w0 g V fb wv H x0 Q q S D 0 γ w) {dx:eF} {f:StA} (u:dz w' w' D dx) (k:Blk w' V 106 (iB S.st f S.now)) (y:StAt w' w' S.st f) (s:aE S.st=0) (z:0<=S.now/\S.now<=1099511627776) (c:w.grownBy w' (some V)) (v:∀ b,b<w.heap.size->sE 106 V w b->Far b f) :
 oR w0 g V fb wv H x0 Q q S D 1 { γ with set:=true,dx:=dx,x:=f } w':=by
 obtain⟨_,a⟩:=h.h0 rfl;obtain⟨l,m⟩:=a.asked c k y s z;refine⟨h.tw.trans ⟨m,fun _ _=>.inr (.inl rfl),fun b n o=>.of k (v b n o)⟩,fun e=>absurd e (by decide),fun _=>⟨l,u⟩,ay c h.q (bH h.q a.srv.blk (by decide)),fun r j=>⟨(h.r r j).1,?_⟩,fun d i=>⟨(h.d d i).1,?_⟩⟩
 · rw [<- PN S.e S.st.rev (p:=0) (by decide)]; exact ay c (h.r r j).2 (bH (h.r r j).2 a.srv.blk (by decide))
 · rw [<- Lf D γ.dx dx (p:=0) (by decide)]; exact ay c (h.d d i).2 (bH (h.d d i).2 a.srv.blk (by decide))
theorem oR.BM (h:oR w0 g V fb wv H x0 Q q S D 1 γ w) {r:Nat} (k:γ.R=some r) (a:w.grownBy w' (some r)) (n:Blk w' r 92 #[S.e,S.st.rev]):oR w0 g V fb wv H x0 Q q S D 2 γ w':=by
 obtain⟨i,b⟩:=h.r r k;obtain⟨l,m⟩:=h.h1 lJ;have j:=M8 S.e S.st.rev 1;refine⟨h.tw.new a i,fun e=>absurd e (by decide),fun _=>⟨l.other b j (by decide) (by decide) (by decide) (by decide) a,(m.fY b j a).more a.size⟩,ay a h.q (bH h.q b (by decide)),fun o c=>?_,fun d f=>⟨(h.d d f).1,?_⟩⟩
 · rw [k] at c;injection c with c;subst c;exact⟨i,n⟩
 · rw [Lf D γ.dx γ.dx (p:=2) (by decide)]; exact ay a (h.d d f).2 (bH (h.d d f).2 b (by decide))
theorem oR.M9 (h:oR w0 g V fb wv H x0 Q q S D 2 γ w) {d:Nat} (i:γ.D=some d) (a:w.grownBy w' (some d)) (n:Blk w' d 95 (dC D γ.dx)):oR w0 g V fb wv H x0 Q q S D 3 γ w':=by
 obtain⟨f,b⟩:=h.d d i;obtain⟨l,m⟩:=h.h1 (by decide);have j:=Le D γ.dx 2;refine⟨h.tw.new a f,fun k=>absurd k (by decide),fun _=>⟨l.other b j (by decide) (by decide) (by decide) (by decide) a,(m.fY b j a).more a.size⟩,ay a h.q (bH h.q b (by decide)),fun r e=>⟨(h.r r e).1,ay a (h.r r e).2 (bH (h.r r e).2 b (by decide))⟩,fun o c=>?_⟩;rw [i] at c;injection c with c;subst c;exact⟨f,n⟩
end
theorem cJ.Lg {w:World} {g V b:Nat} {fb:Nat->Nat} {wv:Nat->Value} {cs:Nat->bf} {st:ah} {x:StA} {now:Int} {t:TypeId} {c:Array Value} (h:cJ w g V fb wv cs st x now) (a:Blk w b t c) (f:t ≠ 60) (j:t ≠ 106) (k:t ≠ 108) (l:t ≠ 5):¬ su g V fb wv b:=by
 rintro (e | e | ⟨i,d,e | e⟩)
 · exact bH a h.blk f e
 · exact bH a h.srv.blk j e
 · exact bH a (h.feed i d) k e
 · obtain⟨n,m,_⟩:=(h.wait i d).blk e;exact l (Ab a m)
theorem Lh {st:ah} {now:Int} {q:aK} (h:oC q):(lO st now (lG st now q)).ch=false:=by
 have b:doR st now q=(0,st,now):=by
  unfold oC at h;unfold doR;rw [if_neg (by omega),if_neg (by omega),if_neg (by omega),if_neg (by omega),if_neg (by omega),if_neg (by omega),if_neg (by omega)]
 unfold lG;by_cases a:cO q=0
 · rw [if_pos a,b];unfold lO;rw [if_pos rfl,if_pos ⟨rfl,rfl,rfl⟩]
 · rw [if_neg a];unfold lO;rw [if_neg a]
theorem dz.grew {w w':World} {D:aX} {dx:eF} (h:dz w w D dx) {v v':Value} {l:List UInt8} (f:ByteRow w v l) (b:cY w w' v v'):dz w' w' D dx:=by
 cases a:v.ownBlock with
 | none=>
  have:=b.grown;rw [a] at this;exact h.upS ⟨this.os,this.tape,this.output,this.size,fun k e=>this.block k e (by simp)⟩
 | some i=>
  obtain⟨j,c,d⟩:=f.blk a;have:=b.grown;rw [a] at this;exact (h.fY c d this).more this.size
theorem jE.del {g V k:Nat} {fb:Nat->Nat} {wv:Nat->Value} {cs:Nat->bf} {st:ah} {x:StA} {now:Int} {w w':World} {e:Ending} {L:List UInt8} {D:aX} {dx:eF} (f:jE g (1+k*4+3) (wv k) L w e w') (h:cJ w g V fb wv cs st x now) (b:k<8) (d:dz w w D dx):dz w' w' D dx:=by
 obtain⟨_,j,i,l,a,rfl⟩:=f;have c:=aR j g (1+k*4+3) i;exact ((d.grew (h.wait k b) a).fY (qB h.blk (by decide) (h.wait k b) a) h.CK c).more c.size
theorem Li (tl:ah->List UInt8) {g V k:Nat} {fb:Nat->Nat} {wv:Nat->Value} {H:cL} {x:StA} {wb:World} (w:World) (ae:ByteArray) (q:aK) (h:cJ w g V fb wv H.cs H.st x H.now) (c:k<8) (hI:oM wb w g V fb wv)
 (bf:∀ W,Tabs W->ψ 42 #[ae] W (tA q 0 W)) (bd:ROk q) (b0:M6 q H.st H.now) (ht:((∀ i,i<8->(H.cs i).aG=false)/\¬ oC q)\/tV tl) (bg:∀ st,(tl st).length<=7000) (hl:∀ i,i<8->(H.cs i).waits.length<=35184371000000) :
 ψ 23 #[π g 0,π g (1+k*4),.agg #[(3:Int),(3:Int),ae]] w (kT g V fb wv (lW tl H k q) (.tuple #[]) w):=by
 obtain⟨W,hW⟩:∃ W,w.alloc (.cells #[(3:Int),(3:Int),ae] 78)=W:=⟨_,rfl⟩;have ac:Below w w W:=by rw [<- hW]; exact (θ).alloc lJ _
 have G:Blk W w 78 #[(3:Int),(3:Int),ae]:=by rw [<- hW]; exact n5 w _
 have aA:=ω (bf W (hI.more ac).at_);have c0:ζ W w 0 (.int .i64 3):=G.cell 0;have c1:ζ W w 1 (.int .i64 3):=G.cell 1;have c2:ζ W w 2 (.string ae):=G.cell 2;have bI:=G.lt;have HW:=ω hW;have Hh:=ω (h.below ac);have HI:=ω (hI.more ac);have aE:=ω ((dQ.refl g V fb wv w).below_ ac);have Hl:=ω hl;have Ht:=ω ht;have bm:=ω bg;have b8:=ω bd;have bk:=ω hI;clear ac G hW h hI bf hl ht bg bd;go_enter Tryz.func23,Tryz.ntmps23
 go_wp2_with fail
 try simp only [HW.z]
 clear HW;refine aA.mono ?_;rintro e n ⟨rfl,am⟩;obtain⟨z,ar⟩:∃ z,n.alloc (.cells (aV q) 87)=z:=⟨_,rfl⟩;have ao:Below n n z:=by rw [<- ar]; exact (θ).alloc lJ _
 have a6:Blk z n 87 (aV q):=by rw [<- ar]; exact n5 n _
 have H3:=ω ((Hh.below am).below ao);have bj:=ω ((HI.more am).more ao);have aF:=ω ((aE.below_ am).below_ ao);have bl:=ω H3.srv.ok;obtain⟨S,hS⟩:∃ S,lO H.st H.now (lG H.st H.now q)=S:=⟨_,rfl⟩;obtain⟨D,hD⟩:∃ D,(if S.ch=true then dL H.st S.st else zD)=D:=⟨_,rfl⟩;have H0:=ω (show oR z g V fb wv H x n q S D 0 ⟨none,none,false,zA,x⟩ z from ⟨dQ.refl _ _ _ _ _,fun _=>⟨rfl,H3⟩,fun e=>absurd e (by decide),a6,(fun r e=>by cases e),(fun r e=>by cases e)⟩);have Na:=Il (q:=q) H3.srv.ok H3.srv.t
 have aC:=ω (fun (j:World) (γ:FrG) (a:oR z g V fb wv H x n q S D 0 γ j)=>show ψ 43 #[π V 0,.agg (oL q)] j (fun e w'=>∃ dx U,e = .returned (.tuple #[.agg #[S.e,S.st.rev],.agg #[D.from_,D.to_,.slice dx.aj dx.nj dx.cj,.slice dx.an dx.nn dx.cn,.slice dx.al dx.nl dx.cl,.slice dx.agj dx.ngj dx.cgj,.slice dx.agn dx.ngn dx.cgn,.slice dx.agl dx.ngl dx.cgl],.bool S.ch])/\oR z g V fb wv H x n q S D 1 { γ with set:=true,dx:=dx,x:=U } w') from by
  refine (b0 x V j (a.h0 rfl).2.srv (bj.to a.tw).at_).mono ?_;rw [hS];rintro e w' ⟨D',dx,U,rfl,bn,b1,hv,hs,hg,bb⟩;have e1:D'=D:=bn.trans hD;subst e1;rw [hS] at Na;exact⟨dx,U,rfl,a.asked b1 hv hs Na.1 Na.2 hg bb⟩)
 have aN:=ω (show (χ n (oL q) 87)=z from ar);have Y:=ω hS;have aB:=ω hD;have bK:=a6.lt;clear ar am ao a6 hS hD Na Hh HI aE aA c0 c1 c2;unfold bP;unfold aV
 go_wp2_with fail
 simp only [aN.z];clear aN;refine rq (Γ:=FrG) 79 (fun γ=>frV g V q S.e S.st.rev D S.ch γ) [5,12,13] (fun p γ j=>oR z g V fb wv H x n q S D p γ j) ⟨none,none,false,zA,x⟩ H0.drew ?_ ?_
 · clear H0;refine⟨?_,?_,?_,?_,?_,?_,?_,?_,?_,?_,?_,?_,?_,?_,?_,trivial⟩
   · exact ok0 0 3 0 rfl fun _=>rfl
   · exact ok1 0 3 0 35 rfl rfl (fun _ _ h=>h) fun _=>rfl
   · exact ok1 0 3 1 36 rfl rfl (fun _ _ h=>h) fun _=>rfl
   · refine okQ 0 3 fun p γ s j P o a c=>?_;obtain⟨u1,l,rfl⟩:=c.g 2 37 rfl rfl;have hc:=a.c0;simp [go_sem,Oper.wp,execOp,Act.eval,l,hc];exact⟨_,rfl,γ,fun _ _ _ h=>h,rfl,a⟩
   · refine okQ 0 3 fun p γ s j P o a c=>?_;have l:=c.k 6 rfl;obtain⟨bo,bp,bq,br,bs,bt,bu,bv,bw,bx,F8,F9,Ga,Gb⟩:=Blk.c14 (a.q);simp [go_sem,Oper.wp,execOp,Act.eval,l,bo,bp,bq,br,bs,bt,bu,bv,bw,bx,F8,F9,Ga,Gb];exact⟨_,rfl,γ,fun _ _ _ h=>h,rfl,a⟩
   · refine .inl ⟨0,rfl,fun γ s j a c=>aL rfl ?_⟩;obtain⟨u1,l,rfl⟩:=c.g 3 38 rfl rfl;obtain⟨u2,K,rfl⟩:=c.g 4 39 rfl rfl;simp [go_sem,Oper.wp,execOp,Act.eval,l,K];obtain⟨b6,hA⟩:=a.h0 rfl;refine (aC.z j γ a).mono ?_;rintro e w' ⟨dx,U,rfl,b5⟩;exact⟨_,rfl,_,M7 b6 dx U,⟨rfl,rfl⟩,b5⟩
   · refine okQ 0 3 fun p γ s j P o a c=>?_;obtain⟨u1,l,Ex,rfl⟩:=c.g 5 40 rfl rfl;simp [go_sem,Oper.wp,execOp,Act.eval,l];exact⟨_,rfl,γ,fun _ _ _ h=>h,⟨Ex,rfl⟩,a⟩
   · refine okQ 0 3 fun p γ s j P o a c=>?_;obtain⟨u1,l,Ex,rfl⟩:=c.g 6 34 rfl rfl;simp [go_sem,Oper.wp,execOp,Act.eval,l];exact⟨_,rfl,γ,fun _ _ _ h=>h,rfl,a⟩
   · refine okQ 0 3 fun p γ s j P o a c=>?_;obtain⟨u1,l,Ex,rfl⟩:=c.g 6 34 rfl rfl;simp [go_sem,Oper.wp,execOp,Act.eval,l];exact⟨_,rfl,γ,fun _ _ _ h=>h,⟨Ex,rfl⟩,a⟩
   · refine okQ 0 3 fun p γ s j P o a c=>?_;obtain⟨u1,l,Ex,rfl⟩:=c.g 6 34 rfl rfl;simp [go_sem,Oper.wp,execOp,Act.eval,l];exact⟨_,rfl,γ,fun _ _ _ h=>h,rfl,a⟩
   · refine okQ 0 1 fun p γ s j P o a c=>?_;simp [go_sem,Oper.wp,execOp,Act.eval];exact⟨_,rfl,_,PL _,⟨_,rfl,rfl⟩,a.OJ (by omega)⟩
   · refine okQ 0 1 fun p γ s j P o a c=>?_;simp [go_sem,Oper.wp,execOp,Act.eval];exact⟨_,rfl,_,PM _,⟨_,rfl,rfl⟩,a.OK (by omega)⟩
   · refine .inl ⟨1,rfl,fun γ s j a c=>aL rfl ?_⟩;obtain⟨u1,l,r1,aP,rfl⟩:=c.g 10 8 rfl rfl;obtain⟨u2,K,rfl⟩:=c.g 7 41 rfl rfl;have B:Blk j r1 92 #[(0:Int),(0:Int)]:=(a.r r1 aP).2;obtain⟨z0,z1⟩:=Blk.z2 (B);obtain⟨c0,c1⟩:=Blk.c2 (B);have a5:=a.BM aP (aJ (aJ (bO j r1) 0 (.int .i64 S.e)) 1 (.int .i64 S.st.rev)) (Blk.eq ((B.set 0 (.int .i64 S.e)).set 1 (.int .i64 S.st.rev)) rfl);clear B a;simp [go_sem,Oper.wp,execOp,Act.eval,l,K,c0,c1,z0,z1];exact⟨.int .i64 0,γ,fun _ _ _ h=>h,trivial,a5⟩
   · refine .inl ⟨2,rfl,fun γ s j a c=>aL rfl ?_⟩;obtain⟨u1,l,d1,aO,rfl⟩:=c.g 11 9 rfl rfl;obtain⟨u2,K,bR,rfl⟩:=c.g 8 42 rfl rfl;have B:Blk j d1 95 eS:=(a.d d1 aO).2;obtain⟨z0,z1,z2,z3,z4,z5,z6,z7⟩:=Blk.z8 (B);obtain⟨c0,c1,c2,c3,c4,c5,c6,c7⟩:=Blk.c8 (B);have a5:=a.M9 aO (aJ (aJ (aJ (aJ (aJ (aJ (aJ (aJ (bO j d1) 0 (.int .i64 D.from_)) 1 (.int .i64 D.to_)) 2 (.slice γ.dx.aj γ.dx.nj γ.dx.cj)) 3 (.slice γ.dx.an γ.dx.nn γ.dx.cn)) 4 (.slice γ.dx.al γ.dx.nl γ.dx.cl)) 5 (.slice γ.dx.agj γ.dx.ngj γ.dx.cgj)) 6 (.slice γ.dx.agn γ.dx.ngn γ.dx.cgn)) 7 (.slice γ.dx.agl γ.dx.ngl γ.dx.cgl)) (Blk.eq ((((((((B.set 0 (.int .i64 D.from_)).set 1 (.int .i64 D.to_)).set 2 (.slice γ.dx.aj γ.dx.nj γ.dx.cj)).set 3 (.slice γ.dx.an γ.dx.nn γ.dx.cn)).set 4 (.slice γ.dx.al γ.dx.nl γ.dx.cl)).set 5 (.slice γ.dx.agj γ.dx.ngj γ.dx.cgj)).set 6 (.slice γ.dx.agn γ.dx.ngn γ.dx.cgn)).set 7 (.slice γ.dx.agl γ.dx.ngl γ.dx.cgl)) rfl);clear B a;simp [go_sem,Oper.wp,execOp,Act.eval,l,K,c0,c1,c2,c3,c4,c5,c6,c7,z0,z1,z2,z3,z4,z5,z6,z7];exact⟨.int .i64 0,γ,fun _ _ _ h=>h,trivial,a5⟩
   · exact ok1 0 3 9 43 rfl rfl (fun _ _ h=>h) fun _=>rfl
 intro γ s wy hd;have o:=hd.ph;obtain⟨fv,rfl,ap⟩:=hd.frame [35,36,37,38,39,40,34,41,42,43,8,9,10] rfl;obtain⟨ag,eR,h8⟩:=ap 10 _ 8 rfl rfl;obtain⟨DD,eD,h9⟩:=ap 11 _ 9 rfl rfl;have aQ:fv 10 = .bool S.ch:=ap 14 _ 10 rfl rfl;clear hd ap H0 aC;simp only [foldl_cons,foldl_nil,setIfInBounds_toArray,set_cons_succ,set_cons_zero,h8,h9,aQ];clear h8 h9 aQ;obtain⟨hA,ba⟩:=o.h1 (by decide);have aq:Blk wy ag 92 #[S.e,S.st.rev]:=(o.r ag eR).2;have aZ:Blk wy DD 95 (dC D γ.dx):=(o.d DD eD).2;have be:=o.q;have aH:=ω (aF.trans o.tw);have HR:=ω (uV g (1+k*4) 60 _ (wv k) _ S.e S.st.rev wy hA.blk (by decide) (jv c) (hA.wait k c) (by have:=Hl.z k c; omega));obtain⟨r0,r1⟩:=Blk.c2 (aq);have b4:=aq.lt;have X:=ω hA;have aI:=ω ba;have a2:=ω aq;have a0:=ω aZ;have a1:=ω be;clear o hA ba aq aZ be H3 aF eR eD
 go_wp2_with fail
 refine HR.mono ?_;rintro e u a;have aY:=a.del X.z c aI.z;obtain⟨rfl,au,h5,t5⟩:=a.hub X.z c;have h5:cJ u g V fb au (upd H.cs k (iU S.e S.st.rev (H.cs k))) S.st γ.x S.now:=h5;have OL:=t5.gr.blk a2.z (X.Lg a2.z (by decide) (by decide) (by decide) (by decide));have OM:=t5.gr.blk a1.z (X.Lg a1.z (by decide) (by decide) (by decide) (by decide));have ON:=t5.gr.blk a0.z (X.Lg a0.z (by decide) (by decide) (by decide) (by decide));have T5:=aH.trans t5;have a8:=ω aY;have v:=ω h5;have aa:=ω T5;have aD:oM wb w g V fb wv:=bk.z;have aw:=ω (aD.to T5);have OO:=ω OL;have J:=ω OM;have a9:=ω ON;have bN:=OL.lt;have bM:=OM.lt;have bJ:=ON.lt
 have bi:(iU S.e S.st.rev (H.cs k)).waits.length<=35184371100000:=by
  have l:=Hl.z k c;have K:=pW 3 4 (gS S.e S.st.rev).1.data.toList (by have:=nU S.e S.st.rev; simp; omega)
  show ((H.cs k).waits ++ pT 3 4 _).length<=_
  rw [List.length_append]; omega
 have a3:=ω bi;clear a h5 t5 OL OM ON T5 aY aD bi HR r0 r1 b4 X aI a2 a0 a1 aH;by_cases C:S.e=0/\oC q
 · have aU:tV tl:=Ht.resolve_left (fun h=>h.2 C.2);have y:S.ch=false:=by rw [<- Y.z]; exact Lh C.2
   have bh:ByteRow u (au k) (iU S.e S.st.rev (H.cs k)).waits:=by have:=v.wait k c; rwa [bL] at this
   have af:=ω (aU g (1+k*4) V 60 _ (au k) _ S.st γ.x S.now u v.blk (by decide) xI (jv c) bh (by have:=a3.z; omega) v.srv aw.at_);have r0:ζ u ag 0 (.int .i64 0):=by rw [<- C.1]; exact OO.cell 0
   obtain⟨AC,aR⟩:∃ AC,jw tl q S (H.cs k)=AC:=⟨_,rfl⟩;have b7:=ω aR;have HE:=ω C;rw [y];clear aU bh aR;rcases C.2 with O | O
   all_goals clear C
   · have q0:ζ u n 0 (.int .i64 8):=by rw [<- O]; exact J.cell 0
     have ab:=ω O;have az:=ω y;clear O y
     go_wp2_with fail
     refine af.mono ?_;rintro e I ad;obtain⟨rfl,a7,m,T⟩:=ad.hub v.z c;rw [nL] at m;simp only [bL] at m;have L:=T.gr.blk J.z (v.Lg J.z (by decide) (by decide) (by decide) (by decide));have q6:ζ I n 0 (.int .i64 8):=by rw [<- ab.z]; exact L.cell 0
     have b3:=L.lt;have y6:ζ I g (1+k*4+2) (.bool (H.cs k).aG):=by rw [m.blk.cell,qm c,bL]; rfl
     have z6:κ I g (1+k*4+2):=m.blk.thaw _;have b2:=m.blk.lt;have H6:=ω m;have ay:=ω (aa.trans T);clear ad m T L af r0 q0
     have bE:φ (∀ b,b=((H.cs k).aG || decide (q.kind=9))->kT g V fb wv (lW tl H k q) (.tuple #[]) w (.returned (.tuple #[])) (sX I g (1+k*4+2) (.bool b))):=ω fun b G=>by
      obtain⟨h7,g7⟩:=H6.set1 c b;refine⟨rfl,a7,γ.x,?_,ay.gr_ g7 (h7.srv.blk.trans H6.srv.blk.symm)⟩;unfold lW;dsimp only;rw [Y.z,if_neg (by rw [az.z]; decide)];dsimp only;unfold jw;rw [if_pos HE.z];subst G;exact h7
     cases R:(H.cs k).aG
     all_goals
      rw [R] at y6;have F:=ω (bE.z _ (by rw [R,ab.z]));clear R bE;go_wp2;go_end0;exact F
   · have q0:ζ u n 0 (.int .i64 9):=by rw [<- O]; exact J.cell 0
     have ab:=ω O;have az:=ω y;clear O y
     go_wp2_with fail
     refine af.mono ?_;rintro e I ad;obtain⟨rfl,a7,m,T⟩:=ad.hub v.z c;rw [nL] at m;simp only [bL] at m;have L:=T.gr.blk J.z (v.Lg J.z (by decide) (by decide) (by decide) (by decide));have q6:ζ I n 0 (.int .i64 9):=by rw [<- ab.z]; exact L.cell 0
     have b3:=L.lt;have y6:ζ I g (1+k*4+2) (.bool (H.cs k).aG):=by rw [m.blk.cell,qm c,bL]; rfl
     have z6:κ I g (1+k*4+2):=m.blk.thaw _;have b2:=m.blk.lt;have H6:=ω m;have ay:=ω (aa.trans T);clear ad m T L af r0 q0
     have bE:φ (∀ b,b=((H.cs k).aG || decide (q.kind=9))->kT g V fb wv (lW tl H k q) (.tuple #[]) w (.returned (.tuple #[])) (sX I g (1+k*4+2) (.bool b))):=ω fun b G=>by
      obtain⟨h7,g7⟩:=H6.set1 c b;refine⟨rfl,a7,γ.x,?_,ay.gr_ g7 (h7.srv.blk.trans H6.srv.blk.symm)⟩;unfold lW;dsimp only;rw [Y.z,if_neg (by rw [az.z]; decide)];dsimp only;unfold jw;rw [if_pos HE.z];subst G;exact h7
     cases R:(H.cs k).aG
     all_goals
      rw [R] at y6;have F:=ω (bE.z _ (by rw [R,ab.z]));clear R bE;go_wp2;go_end0;exact F
 · have aW:jw tl q S (H.cs k)=iU S.e S.st.rev (H.cs k):=by unfold jw; rw [if_neg C]
   have av:=ω aW;have ax:=ω C;clear aW C;have r0:ζ u ag 0 (.int .i64 S.e):=OO.cell 0;have q0:ζ u n 0 (.int .i64 q.kind):=J.cell 0
   have N:φ (S.ch=false->kT g V fb wv (lW tl H k q) (.tuple #[]) w (.returned (.tuple #[])) u):=ω fun y=>by
    refine⟨rfl,au,γ.x,?_,aa⟩;unfold lW;dsimp only;rw [Y.z,if_neg (by rw [y]; decide),av.z];exact v
   have M:φ (S.ch=true->ψ 46 #[π g 0,.agg #[D.from_,D.to_,.slice γ.dx.aj γ.dx.nj γ.dx.cj,.slice γ.dx.an γ.dx.nn γ.dx.cn,.slice γ.dx.al γ.dx.nl γ.dx.cl,.slice γ.dx.agj γ.dx.ngj γ.dx.cgj,.slice γ.dx.agn γ.dx.ngn γ.dx.cgn,.slice γ.dx.agl γ.dx.ngl γ.dx.cgl]] u (kT g V fb wv (lW tl H k q) (.tuple #[]) w)):=ω fun y=>by
    have aT:dL H.st S.st=D:=by have:=aB.z; rwa [if_pos y] at this
    have bb:D.from_=H.st.rev:=by rw [<- aT]; rfl
    have bQ:=aM.1 (cV.1 bl.z).1;refine (Ew tl (H:=⟨S.st,S.now,upd H.cs k (iU S.e S.st.rev (H.cs k))⟩) u D γ.dx v.z aw.z a8.z (by omega) (by omega) ?_ ?_).mono ?_
    · rcases Ht.z with h | h
      · refine .inl fun i hi=>?_
        show (upd H.cs k _ i).aG=false
        by_cases e:i=k
        · subst e; rw [bL]; exact h.1 i hi
        · rw [upd_ne _ _ e]; exact h.1 i hi
      · exact .inr h
    · intro i hi
      show (upd H.cs k _ i).waits.length<=_
      by_cases e:i=k
      · subst e; rw [bL]; have:=a3.z; omega
      · rw [upd_ne _ _ e]; have:=Hl.z i hi; omega
    · rintro e w' ⟨he,wv',U,l,K⟩;refine⟨he,wv',U,?_,aa.trans K⟩;unfold lW;dsimp only;rw [Y.z,if_pos y,av.z,aT];exact l
   clear a8 v aa aw OO J a3 Ht bm Hl aB Y av;obtain⟨b9,bA,bB,bC,bD,bF,bG,bH⟩:=Blk.c8 (a9.z);clear a9;obtain⟨E,ai⟩:∃ E,S.e=E:=⟨_,rfl⟩;obtain⟨CH,aS⟩:∃ CH,S.ch=CH:=⟨_,rfl⟩;obtain⟨Z,ak⟩:∃ Z,q.kind=Z:=⟨_,rfl⟩;rw [aS] at N M |-;rw [ai] at r0;rw [ak] at q0
   have bz:(E=0/\Z≠8/\Z≠9)\/E≠0:=by
    by_cases e:E=0
    · refine .inl ⟨e,fun h=>ax.z ⟨by rw [ai,e],.inl (by rw [ak,h])⟩,fun h=>ax.z ⟨by rw [ai,e],.inr (by rw [ak,h])⟩⟩
    · exact .inr e
   clear ai aS ak ax;rcases bz with ⟨rfl,h8,h9⟩ | bc
   · have d8:(Z == 8)=false:=by simpa using h8
     have d9:(Z == 9)=false:=by simpa using h9
     clear h8 h9;cases CH
     · have F:=ω (N.z rfl);clear N M;go_wp2;go_end0;exact F
     · have F:=ω (M.z rfl);clear N M
       go_wp2_with fail
       refine F.mono ?_;rintro e w' a;have a4:=ω a;obtain⟨rfl,_⟩:=a;clear F;go_wp2;go_end0;exact a4
   · have d0:(E == 0)=false:=by simpa using bc
     clear bc;cases CH
     · have F:=ω (N.z rfl);clear N M;go_wp2;go_end0;exact F
     · have F:=ω (M.z rfl);clear N M
       go_wp2_with fail
       refine F.mono ?_;rintro e w' a;have a4:=ω a;obtain⟨rfl,_⟩:=a;clear F;go_wp2;go_end0;exact a4
end Go.Proofs.YtimglglgcgpjgaaGreatDoor
