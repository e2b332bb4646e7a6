/- Of the proof of a statement: SvDo. -/
import Derived.Test.YtimglglgcgpjgaaGreatDoorQGrant
import Derived.Test.YtimglglgcgpjgaaGreatDoorQWFrame
set_option linter.unusedVariables false
set_option linter.unusedSimpArgs false
set_option maxRecDepth 100000
set_option maxHeartbeats 8000000
namespace Go.Proofs.YtimglglgcgpjgaaGreatDoor
open List (foldl_cons foldl_nil setIfInBounds_toArray set_cons_succ set_cons_zero)
open Go.RowKit
theorem EP {st:ah} {now:Int} {q:aK} (h:cO q≠0):lO st now (lG st now q)=⟨cO q,false,st,now⟩:=by
 unfold lG; rw [if_neg h]; unfold lO; rw [if_neg h]
theorem EO {st:ah} {now:Int} {q:aK} (h:cO q=0) (a:(doR st now q).1≠0):lO st now (lG st now q)=⟨(doR st now q).1,false,st,now⟩:=by
 unfold lG; rw [if_pos h]; unfold lO; rw [if_neg a]
theorem Co {st:ah} {now:Int} {q:aK} (h:cO q=0) (a:(doR st now q).1=0) (b:lM st (doR st now q).2.1):lO st now (lG st now q)=⟨0,false,st,(doR st now q).2.2⟩:=by
 unfold lG; rw [if_pos h]; unfold lO; rw [if_pos a,if_pos b]
theorem EL {st:ah} {now:Int} {q:aK} (h:cO q=0) (a:(doR st now q).1=0) (b:¬ lM st (doR st now q).2.1) (c:1099511627776<st.rev+1):lO st now (lG st now q)=⟨2,false,st,now⟩:=by
 unfold lG; rw [if_pos h]; unfold lO; rw [if_pos a,if_neg b,if_pos c]
theorem EM {st:ah} {now:Int} {q:aK} (h:cO q=0) (a:(doR st now q).1=0) (b:¬ lM st (doR st now q).2.1) (c:¬ 1099511627776<st.rev+1):lO st now (lG st now q)=⟨0,true,tK (doR st now q).2.1,(doR st now q).2.2⟩:=by
 unfold lG; rw [if_pos h]; unfold lO; rw [if_pos a,if_neg b,if_neg c]
structure yM (w0:World) (V:Nat) (st:ah) (x:StA) (now:Int) (q:aK) (w:World):Prop where
 sv:SrvAt w 106 V st x now
 q:Blk w w0 87 (aV q)
 r:Blk w (w0.heap.size+1) 92 #[(0:Int),(0:Int)]
 d:Blk w (w0.heap.size+2) 95 eS
 below:Below w0 w0 w
 lt:V<w0.heap.size
theorem yM.kept {w0 w w':World} {V:Nat} {st:ah} {x:StA} {now:Int} {q:aK} (h:yM w0 V st x now q w) (a:Below w w w'):yM w0 V st x now q w':=
 ⟨h.sv.below a,h.q.below a h.q.lt,h.r.below a h.r.lt,h.d.below a h.d.lt,h.below.trans (a.mono h.below.size),h.lt⟩
theorem yM.toE {w0 w:World} {V:Nat} {st:ah} {x:StA} {now:Int} {q:aK} (h:yM w0 V st x now q w):SdE [] 106 w0 V w st x now zD zA #[(0:Int),(0:Int)] eS (χ w eS 95):=by
 have a:Below w w (χ w eS 95):=(θ).alloc lJ _;have k:=h.kept a;have:=h.d.lt;exact⟨k.sv.blk,k.sv.at_,CY _ _,n5 w _,k.r,k.d,grown_of V k.below,h.lt,by omega,k.sv.at_.oB k.sv.blk (pq _ _ _),Dc V⟩
structure SnE (w0:World) (V N K DD:Nat) (st:ah) (x:StA) (now:Int) (q:aK) (so:ah) (z:StA) (nw:Int) (D:aX) (p:Nat) (γ:eF) (w:World):Prop where
 h:yM w0 V st x now q w
 n:Blk w N 26 (stC so z)
 k:Blk w K 162 #[π N 0,nw]
 a:StAt w w so z
 db:Blk w DD 95 (dcP D γ p)
 del:0<p->dz w w D γ
 ns:w0.heap.size+3<=N
 ks:w0.heap.size+3<=K
 ds:w0.heap.size+3<=DD
 nd:N≠DD
 kd:K≠DD
section
variable {w0 w w':World} {V N K DD:Nat} {st:ah} {x:StA} {now:Int} {q:aK} {so:ah} {z:StA} {nw:Int} {D:aX} {γ dx:eF}
theorem yM.drew (h:yM w0 V st x now q w):yM w0 V st x now q w.drew:=⟨⟨h.sv.blk,h.sv.at_.drew,h.sv.ok,h.sv.t⟩,h.q,h.r,h.d,h.below.drew,h.lt⟩
theorem SnE.drew {p:Nat} (h:SnE w0 V N K DD st x now q so z nw D p γ w):SnE w0 V N K DD st x now q so z nw D p γ w.drew:=
 ⟨h.h.drew,h.n,h.k,h.a.drew,h.db,fun b=>(h.del b).drew,h.ns,h.ks,h.ds,h.nd,h.kd⟩
theorem SnE.call (h:SnE w0 V N K DD st x now q so z nw D 0 γ w) (b:Below w w w') (c:dz w' w' D dx):SnE w0 V N K DD st x now q so z nw D 1 dx w':=
 ⟨h.h.kept b,h.n.below b h.n.lt,h.k.below b h.k.lt,h.a.upS b,h.db.below b h.db.lt,fun _=>c,h.ns,h.ks,h.ds,h.nd,h.kd⟩
theorem yM.but (h:yM w0 V st x now q w) {g:Nat} {t:TypeId} {cs:Array Value} (b:Blk w g t cs) (c:gL cs) (a:w.grownBy w' (some g)) (e:w0.heap.size+3<=g):yM w0 V st x now q w':=by
 have:=h.lt;exact⟨⟨ay a h.sv.blk (by omega),(h.sv.at_.fY b c a).more a.size,h.sv.ok,h.sv.t⟩,ay a h.q (by omega),ay a h.r (by omega),ay a h.d (by omega),cU h.below a (by omega),h.lt⟩
theorem SnE.store (h:SnE w0 V N K DD st x now q so z nw D 1 γ w) (b:w.grownBy w' (some DD)) (e:Blk w' DD 95 (dC D γ)):SnE w0 V N K DD st x now q so z nw D 2 γ w':=by
 have c:Blk w DD 95 (dcP D γ 1):=h.db;have d:gL (dcP D γ 1):=rL zD zA;exact⟨h.h.but c d b h.ds,ay b h.n h.nd,ay b h.k h.kd,(h.a.fY c d b).more b.size,e,fun _=>((h.del (by decide)).fY c d b).more b.size,h.ns,h.ks,h.ds,h.nd,h.kd⟩
theorem SnE.end_ (h:SnE w0 V N K DD st x now q so z nw D 2 γ w) (b:w.grownBy w' (some V)) (f:Blk w' V 106 (iB so z nw)):SdE [] 106 w0 V DD so z nw D γ #[(0:Int),(0:Int)] eS w':=by
 have c:=h.h.lt;have e:=h.ds;exact⟨f,(h.a.fY h.h.sv.blk (pq _ _ _) b).more b.size,((h.del (by decide)).fY h.h.sv.blk (pq _ _ _) b).more b.size,ay b h.db (by omega),ay b h.h.r (by omega),ay b h.h.d (by omega),aP (grown_of V h.h.below) b,c,e,h.a.oB h.h.sv.blk (pq _ _ _),(h.del (by decide)).oB h.h.sv.blk (pq _ _ _)⟩
end
def NG (V N:Nat) (st:ah) (x:StA) (so:ah) (z:StA) (D:aX) (γ:eF):Nat->Value->Prop
 | 0,u=>u = π V 0
 | 1,u=>u = π V 0
 | 2,u=>u = π V 0
 | 3,u=>u = .agg #[.int .i64 st.rev,.slice x.aj x.nj x.cj,.slice x.an x.nn x.cn,.slice x.al x.nl x.cl]
 | 4,u=>u = .agg #[.int .i64 so.rev,.slice z.aj z.nj z.cj,.slice z.an z.nn z.cn,.slice z.al z.nl z.cl]
 | 5,u=>u = .agg #[.int .i64 D.from_,.int .i64 D.to_,.slice γ.aj γ.nj γ.cj,.slice γ.an γ.nn γ.cn,.slice γ.al γ.nl γ.cl,.slice γ.agj γ.ngj γ.cgj,.slice γ.agn γ.ngn γ.cgn,.slice γ.agl γ.ngl γ.cgl]
 | _,_=>True
theorem NH {V N:Nat} {st:ah} {x:StA} {so:ah} {z:StA} {D:aX} {γ b:eF} {j:Nat} {v:Value} (a:j≠5) (h:NG V N st x so z D γ j v):NG V N st x so z D b j v:=by
 unfold NG at *
 split at h
 all_goals first | exact h | exact absurd rfl a
theorem pS :
 (∀ (q:aK) (st:ah) (x:StA) (now:Int) (V:Nat) (w:World) (h:SrvAt w 106 V st x now) (ak:JF q) (hT:Tabs w) (bs:cO q≠0),ψ 43 #[π V 0,bP q] w (lL 106 V st ⟨cO q,false,st,now⟩ w)) /\
 (∀ (q:aK) (st:ah) (x:StA) (now:Int) (V:Nat) (w:World) (h:SrvAt w 106 V st x now) (ak:JF q) (av:K6 q) (hT:Tabs w) (X:cO q=0) (NI:(doR st now q).1≠0),ψ 43 #[π V 0,bP q] w (lL 106 V st ⟨(doR st now q).1,false,st,now⟩ w)) /\
 (∀ (q:aK) (st:ah) (x:StA) (now:Int) (V:Nat) (w:World) (h:SrvAt w 106 V st x now) (ak:JF q) (av:K6 q) (hT:Tabs w) (X:cO q=0) (W:(doR st now q).1=0) (Z:lM st (doR st now q).2.1),ψ 43 #[π V 0,bP q] w (lL 106 V st ⟨0,false,st,(doR st now q).2.2⟩ w)) /\
 (∀ (q:aK) (st:ah) (x:StA) (now:Int) (V:Nat) (w:World) (h:SrvAt w 106 V st x now) (ak:JF q) (av:K6 q) (hT:Tabs w) (X:cO q=0) (W:(doR st now q).1=0) (Z:¬ lM st (doR st now q).2.1) (aC:1099511627776<st.rev+1),ψ 43 #[π V 0,bP q] w (lL 106 V st ⟨2,false,st,now⟩ w)) /\
 (∀ (q:aK) (st:ah) (x:StA) (now:Int) (V:Nat) (w:World) (h:SrvAt w 106 V st x now) (ak:JF q) (av:K6 q) (hT:Tabs w) (X:cO q=0) (W:(doR st now q).1=0) (Z:¬ lM st (doR st now q).2.1) (aC:¬ 1099511627776<st.rev+1),ψ 43 #[π V 0,bP q] w (lL 106 V st ⟨0,true,tK (doR st now q).2.1,(doR st now q).2.2⟩ w)):=by
 refine⟨@fun q st x now V w h ak hT bs=>(fun(aa bn bv:Unit)=>?_) () () (),@fun q st x now V w h ak av hT X NI=>(fun(a3 bu bn bM bv:Unit)=>?_) () () () () (),@fun q st x now V w h ak av hT X W Z=>(fun(ab bu aI bM bv:Unit)=>?_) () () () () (),@fun q st x now V w h ak av hT X W Z aC=>(fun(ae bu aI bv:Unit)=>?_) () () () (),@fun q st x now V w h ak av hT X W Z aC=>(fun(O bu aI:Unit)=>?_) () () ()⟩<;>(
 first
  |(
   guard_hyp aa
   have BN:=ω (show ∀ b,b<w.heap.size->sE 106 V w b->Far b x from fun b _ hf=>hf.2 _ _ _ h.blk);obtain⟨E,X⟩:∃ E,cO q=E:=⟨_,rfl⟩;rw [X] at bs |-)
  |(
   guard_hyp a3
   have BN:=ω (show ∀ b,b<w.heap.size->sE 106 V w b->Far b x from fun b _ hf=>hf.2 _ _ _ h.blk);obtain⟨⟨E,so,nw⟩,hR⟩:∃ R,doR st now q=R:=⟨_,rfl⟩;rw [hR] at NI |-;dsimp only at NI |-)
  |(
   guard_hyp ab
   have BN:=ω (show ∀ b,b<w.heap.size->sE 106 V w b->Far b x from fun b _ hf=>hf.2 _ _ _ h.blk);obtain⟨⟨E,so,nw⟩,hR⟩:∃ R,doR st now q=R:=⟨_,rfl⟩;rw [hR] at W Z |-;dsimp only at W Z |-;subst W)
  |(
   guard_hyp ae
   have BN:=ω (show ∀ b,b<w.heap.size->sE 106 V w b->Far b x from fun b _ hf=>hf.2 _ _ _ h.blk);obtain⟨⟨E,so,nw⟩,hR⟩:∃ R,doR st now q=R:=⟨_,rfl⟩;rw [hR] at W Z;dsimp only at W Z;subst W;have sG:=ω aC;clear aC)
  |(
   guard_hyp O
   obtain⟨⟨E,so,nw⟩,hR⟩:∃ R,doR st now q=R:=⟨_,rfl⟩;rw [hR] at W Z |-;dsimp only at W Z |-;subst W;have sG:=ω aC;clear aC;obtain⟨o,bC⟩:∃ o,tK so=o:=⟨_,rfl⟩;rw [bC];have bp:=ω bC;clear bC)
 obtain⟨q1,q2,q3,q4⟩:=qG w (aV q) #[(0:Int),(0:Int)] eS (ta:=87) (tb:=92) (tc:=95);obtain⟨W0,bD⟩:∃ W0,((w.alloc (.cells (aV q) 87)).alloc (.cells #[(0:Int),(0:Int)] 92)).alloc (.cells eS 95)=W0:=⟨_,rfl⟩;rw [bD] at q1 q2 q3 q4;have H0:=ω (show yM w V st x now q W0 from ⟨h.below q4,q1,q2,q3,q4,h.blk.lt⟩)
 first
  |(
   guard_hyp aa
   have HC:=ω (show ψ 80 #[.agg (oL q)] W0 (bG (E) W0) from by rw [<- X]; exact ak W0 (hT.below q4)))
  |(
   guard_hyp bu
   have HC:=ω (show ψ 80 #[.agg (oL q)] W0 (bG ((0:Int)) W0) from by rw [<- X]; exact ak W0 (hT.below q4)))
 have bA:=ω bD;have HT:=ω hT;have bK:=H0.sv.blk.lt;have ce:=h.blk.lt;have a6:=ω (qT h.at_ h.ok);clear bD q1 q2 q3 q4 hT h;obtain⟨c0,P,c2,U,c4,c5,c6,c7,c8,c9,a7,a8,a9,aA⟩:=Blk.c14 (H0.q);have bL:=H0.q.lt;unfold bP;unfold aV at bA |-;go_enter Tryz.func43,Tryz.ntmps43
 go_wp2_with fail
 try rw [bA.z]
 clear bA;refine HC.mono ?_;rintro G w1 ⟨rfl,bJ⟩;have m:=ω (H0.kept bJ);clear bJ HC H0 bK bL c0 P c2 U c4 c5 c6 c7 c8 c9 a7 a8 a9 aA;have bK:=m.sv.blk.lt;have bL:=m.q.lt;have HO:=ω (show ψ 38 #[.agg #[st.rev,.slice x.aj x.nj x.cj,.slice x.an x.nn x.cn,.slice x.al x.nl x.cl]] w1 _ from Bs st x w1 m.sv.at_ (by have:=a6.z; omega) (by have:=a6.z; omega) (by have:=a6.z; omega));obtain⟨c0,P,c2,U⟩:=Blk.c4 (m.sv.blk)
 go_wp2_with fail
 refine HO.mono ?_;rintro G e ⟨y,rfl,e1,e2,e3,ho,az⟩;have H2:=ω (m.kept az);have aw:=H2;have Hy:=ω (show y.nj<=40/\y.nn<=40/\y.nl<=40 from by have:=a6.z; omega);obtain⟨w3,bj⟩:∃ w3,(e.alloc (.cells (stC st y) 26)).alloc (.cells #[π e 0,now] 162)=w3:=⟨_,rfl⟩;have br:Below e e (χ e (stC st y) 26):=(θ).alloc lJ _;have aB:Below e e w3:=by rw [<- bj]; exact br.alloc br.size _
 have H3:=ω (H2.kept aB)
 have bI:Blk w3 (e.heap.size+1) 162 #[π e 0,now]:=by
  rw [<- bj];have h:=n5 (χ e (stC st y) 26) (.cells #[π e 0,now] 162);rwa [show (e.alloc (.cells (stC st y) 26)).heap.size=e.heap.size+1 by simp] at h
 have HK:=ω (show uE w3 w1 st y e (e.heap.size+1) now from ⟨by rw [<- bj]; exact Blk.alloc (show Blk _ _ _ _ from n5 e _) _,bI,
  ⟨cZ (aF ho.j aB) (by omega),cZ (aF ho.n aB) (by omega),cZ (aF ho.l aB) (by omega),ho.lj,ho.ln,ho.ll⟩,az.size,v6 az.size (Nat.le_succ _),v6 az.size aB.size⟩)
 have n4:ζ (χ e #[st.rev,.slice y.aj y.nj y.cj,.slice y.an y.nn y.cn,.slice y.al y.nl y.cl] 26) V 4 (.int .i64 now):=(H2.kept br).sv.blk.cell 4;have mq:=az.size;have BT:=ω (show Below w1 w1 w3 from az.trans (aB.mono az.size));have aq:=ω (show (e.alloc (.cells #[st.rev,.slice y.aj y.nj y.cj,.slice y.an y.nn y.cn,.slice y.al y.nl y.cl] 26)).alloc (.cells #[π e 0,now] 162)=w3 from bj);have cf:=H2.sv.blk.lt;clear bj br aB bI ho az HO c0 P c2 U e1 e2 e3 H2;unfold stC
 first
  |(
   guard_hyp aa
   have d1:(E == 0)=false:=eY bs;clear X bs)
  |(
   guard_hyp a3
   have F:=ω (av w1 st y e (e.heap.size+1) now w3 ⟨HK,Hy.z.1,Hy.z.2.1,Hy.z.2.2,m.sv.at_.oj,m.sv.at_.on_,m.sv.at_.ol,kH (cV.1 m.sv.ok).2.2.1,kH (cV.1 m.sv.ok).2.2.2.1,kH (cV.1 m.sv.ok).2.2.2.2.1⟩
    (fun bN hW=>HT.below ((m.below.trans (BT.mono m.below.size)).trans (hW.mono m.below.size))) (wT m.sv.ok) m.sv.t.1 m.sv.t.2)
   unfold bP at F;unfold aV at F;rw [hR] at F;have T:=ω hR;clear X hR;obtain⟨c0,P,c2,U,c4,c5,c6,c7,c8,c9,a7,a8,a9,aA⟩:=Blk.c14 (H3.q);obtain⟨b0,b1,b2,b3,b4,b5,b6,b7,b8,b9,aU,aW,aY,aZ⟩:=Blk.c14 (aw.q);have bW:=aw.q.lt
   go_wp2_with fail
   simp only [aq.z];clear aq n4 c0 b0 P b1 c2 b2 U b3 c4 b4 c5 b5 c6 b6 c7 b7 c8 b8 c9 b9 a7 aU a8 aW a9 aY aA aZ;refine F.mono ?_;rintro G s ⟨rfl,ai,Y⟩;dsimp only at Y;have ag:=ω (BT.trans ai);have H4:=ω (m.kept ag.z);clear ai F HK H3 aw;clear Y T;have d1:(E == 0)=false:=eY NI)
  |(
   guard_hyp aI
   have F:=ω (av w1 st y e (e.heap.size+1) now w3 ⟨HK,Hy.z.1,Hy.z.2.1,Hy.z.2.2,m.sv.at_.oj,m.sv.at_.on_,m.sv.at_.ol,kH (cV.1 m.sv.ok).2.2.1,kH (cV.1 m.sv.ok).2.2.2.1,kH (cV.1 m.sv.ok).2.2.2.2.1⟩
    (fun bN hW=>HT.below ((m.below.trans (BT.mono m.below.size)).trans (hW.mono m.below.size))) (wT m.sv.ok) m.sv.t.1 m.sv.t.2)
   unfold bP at F;unfold aV at F;rw [hR] at F;have T:=ω hR;clear X hR;obtain⟨c0,P,c2,U,c4,c5,c6,c7,c8,c9,a7,a8,a9,aA⟩:=Blk.c14 (H3.q);obtain⟨b0,b1,b2,b3,b4,b5,b6,b7,b8,b9,aU,aW,aY,aZ⟩:=Blk.c14 (aw.q);have bW:=aw.q.lt)
 go_wp2_with fail
 first
  |(
   guard_hyp aa
   rw [aq.z];clear aq n4)
  |(
   guard_hyp ab
   simp only [aq.z];clear aq n4 c0 b0 P b1 c2 b2 U b3 c4 b4 c5 b5 c6 b6 c7 b7 c8 b8 c9 b9 a7 aU a8 aW a9 aY aA aZ;refine F.mono ?_;rintro G s ⟨rfl,ai,Y⟩;dsimp only at Y;have ag:=ω (BT.trans ai);have H4:=ω (m.kept ag.z);clear ai F HK H3 aw;obtain⟨z,i⟩:=Y rfl
   have J:=ω (show aE so=0 from by
    have h:=qU (st:=st) (now:=now) (q:=q) m.sv.ok (by rw [T.z]);rwa [T.z] at h)
   have af:=ω (show so.rev=st.rev from by
    have h:=wU st now q;rwa [T.z] at h)
   have ao:=(cV.1 J.z).2.1;unfold dR at ao;simp only [Bool.and_eq_true,decide_eq_true_eq] at ao;have bk:=i.own.lj;have bl:=i.own.ln;have bm:=i.own.ll;have Hz:=ω (show z.nj<=40/\z.nn<=40/\z.nl<=40 from by omega);have HA:=ω (show StAt s s so z from i.own.at2 (by omega) (by omega) (by omega) (gu J.z).1 (gu J.z).2.1 (gu J.z).2.2);have ax:=ω i.nb;have aO:=ω i.wk;clear i bk bl bm ao Y T
   have HS:=ω (fun nq osq=>show ψ 82 #[.agg #[st.rev,.slice x.aj x.nj x.cj,.slice x.an x.nn x.cn,.slice x.al x.nl x.cl],.agg #[so.rev,.slice z.aj z.nj z.cj,.slice z.an z.nn z.cn,.slice z.al z.nl z.cl]] (Sort.grow (redrawn s nq) osq) (fun G w'=>G = .returned (.bool true)/\Below (Sort.grow (redrawn s nq) osq).heap.size (Sort.grow (redrawn s nq) osq) w') from by
    refine (yN st so x z _ (H4.sv.at_.upS (below_regrown s nq osq)) (HA.upS (below_regrown s nq osq))).mono ?_;rintro G w' ⟨t,rfl,ht,hb⟩;have:t=true:=by exact ht.2 Z
    subst this;exact⟨rfl,hb⟩)
   obtain⟨v0,v1,v2,v3⟩:=Blk.r4 (H4.sv.blk);obtain⟨n0,n1,n2,n3⟩:=Blk.r4 (ax.z)
   go_wp2_with fail)
  |(
   guard_hyp ae
   simp only [aq.z];clear aq n4 c0 b0 P b1 c2 b2 U b3 c4 b4 c5 b5 c6 b6 c7 b7 c8 b8 c9 b9 a7 aU a8 aW a9 aY aA aZ;refine F.mono ?_;rintro G s ⟨rfl,ai,Y⟩;dsimp only at Y;have ag:=ω (BT.trans ai);have H4:=ω (m.kept ag.z);clear ai F HK H3 aw;obtain⟨z,i⟩:=Y rfl
   have J:=ω (show aE so=0 from by
    have h:=qU (st:=st) (now:=now) (q:=q) m.sv.ok (by rw [T.z]);rwa [T.z] at h)
   have af:=ω (show so.rev=st.rev from by
    have h:=wU st now q;rwa [T.z] at h)
   have ao:=(cV.1 J.z).2.1;unfold dR at ao;simp only [Bool.and_eq_true,decide_eq_true_eq] at ao;have bk:=i.own.lj;have bl:=i.own.ln;have bm:=i.own.ll;have Hz:=ω (show z.nj<=40/\z.nn<=40/\z.nl<=40 from by omega);have HA:=ω (show StAt s s so z from i.own.at2 (by omega) (by omega) (by omega) (gu J.z).1 (gu J.z).2.1 (gu J.z).2.2);have ax:=ω i.nb;have aO:=ω i.wk;clear i bk bl bm ao Y T
   have HS:=ω (fun nq osq=>show ψ 82 #[.agg #[st.rev,.slice x.aj x.nj x.cj,.slice x.an x.nn x.cn,.slice x.al x.nl x.cl],.agg #[so.rev,.slice z.aj z.nj z.cj,.slice z.an z.nn z.cn,.slice z.al z.nl z.cl]] (Sort.grow (redrawn s nq) osq) (fun G w'=>G = .returned (.bool false)/\Below (Sort.grow (redrawn s nq) osq).heap.size (Sort.grow (redrawn s nq) osq) w') from by
    refine (yN st so x z _ (H4.sv.at_.upS (below_regrown s nq osq)) (HA.upS (below_regrown s nq osq))).mono ?_;rintro G w' ⟨t,rfl,ht,hb⟩;have:t=false:=by rw [Bool.eq_false_iff]; exact fun h=>Z (ht.1 h)
    subst this;exact⟨rfl,hb⟩)
   obtain⟨v0,v1,v2,v3⟩:=Blk.r4 (H4.sv.blk);obtain⟨n0,n1,n2,n3⟩:=Blk.r4 (ax.z)
   go_wp2_with fail)
  |(
   guard_hyp O
   simp only [aq.z];clear aq n4 c0 b0 P b1 c2 b2 U b3 c4 b4 c5 b5 c6 b6 c7 b7 c8 b8 c9 b9 a7 aU a8 aW a9 aY aA aZ;refine F.mono ?_;rintro G s ⟨rfl,ai,Y⟩;dsimp only at Y;have ag:=ω (BT.trans ai);have H4:=ω (m.kept ag.z);clear ai F HK H3 aw;obtain⟨z,i⟩:=Y rfl
   have J:=ω (show aE so=0 from by
    have h:=qU (st:=st) (now:=now) (q:=q) m.sv.ok (by rw [T.z]);rwa [T.z] at h)
   have af:=ω (show so.rev=st.rev from by
    have h:=wU st now q;rwa [T.z] at h)
   have ao:=(cV.1 J.z).2.1;unfold dR at ao;simp only [Bool.and_eq_true,decide_eq_true_eq] at ao;have BN:=ω (show ∀ b,b<w.heap.size->sE 106 V w b->Far b z from fun b hb _=>⟨kX.Pf i.own.j (by omega),kX.Pf i.own.n (by omega),kX.Pf i.own.l (by omega)⟩);have bk:=i.own.lj;have bl:=i.own.ln;have bm:=i.own.ll;have Hz:=ω (show z.nj<=40/\z.nn<=40/\z.nl<=40 from by omega);have HA:=ω (show StAt s s so z from i.own.at2 (by omega) (by omega) (by omega) (gu J.z).1 (gu J.z).2.1 (gu J.z).2.2);have ax:=ω i.nb;have aO:=ω i.wk;clear i bk bl bm ao Y T
   have HS:=ω (fun nq osq=>show ψ 82 #[.agg #[st.rev,.slice x.aj x.nj x.cj,.slice x.an x.nn x.cn,.slice x.al x.nl x.cl],.agg #[so.rev,.slice z.aj z.nj z.cj,.slice z.an z.nn z.cn,.slice z.al z.nl z.cl]] (Sort.grow (redrawn s nq) osq) (fun G w'=>G = .returned (.bool false)/\Below (Sort.grow (redrawn s nq) osq).heap.size (Sort.grow (redrawn s nq) osq) w') from by
    refine (yN st so x z _ (H4.sv.at_.upS (below_regrown s nq osq)) (HA.upS (below_regrown s nq osq))).mono ?_;rintro G w' ⟨t,rfl,ht,hb⟩;have:t=false:=by rw [Bool.eq_false_iff]; exact fun h=>Z (ht.1 h)
    subst this;exact⟨rfl,hb⟩)
   obtain⟨v0,v1,v2,v3⟩:=Blk.r4 (H4.sv.blk);obtain⟨n0,n1,n2,n3⟩:=Blk.r4 (ax.z)
   go_wp2_with fail)
  |skip
 refine wp_region_quiet_below (by kernel_rfl) (by kernel_rfl) ?_
 first
  |(
   guard_hyp bn
   repeat (go_big_quiet_step ((fail))))
  |(
   guard_hyp aI
   repeat (go_big_quiet_step ((go_at_call 82; exact Calls.regrown_of (HS.z _ _)))))
 refine wpQuiet_nil ?_;intro _ bZ;obtain⟨⟨nq,osq⟩,hw''⟩:=bZ;subst hw''
 first|(guard_hyp aa;have hq:=below_regrown w3 nq osq)|have hq:=below_regrown s nq osq
 first
  |(
   guard_hyp aI
   clear v0 v1 v2 v3 n0 n1 n2 n3 HS)
  |skip
 dsimp only
 first|(guard_hyp aa;generalize Sort.grow (redrawn w3 nq) osq=s at hq |-)|generalize Sort.grow (redrawn s nq) osq=B at hq |-
 first|(guard_hyp aa;have bw:=ω (H3.kept hq))|(guard_hyp a3;have bx:=ω (H4.kept hq))|have H5:=ω (H4.kept hq)
 first
  |(
   guard_hyp aa
   clear hq H3;clear m HK)
  |(
   guard_hyp a3
   clear hq H4;clear m ag BT)
  |(
   guard_hyp aI
   have aN:=ω (HA.upS hq);have ac:=ω (ax.below hq ax.lt);have au:=ω (aO.below hq aO.lt);have aQ:=ω (ag.trans (hq.mono ag.size));clear hq H4 HA ax aO ag)
 first|(guard_hyp aa;have S:=bw.toE)|(guard_hyp a3;have S:=bx.toE)|have bV:=H5.sv.blk.lt
 first|(guard_hyp aa;have aH:=bw.d.lt)|(guard_hyp a3;have aH:=bx.d.lt)|have cc:=ac.lt
 first|(guard_hyp aa;have NJ:=bw.sv.blk.lt)|(guard_hyp a3;have NJ:=bx.sv.blk.lt)|have ca:=au.lt
 first
  |(
   guard_hyp aa
   obtain⟨I,ad⟩:∃ I,s.alloc (.cells eS 95)=I:=⟨_,rfl⟩)
  |(
   guard_hyp a3
   obtain⟨I,ad⟩:∃ I,B.alloc (.cells eS 95)=I:=⟨_,rfl⟩)
  |(
   guard_hyp ab
   have k1:ζ B (e.heap.size+1) 1 (.int .i64 nw):=au.cell 1;have v4:ζ B V 4 (.int .i64 now):=H5.sv.blk.cell 4;have z4:κ B V 4:=H5.sv.blk.thaw 4;have S:=H5.toE.Pg nw;have aH:=H5.d.lt;rw [World.setCell_alloc_past _ _ _ _ bV] at S;obtain⟨I,ad⟩:∃ I,(B.setCell ⟨V,4,none⟩ (.int .i64 nw)).alloc (.cells eS 95)=I:=⟨_,rfl⟩)
  |(
   guard_hyp ae
   have k1:ζ B (e.heap.size+1) 1 (.int .i64 nw):=au.cell 1;have bE:=aM.1 (cV.1 H5.sv.ok).1;have bX:0<=so.rev:=by have:=af.z; omega
   have bY:so.rev<=1099511627776:=by have:=af.z; omega
   clear bE;have n0:ζ B e 0 (.int .i64 so.rev):=ac.cell 0;have z0:κ B e 0:=ac.thaw 0;obtain⟨C,ap⟩:∃ C,B.setCell ⟨e,0,none⟩ (.int .i64 (so.rev+1))=C:=⟨_,rfl⟩;have am:B.grownBy C (some e):=by rw [<- ap]; exact aR B e 0 _
   have H6:=ω (m.kept (cU aQ.z am mq));have aP:=ω (show Blk C e 26 (stC (tK so) z) from by rw [<- ap]; exact Blk.eq (ac.set 0 _) rfl);have bo:=ω (show StAt C C (tK so) z from by exact ((aN.fY ac.z (iV _ _) am).more am.size).rev _);have bi:C.heap.size=B.heap.size:=by rw [<- ap]; simp [World.setCell]
   have a5:=ω bi;have aG:=ω (ay am au.z (by omega));have aT:=ω ap;clear ap am bi H5 aN ac au aQ k1;have d2:decide (1099511627776<so.rev+1)=true:=t8 (by have:=sG.z; have:=af.z; omega);clear m BT aP bo aG af sG J;have S:=H6.toE;have aH:=H6.d.lt;have NJ:=H6.sv.blk.lt;obtain⟨I,ad⟩:∃ I,C.alloc (.cells eS 95)=I:=⟨_,rfl⟩)
  |(
   guard_hyp O
   have k1:ζ B (e.heap.size+1) 1 (.int .i64 nw):=au.cell 1;have bE:=aM.1 (cV.1 H5.sv.ok).1;have bX:0<=so.rev:=by have:=af.z; omega
   have bY:so.rev<=1099511627776:=by have:=af.z; omega
   clear bE;have n0:ζ B e 0 (.int .i64 so.rev):=ac.cell 0;have z0:κ B e 0:=ac.thaw 0;obtain⟨C,ap⟩:∃ C,B.setCell ⟨e,0,none⟩ (.int .i64 (so.rev+1))=C:=⟨_,rfl⟩;have am:B.grownBy C (some e):=by rw [<- ap]; exact aR B e 0 _
   have H6:=ω (m.kept (cU aQ.z am mq));have aP:=ω (show Blk C e 26 (stC o z) from by rw [<- bp.z]; rw [<- ap]; exact Blk.eq (ac.set 0 _) rfl);have bo:=ω (show StAt C C o z from by rw [<- bp.z]; exact ((aN.fY ac.z (iV _ _) am).more am.size).rev _);have bi:C.heap.size=B.heap.size:=by rw [<- ap]; simp [World.setCell]
   have a5:=ω bi;have aG:=ω (ay am au.z (by omega));have aT:=ω ap;clear ap am bi H5 aN ac au aQ k1;have d2:decide (1099511627776<so.rev+1)=false:=fK (by have:=sG.z; have:=af.z; omega);have bF:=ω (show aE o=0 from by rw [<- bp.z]; exact vL J.z (by have:=af.z; have:=sG.z; omega));obtain⟨D,Q⟩:∃ D,dL st o=D:=⟨_,rfl⟩;have F:=ω Q;obtain⟨w7,bt⟩:∃ w7,C.alloc (.cells eS 95)=w7:=⟨_,rfl⟩)
 first|(guard_hyp aa;obtain⟨DD,ar⟩:∃ DD,s.heap.size=DD:=⟨_,rfl⟩)|(guard_hyp bM;obtain⟨DD,ar⟩:∃ DD,B.heap.size=DD:=⟨_,rfl⟩)|obtain⟨DD,ar⟩:∃ DD,C.heap.size=DD:=⟨_,rfl⟩
 first
  |(
   guard_hyp bv
   rw [ad,ar] at S)
  |(
   guard_hyp O
   have bd:Below C C w7:=by rw [<- bt]; exact (θ).alloc lJ _
   have bz:=ω (show SnE w V e (e.heap.size+1) DD st x now q o z nw D 0 zA w7 from by
    have e1:=m.d.lt;have e2:=aG.lt;have e3:=mq;refine⟨H6.kept bd,aP.below bd aP.lt,aG.below bd aG.lt,bo.upS bd,?_,fun h=>absurd h (by decide),by omega,by omega,by have:=H6.d.lt; omega,by omega,by omega⟩;rw [<- bt,<- ar]; exact n5 C _)
   have HB:=ω (show ∀ (p:World) {γ:eF},SnE w V e (e.heap.size+1) DD st x now q o z nw D 0 γ p->ψ 83 #[.agg (stC st x),.agg (stC o z)] p (fun G w'=>∃ dx:eF,G = .returned (.agg (dC D dx))/\dz w' w' D dx/\Below p p w') from fun p γ c=>by
    refine (D2 st o x z p c.h.sv.at_ c.a (by have:=a6.z; omega) (by have:=a6.z; omega) (by have:=a6.z; omega) (by have:=Hz.z; omega) (by have:=Hz.z; omega) (by have:=Hz.z; omega)).mono ?_;rintro G w' ⟨dx,rfl,ho,hb⟩;have i:=uM c.h.sv.at_ c.a c.h.sv.ok bF.z;rw [F.z] at ho i |-;exact⟨dx,rfl,ho.at_ i,hb⟩))
 first|(guard_hyp O;have bH:=ω bt)|have Hw:=ω ad
 have Hd:=ω ar
 first
  |(
   guard_hyp bn
   obtain⟨D,Q⟩:∃ D,zD=D:=⟨_,rfl⟩;obtain⟨dx,a1⟩:∃ dx,zA=dx:=⟨_,rfl⟩;have a4:=ω (show D=if (⟨E,false,st,now⟩:lF).ch=true then dL st (⟨E,false,st,now⟩:lF).st else zD from Q.symm);rw [Q,a1] at S)
  |(
   guard_hyp ab
   obtain⟨D,Q⟩:∃ D,zD=D:=⟨_,rfl⟩;obtain⟨dx,a1⟩:∃ dx,zA=dx:=⟨_,rfl⟩;have a4:=ω (show D=if (⟨0,false,st,nw⟩:lF).ch=true then dL st (⟨0,false,st,nw⟩:lF).st else zD from Q.symm);rw [Q,a1] at S)
  |(
   guard_hyp ae
   obtain⟨D,Q⟩:∃ D,zD=D:=⟨_,rfl⟩;obtain⟨dx,a1⟩:∃ dx,zA=dx:=⟨_,rfl⟩;have a4:=ω (show D=if (⟨2,false,st,now⟩:lF).ch=true then dL st (⟨2,false,st,now⟩:lF).st else zD from Q.symm);rw [Q,a1] at S)
  |(
   guard_hyp O
   have aS:=ω (show B.heap.size=DD from by rw [<- a5.z]; exact ar);have a4:=ω (show D=if (⟨0,true,o,nw⟩:lF).ch=true then dL st (⟨0,true,o,nw⟩:lF).st else zD from by rw [if_pos rfl]; exact Q.symm);clear Q bt ar bd F bF J af sG bp aP bo aG H6 m BT
   go_wp2_with fail
   simp only [aT.z,a5.z,bH.z,Hd.z,aS.z];clear aT a5 bH Hd aS n0 z0 d2;refine rq (Γ:=eF) 78 (fun γ=>NG V e st x o z D γ) [5,6] (fun H γ p=>SnE w V e (e.heap.size+1) DD st x now q o z nw D H γ p) zA (show SnE w V e (e.heap.size+1) DD st x now q o z nw D 0 zA w7.drew from bz.drew) ?_ ?_
   · clear bz;refine⟨?_,?_,?_,?_,?_,?_,?_,trivial⟩
     · exact ok0 0 2 0 rfl fun _=>rfl
     · exact ok1 0 2 0 50 rfl rfl (fun _ _ h=>h) fun _=>rfl
     · exact ok1 0 2 1 51 rfl rfl (fun _ _ h=>h) fun _=>rfl
     · refine okQ 0 2 fun H γ a p _ _ c u=>?_;obtain⟨u1,L,rfl⟩:=u.g 2 52 rfl rfl;obtain⟨a0,be,bf,bg⟩:=Blk.c4 (c.h.sv.blk);simp [go_sem,Oper.wp,execOp,Act.eval,L,a0,be,bf,bg];exact⟨_,rfl,γ,fun _ _ _ h=>h,rfl,c⟩
     · refine okQ 0 2 fun H γ a p _ _ c u=>?_;have L:=u.k 8 rfl;obtain⟨a0,be,bf,bg⟩:=Blk.c4 (c.n);simp [go_sem,Oper.wp,execOp,Act.eval,L,a0,be,bf,bg];exact⟨_,rfl,γ,fun _ _ _ h=>h,rfl,c⟩
     · refine .inl ⟨0,rfl,fun γ a p c u=>aL rfl ?_⟩;obtain⟨u1,L,rfl⟩:=u.g 3 53 rfl rfl;obtain⟨u2,h2,rfl⟩:=u.g 4 54 rfl rfl;have c:=(show SnE w V e (e.heap.size+1) DD st x now q o z nw D 0 γ p from c);simp [go_sem,Oper.wp,execOp,Act.eval,L,h2];refine (HB.z _ c).mono ?_;rintro G w' ⟨dx,rfl,hd,hb⟩;exact⟨_,rfl,dx,fun j v hj h=>NH hj h,rfl,SnE.call c hb hd⟩
     · refine .inl ⟨1,rfl,fun γ a p c u=>aL rfl ?_⟩;have L:=u.k 11 rfl;obtain⟨u2,h2,rfl⟩:=u.g 5 55 rfl rfl;have c:=(show SnE w V e (e.heap.size+1) DD st x now q o z nw D 1 γ p from c);have M:=(show Blk p DD 95 eS from c.db);obtain⟨z0,z1,z2,z3,z4,z5,z6,z7⟩:=Blk.z8 (M);obtain⟨c0,P,c2,U,c4,c5,c6,c7⟩:=Blk.c8 (M);obtain⟨ba,bb⟩:=Blk.S8 (M) (.int .i64 D.from_) (.int .i64 D.to_) (.slice γ.aj γ.nj γ.cj) (.slice γ.an γ.nn γ.cn) (.slice γ.al γ.nl γ.cl) (.slice γ.agj γ.ngj γ.cgj) (.slice γ.agn γ.ngn γ.cgn) (.slice γ.agl γ.ngl γ.cgl);have a2:=SnE.store c bb ba;clear M c ba bb;simp [go_sem,Oper.wp,execOp,Act.eval,L,h2,c0,P,c2,U,c4,c5,c6,c7,z0,z1,z2,z3,z4,z5,z6,z7];exact⟨.int .i64 0,γ,fun _ _ _ h=>h,trivial,a2⟩
   intro dx bQ wz hd;have i:=(show SnE w V e (e.heap.size+1) DD st x now q o z nw D 2 dx wz from hd.ph);obtain⟨fv,rfl,bh⟩:=hd.frame [50,51,52,53,54,55] rfl;have hv:=i.h.sv.blk;have cg:=hv.lt;have cd:=i.n.lt;have cb:=i.k.lt;obtain⟨n0,n1,n2,n3⟩:=Blk.c4 (i.n);obtain⟨c0,P,c2,U⟩:=Blk.c4 (hv);obtain⟨z0,z1,z2,z3⟩:=Blk.z4 (hv);obtain⟨bc,bB⟩:=Blk.S4 (hv) (.int .i64 o.rev) (.slice z.aj z.nj z.cj) (.slice z.an z.nn z.cn) (.slice z.al z.nl z.cl);obtain⟨y0,y1,y2,y3⟩:=Blk.c4 bc;have y4:ζ (sX (sX (sX (sX wz V 0 (.int .i64 o.rev)) V 1 (.slice z.aj z.nj z.cj)) V 2 (.slice z.an z.nn z.cn)) V 3 (.slice z.al z.nl z.cl)) V 4 (.int .i64 now):=bc.cell 4;have yz:κ (sX (sX (sX (sX wz V 0 (.int .i64 o.rev)) V 1 (.slice z.aj z.nj z.cj)) V 2 (.slice z.an z.nn z.cn)) V 3 (.slice z.al z.nl z.cl)) V 4:=bc.thaw 4;have yk:ζ (sX (sX (sX (sX wz V 0 (.int .i64 o.rev)) V 1 (.slice z.aj z.nj z.cj)) V 2 (.slice z.an z.nn z.cn)) V 3 (.slice z.al z.nl z.cl)) (e.heap.size+1) 1 (.int .i64 nw):=(ay bB i.k (by have:=i.ks; have:=i.h.lt; omega)).cell 1;have S:=i.end_ (aJ bB 4 (.int .i64 nw)) (Blk.eq (bc.set 4 (.int .i64 nw)) (show _=iB o z nw from rfl));obtain⟨I,ad⟩:∃ I,((((wz.setCell ⟨V,0,none⟩ (.int .i64 o.rev)).setCell ⟨V,1,none⟩ (.slice z.aj z.nj z.cj)).setCell ⟨V,2,none⟩ (.slice z.an z.nn z.cn)).setCell ⟨V,3,none⟩ (.slice z.al z.nl z.cl)).setCell ⟨V,4,none⟩ (.int .i64 nw)=I:=⟨_,rfl⟩;rw [ad] at S)
 have aD:=ω S
 first
  |(
   guard_hyp bn
   clear ad ar S Q a1)
  |(
   guard_hyp ab
   clear ad ar S Q a1 H5 aN ac au aQ m BT)
  |(
   guard_hyp ae
   clear ad ar S Q a1;have aS:=ω (show B.heap.size=DD from by rw [<- a5.z]; exact Hd))
  |(
   guard_hyp O
   have Hw:=ω ad;clear hd bh i hv bc bB S ad bz HB y0 y1 y2 y3;simp only [foldl_cons,foldl_nil,setIfInBounds_toArray,set_cons_succ,set_cons_zero])
 go_wp2_with fail
 first
  |(
   guard_hyp bn
   simp only [Hw.z,Hd.z];clear Hw Hd aH NJ)
  |(
   guard_hyp ab
   simp only [Hw.z,Hd.z];clear Hw Hd aH k1 v4 z4)
  |(
   guard_hyp ae
   simp only [aT.z,a5.z,Hw.z,Hd.z,aS.z];clear Hw Hd aH NJ;clear aT a5 aS)
  |(
   guard_hyp O
   simp only [Hw.z];clear Hw y4 yz yk)
 first|(guard_hyp ab;refine rq (Γ:=Unit) 78 (fun _=>EI V st 0 D dx false) [9,10] (fun H _=>SdE [] 106 w V DD st x nw D dx (rcP 0 st.rev H) (dcP D dx H)) () (show SdE [] 106 w V DD st x nw D dx #[(0:Int),(0:Int)] eS (I).drew from aD.drew) ?_ ?_)|(guard_hyp ae;refine rq (Γ:=Unit) 78 (fun _=>EI V st 2 D dx false) [9,10] (fun H _=>SdE [] 106 w V DD st x now D dx (rcP 2 st.rev H) (dcP D dx H)) () (show SdE [] 106 w V DD st x now D dx #[(0:Int),(0:Int)] eS (I).drew from aD.drew) ?_ ?_)|(guard_hyp O;refine rq (Γ:=Unit) 78 (fun _=>EI V o 0 D dx true) [9,10] (fun H _=>SdE [] 106 w V DD o z nw D dx (rcP 0 o.rev H) (dcP D dx H)) () (show SdE [] 106 w V DD o z nw D dx #[(0:Int),(0:Int)] eS (I).drew from aD.drew) ?_ ?_)|refine rq (Γ:=Unit) 78 (fun _=>EI V st E D dx false) [9,10] (fun H _=>SdE [] 106 w V DD st x now D dx (rcP E st.rev H) (dcP D dx H)) () (show SdE [] 106 w V DD st x now D dx #[(0:Int),(0:Int)] eS (I).drew from aD.drew) ?_ ?_
 · clear aD;refine⟨?_,?_,?_,?_,?_,?_,?_,?_,?_,?_,?_,?_,trivial⟩
   · exact ok0 0 0 7 rfl fun _=>rfl
   · exact ok0 0 0 0 rfl fun _=>rfl
   · exact ok1 0 0 1 70 rfl rfl (fun _ _ h=>h) fun _=>rfl
   · exact ok1 0 0 2 71 rfl rfl (fun _ _ h=>h) fun _=>rfl
   · exact ok1 0 0 3 72 rfl rfl (fun _ _ h=>h) fun _=>rfl
   · refine okQ 0 0 fun H γ a p _ _ c u=>?_;obtain⟨u1,L,rfl⟩:=u.g 4 73 rfl rfl
     first|(guard_hyp O;have a0:ζ p V 0 (.int .i64 o.rev):=c.v.cell 0)|have a0:ζ p V 0 (.int .i64 st.rev):=c.v.cell 0
     simp [go_sem,Oper.wp,execOp,Act.eval,L,a0];exact⟨_,rfl,rfl,c⟩
   · refine okQ 0 0 fun H γ a p _ _ c u=>?_;obtain⟨u1,L,rfl⟩:=u.g 0 69 rfl rfl;obtain⟨u2,h2,rfl⟩:=u.g 5 74 rfl rfl;simp [go_sem,Oper.wp,execOp,Act.eval,L,h2];exact⟨_,rfl,rfl,c⟩
   · refine okQ 0 1 fun H γ a p _ _ c u=>?_;have L:=u.k 11 rfl;obtain⟨a0,be,bf,bg,bR,bS,bT,bU⟩:=Blk.c8 (c.db);simp [go_sem,Oper.wp,execOp,Act.eval,L,a0,be,bf,bg,bR,bS,bT,bU];exact⟨_,rfl,rfl,c⟩
   · exact ok0 0 2 10 rfl fun _=>rfl
   · refine .inl ⟨0,rfl,fun γ a p c u=>aL rfl ?_⟩;have L:=u.k 4 rfl;obtain⟨u2,h2,rfl⟩:=u.g 6 75 rfl rfl
     first|(guard_hyp ab;have c:=(show SdE [] 106 w V DD st x nw D dx #[(0:Int),(0:Int)] eS p from c))|(guard_hyp O;have c:=(show SdE [] 106 w V DD o z nw D dx #[(0:Int),(0:Int)] eS p from c))|have c:=(show SdE [] 106 w V DD st x now D dx #[(0:Int),(0:Int)] eS p from c)
     have M:=c.r;obtain⟨z0,z1⟩:=Blk.z2 (M);obtain⟨c0,P⟩:=Blk.c2 (M)
     first|(guard_hyp ab;have a2:=c.BM (gJ 0 0) (aJ (aJ (bO p (w.heap.size+1)) 0 (.int .i64 0)) 1 (.int .i64 st.rev)) (Blk.eq ((M.set 0 (.int .i64 0)).set 1 (.int .i64 st.rev)) (show _=rcP 0 st.rev 1 from rfl)))|(guard_hyp ae;have a2:=c.BM (gJ 0 0) (aJ (aJ (bO p (w.heap.size+1)) 0 (.int .i64 2)) 1 (.int .i64 st.rev)) (Blk.eq ((M.set 0 (.int .i64 2)).set 1 (.int .i64 st.rev)) (show _=rcP 2 st.rev 1 from rfl)))|(guard_hyp O;have a2:=c.BM (gJ 0 0) (aJ (aJ (bO p (w.heap.size+1)) 0 (.int .i64 0)) 1 (.int .i64 o.rev)) (Blk.eq ((M.set 0 (.int .i64 0)).set 1 (.int .i64 o.rev)) (show _=rcP 0 o.rev 1 from rfl)))|have a2:=c.BM (gJ 0 0) (aJ (aJ (bO p (w.heap.size+1)) 0 (.int .i64 E)) 1 (.int .i64 st.rev)) (Blk.eq ((M.set 0 (.int .i64 E)).set 1 (.int .i64 st.rev)) (show _=rcP E st.rev 1 from rfl))
     clear M c;simp [go_sem,Oper.wp,execOp,Act.eval,L,h2,c0,P,z0,z1];exact⟨⟨.int .i64 0,trivial⟩,a2⟩
   · refine .inl ⟨1,rfl,fun γ a p c u=>aL rfl ?_⟩;have L:=u.k 5 rfl;obtain⟨u2,h2,rfl⟩:=u.g 7 76 rfl rfl
     first|(guard_hyp ab;have c:=(show SdE [] 106 w V DD st x nw D dx (rcP 0 st.rev 1) eS p from c))|(guard_hyp ae;have c:=(show SdE [] 106 w V DD st x now D dx (rcP 2 st.rev 1) eS p from c))|(guard_hyp O;have c:=(show SdE [] 106 w V DD o z nw D dx (rcP 0 o.rev 1) eS p from c))|have c:=(show SdE [] 106 w V DD st x now D dx (rcP E st.rev 1) eS p from c)
     have M:=c.d;obtain⟨z0,z1,z2,z3,z4,z5,z6,z7⟩:=Blk.z8 (M);obtain⟨c0,P,c2,U,c4,c5,c6,c7⟩:=Blk.c8 (M);obtain⟨ba,bb⟩:=Blk.S8 (M) (.int .i64 D.from_) (.int .i64 D.to_) (.slice dx.aj dx.nj dx.cj) (.slice dx.an dx.nn dx.cn) (.slice dx.al dx.nl dx.cl) (.slice dx.agj dx.ngj dx.cgj) (.slice dx.agn dx.ngn dx.cgn) (.slice dx.agl dx.ngl dx.cgl);have a2:=c.M9 (rL zD zA) bb (dc':=dC D dx) ba;clear M c ba bb;simp [go_sem,Oper.wp,execOp,Act.eval,L,h2,c0,P,c2,U,c4,c5,c6,c7,z0,z1,z2,z3,z4,z5,z6,z7];exact⟨⟨.int .i64 0,trivial⟩,a2⟩
   · exact ok1 2 2 8 77 rfl rfl (fun _ _ h=>h) fun _=>rfl
 intro γ bQ wz hd
 first|(guard_hyp ab;have i:=(show SdE [] 106 w V DD st x nw D dx #[(0:Int),st.rev] (dC D dx) wz from hd.ph))|(guard_hyp ae;have i:=(show SdE [] 106 w V DD st x now D dx #[(2:Int),st.rev] (dC D dx) wz from hd.ph))|(guard_hyp O;have i:=(show SdE [] 106 w V DD o z nw D dx #[(0:Int),o.rev] (dC D dx) wz from hd.ph))|have i:=(show SdE [] 106 w V DD st x now D dx #[E,st.rev] (dC D dx) wz from hd.ph)
 obtain⟨fv,rfl,bh⟩:=hd.frame [69,70,71,72,73,74,75,76,77,6] rfl
 first|(guard_hyp O;have f6:fv 6 = .bool true:=bh 11 _ 6 rfl rfl)|have f6:fv 6 = .bool false:=bh 11 _ 6 rfl rfl
 obtain⟨r0,r1⟩:=Blk.c2 (i.r);obtain⟨y0,y1,y2,y3,y4,y5,y6,y7⟩:=Blk.c8 (i.d)
 first|(guard_hyp ab;have bq:=ω (i.NK (st:=st) (R:=⟨0,false,st,nw⟩) rfl rfl a4.z BN.z))|(guard_hyp ae;have bq:=ω (i.NK (st:=st) (R:=⟨2,false,st,now⟩) rfl rfl a4.z BN.z))|(guard_hyp O;have bq:=ω (i.NK (st:=st) (R:=⟨0,true,o,nw⟩) rfl rfl a4.z BN.z))|have bq:=ω (i.NK (st:=st) (R:=⟨E,false,st,now⟩) rfl rfl a4.z BN.z)
 clear hd bh i aD;simp only [foldl_cons,foldl_nil,setIfInBounds_toArray,set_cons_succ,set_cons_zero,f6];clear f6;go_wp2
 first|(guard_hyp ab;refine bodyPost_ret (v:=.tuple #[.agg #[.int .i64 0,.int .i64 st.rev],.agg (dC D dx),.bool false]) (by simp [results,Tryz.results43,go_sem,dC, *]) rfl ?_)|(guard_hyp ae;refine bodyPost_ret (v:=.tuple #[.agg #[.int .i64 2,.int .i64 st.rev],.agg (dC D dx),.bool false]) (by simp [results,Tryz.results43,go_sem,dC, *]) rfl ?_)|(guard_hyp O;refine bodyPost_ret (v:=.tuple #[.agg #[.int .i64 0,.int .i64 o.rev],.agg (dC D dx),.bool true]) (by simp [results,Tryz.results43,go_sem,dC, *]) rfl ?_)|refine bodyPost_ret (v:=.tuple #[.agg #[.int .i64 E,.int .i64 st.rev],.agg (dC D dx),.bool false]) (by simp [results,Tryz.results43,go_sem,dC, *]) rfl ?_
 exact bq)
theorem xC {q:aK} (a:ROk q) (h:cO q=0):K6 q:=fun base st x N c now w d e f g i=>by
 have b:=AZ h;exact OG base st x N c now q w d e f ⟨⟨a.j1,a.j2⟩,⟨a.n1,a.n2⟩,⟨a.l1,a.l2⟩⟩ b.1 g i b.2.2
theorem Jh (q:aK) (st:ah) (x:StA) (now:Int) (V:Nat) (w:World) (h:SrvAt w 106 V st x now) (b:ROk q) (e:Tabs w) :
 ψ 43 #[π V 0,bP q] w (lL 106 V st (lO st now (lG st now q)) w):=by
 by_cases a:cO q=0
 · by_cases c:(doR st now q).1=0
   · by_cases d:lM st (doR st now q).2.1
     · rw [Co a c d]; exact pS.2.2.1 q st x now V w h (tM b) (xC b a) e a c d
     · by_cases g:1099511627776<st.rev+1
       · rw [EL a c d g]; exact pS.2.2.2.1 q st x now V w h (tM b) (xC b a) e a c d g
       · rw [EM a c d g]; exact pS.2.2.2.2 q st x now V w h (tM b) (xC b a) e a c d g
   · rw [EO a c]; exact pS.2.1 q st x now V w h (tM b) (xC b a) e a c
 · rw [EP a]; exact pS.1 q st x now V w h (tM b) e a
end Go.Proofs.YtimglglgcgpjgaaGreatDoor
