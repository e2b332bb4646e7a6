/- Of the proof of a statement: SvDo, HubF. -/
import Derived.Test.YtimglglgcgpjgabGreatDoorPDEncR
import Derived.Test.YtimglglgcgpjgabGreatDoorPSrcRow
set_option linter.unusedVariables false
set_option linter.unusedSimpArgs false
set_option maxRecDepth 100000
set_option maxHeartbeats 8000000
namespace Go.Proofs.YtimglglgcgpjgabGreatDoor
open List (foldl_cons foldl_nil setIfInBounds_toArray set_cons_succ set_cons_zero)
open Go.RowKit
theorem EI {st:ah} {now:Int} {q:aL} (h:cN q≠0):lO st now (lD st now q)=⟨cN q,false,st,now⟩:=by
 unfold lD; rw [if_neg h]; unfold lO; rw [if_neg h]
theorem EH {st:ah} {now:Int} {q:aL} (h:cN q=0) (a:(doR st now q).1≠0):lO st now (lD st now q)=⟨(doR st now q).1,false,st,now⟩:=by
 unfold lD; rw [if_pos h]; unfold lO; rw [if_neg a]
theorem Cj {st:ah} {now:Int} {q:aL} (h:cN q=0) (a:(doR st now q).1=0) (b:lK st (doR st now q).2.1):lO st now (lD st now q)=⟨0,false,st,(doR st now q).2.2⟩:=by
 unfold lD; rw [if_pos h]; unfold lO; rw [if_pos a,if_pos b]
theorem EF {st:ah} {now:Int} {q:aL} (h:cN q=0) (a:(doR st now q).1=0) (b:¬ lK st (doR st now q).2.1) (c:1099511627776<st.rev+1):lO st now (lD st now q)=⟨2,false,st,now⟩:=by
 unfold lD; rw [if_pos h]; unfold lO; rw [if_pos a,if_neg b,if_pos c]
theorem EG {st:ah} {now:Int} {q:aL} (h:cN q=0) (a:(doR st now q).1=0) (b:¬ lK st (doR st now q).2.1) (c:¬ 1099511627776<st.rev+1):lO st now (lD st now q)=⟨0,true,tD (doR st now q).2.1,(doR st now q).2.2⟩:=by
 unfold lD; rw [if_pos h]; unfold lO; rw [if_pos a,if_neg b,if_neg c]
structure yJ (w0:World) (V:Nat) (st:ah) (x:StA) (now:Int) (q:aL) (w:World):Prop where
 sv:SrvAt w 103 V st x now
 q:Blk w w0 88 (aT q)
 r:Blk w (w0.heap.size+1) 93 #[(0:Int),(0:Int)]
 d:Blk w (w0.heap.size+2) 95 eS
 below:Below w0 w0 w
 lt:V<w0.heap.size
theorem yJ.kept {w0 w w':World} {V:Nat} {st:ah} {x:StA} {now:Int} {q:aL} (h:yJ w0 V st x now q w) (a:Below w w w'):yJ w0 V st x now q w':=
 ⟨h.sv.below a,h.q.below a h.q.lt,h.r.below a h.r.lt,h.d.below a h.d.lt,h.below.trans (a.mono h.below.size),h.lt⟩
theorem yJ.toE {w0 w:World} {V:Nat} {st:ah} {x:StA} {now:Int} {q:aL} (h:yJ w0 V st x now q w):SdE [] 103 w0 V w st x now zD zA #[(0:Int),(0:Int)] eS (χ w eS 95):=by
 have a:Below w w (χ w eS 95):=(θ).alloc lQ _;have k:=h.kept a;have:=h.d.lt;exact⟨k.sv.blk,k.sv.at_,CR _ _,n5 w _,k.r,k.d,grown_of V k.below,h.lt,by omega,k.sv.at_.pV k.sv.blk (qW _ _ _),Dd V⟩
structure SnE (w0:World) (V N K DD:Nat) (st:ah) (x:StA) (now:Int) (q:aL) (so:ah) (z:StA) (nw:Int) (D:aY) (p:Nat) (γ:eG) (w:World):Prop where
 h:yJ w0 V st x now q w
 n:Blk w N 26 (stC so z)
 k:Blk w K 159 #[π N 0,nw]
 a:StAt w w so z
 db:Blk w DD 95 (dcP D γ p)
 del:0<p->dB w w D γ
 ns:w0.heap.size+3<=N
 ks:w0.heap.size+3<=K
 ds:w0.heap.size+3<=DD
 nd:N≠DD
 kd:K≠DD
section
variable {w0 w w':World} {V N K DD:Nat} {st:ah} {x:StA} {now:Int} {q:aL} {so:ah} {z:StA} {nw:Int} {D:aY} {γ dx:eG}
theorem yJ.drew (h:yJ w0 V st x now q w):yJ w0 V st x now q w.drew:=⟨⟨h.sv.blk,h.sv.at_.drew,h.sv.ok,h.sv.t⟩,h.q,h.r,h.d,h.below.drew,h.lt⟩
theorem SnE.drew {p:Nat} (h:SnE w0 V N K DD st x now q so z nw D p γ w):SnE w0 V N K DD st x now q so z nw D p γ w.drew:=
 ⟨h.h.drew,h.n,h.k,h.a.drew,h.db,fun b=>(h.del b).drew,h.ns,h.ks,h.ds,h.nd,h.kd⟩
theorem SnE.call (h:SnE w0 V N K DD st x now q so z nw D 0 γ w) (b:Below w w w') (c:dB w' w' D dx):SnE w0 V N K DD st x now q so z nw D 1 dx w':=
 ⟨h.h.kept b,h.n.below b h.n.lt,h.k.below b h.k.lt,h.a.upS b,h.db.below b h.db.lt,fun _=>c,h.ns,h.ks,h.ds,h.nd,h.kd⟩
theorem yJ.but (h:yJ w0 V st x now q w) {g:Nat} {t:TypeId} {cs:Array Value} (b:Blk w g t cs) (c:gJ cs) (a:w.grownBy w' (some g)) (e:w0.heap.size+3<=g):yJ w0 V st x now q w':=by
 have:=h.lt;exact⟨⟨ay a h.sv.blk (by omega),(h.sv.at_.gy b c a).more a.size,h.sv.ok,h.sv.t⟩,ay a h.q (by omega),ay a h.r (by omega),ay a h.d (by omega),cR h.below a (by omega),h.lt⟩
theorem SnE.store (h:SnE w0 V N K DD st x now q so z nw D 1 γ w) (b:w.grownBy w' (some DD)) (e:Blk w' DD 95 (dC D γ)):SnE w0 V N K DD st x now q so z nw D 2 γ w':=by
 have c:Blk w DD 95 (dcP D γ 1):=h.db;have d:gJ (dcP D γ 1):=qY zD zA;exact⟨h.h.but c d b h.ds,ay b h.n h.nd,ay b h.k h.kd,(h.a.gy c d b).more b.size,e,fun _=>((h.del (by decide)).gy c d b).more b.size,h.ns,h.ks,h.ds,h.nd,h.kd⟩
theorem SnE.end_ (h:SnE w0 V N K DD st x now q so z nw D 2 γ w) (b:w.grownBy w' (some V)) (f:Blk w' V 103 (jw so z nw)):SdE [] 103 w0 V DD so z nw D γ #[(0:Int),(0:Int)] eS w':=by
 have c:=h.h.lt;have e:=h.ds;exact⟨f,(h.a.gy h.h.sv.blk (qW _ _ _) b).more b.size,((h.del (by decide)).gy h.h.sv.blk (qW _ _ _) b).more b.size,ay b h.db (by omega),ay b h.h.r (by omega),ay b h.h.d (by omega),aP (grown_of V h.h.below) b,c,e,h.a.pV h.h.sv.blk (qW _ _ _),(h.del (by decide)).pV h.h.sv.blk (qW _ _ _)⟩
end
def NK (V N:Nat) (st:ah) (x:StA) (so:ah) (z:StA) (D:aY) (γ:eG):Nat->Value->Prop
 | 0,u=>u = π V 0
 | 1,u=>u = π V 0
 | 2,u=>u = π V 0
 | 3,u=>u = .agg #[.int .i64 st.rev,.slice x.aj x.nj x.cj,.slice x.an x.nn x.cn,.slice x.al x.nl x.cl]
 | 4,u=>u = .agg #[.int .i64 so.rev,.slice z.aj z.nj z.cj,.slice z.an z.nn z.cn,.slice z.al z.nl z.cl]
 | 5,u=>u = .agg #[.int .i64 D.from_,.int .i64 D.to_,.slice γ.aj γ.nj γ.cj,.slice γ.an γ.nn γ.cn,.slice γ.al γ.nl γ.cl,.slice γ.agj γ.ngj γ.cgj,.slice γ.agn γ.ngn γ.cgn,.slice γ.agl γ.ngl γ.cgl]
 | _,_=>True
theorem NL {V N:Nat} {st:ah} {x:StA} {so:ah} {z:StA} {D:aY} {γ b:eG} {j:Nat} {v:Value} (a:j≠5) (h:NK V N st x so z D γ j v):NK V N st x so z D b j v:=by
 unfold NK at *
 split at h
 all_goals first | exact h | exact absurd rfl a
theorem pO :
 (∀ (q:aL) (st:ah) (x:StA) (now:Int) (V:Nat) (w:World) (h:SrvAt w 103 V st x now) (ae:Jg q) (W:Tabs w) (bq:cN q≠0),ψ 37 #[π V 0,bO q] w (qj 103 V st ⟨cN q,false,st,now⟩ w)) /\
 (∀ (q:aL) (st:ah) (x:StA) (now:Int) (V:Nat) (w:World) (h:SrvAt w 103 V st x now) (ae:Jg q) (ar:KV q) (W:Tabs w) (S:cN q=0) (NM:(doR st now q).1≠0),ψ 37 #[π V 0,bO q] w (qj 103 V st ⟨(doR st now q).1,false,st,now⟩ w)) /\
 (∀ (q:aL) (st:ah) (x:StA) (now:Int) (V:Nat) (w:World) (h:SrvAt w 103 V st x now) (ae:Jg q) (ar:KV q) (W:Tabs w) (S:cN q=0) (Q:(doR st now q).1=0) (Y:lK st (doR st now q).2.1),ψ 37 #[π V 0,bO q] w (qj 103 V st ⟨0,false,st,(doR st now q).2.2⟩ w)) /\
 (∀ (q:aL) (st:ah) (x:StA) (now:Int) (V:Nat) (w:World) (h:SrvAt w 103 V st x now) (ae:Jg q) (ar:KV q) (W:Tabs w) (S:cN q=0) (Q:(doR st now q).1=0) (Y:¬ lK st (doR st now q).2.1) (a7:1099511627776<st.rev+1),ψ 37 #[π V 0,bO q] w (qj 103 V st ⟨2,false,st,now⟩ w)) /\
 (∀ (q:aL) (st:ah) (x:StA) (now:Int) (V:Nat) (w:World) (h:SrvAt w 103 V st x now) (ae:Jg q) (ar:KV q) (W:Tabs w) (S:cN q=0) (Q:(doR st now q).1=0) (Y:¬ lK st (doR st now q).2.1) (a7:¬ 1099511627776<st.rev+1),ψ 37 #[π V 0,bO q] w (qj 103 V st ⟨0,true,tD (doR st now q).2.1,(doR st now q).2.2⟩ w)):=by
 refine⟨@fun q st x now V w h ae W bq=>(fun(Z bg C6:Unit)=>?_) () () (),@fun q st x now V w h ae ar W S NM=>(fun(a1 bs bg bN C6:Unit)=>?_) () () () () (),@fun q st x now V w h ae ar W S Q Y=>(fun(aa bs aN bN C6:Unit)=>?_) () () () () (),@fun q st x now V w h ae ar W S Q Y a7=>(fun(ai bs aN bM C6:Unit)=>?_) () () () () (),@fun q st x now V w h ae ar W S Q Y a7=>(fun(J bs aN bM:Unit)=>?_) () () () ()⟩<;>(
 first
  |(
   guard_hyp Z
   obtain⟨E,S⟩:∃ E,cN q=E:=⟨_,rfl⟩;rw [S] at bq |-)
  |(
   guard_hyp a1
   obtain⟨⟨E,so,nw⟩,U⟩:∃ R,doR st now q=R:=⟨_,rfl⟩;rw [U] at NM |-;dsimp only at NM |-)
  |(
   guard_hyp aa
   obtain⟨⟨E,so,nw⟩,U⟩:∃ R,doR st now q=R:=⟨_,rfl⟩;rw [U] at Q Y |-;dsimp only at Q Y |-;subst Q)
  |(
   guard_hyp ai
   obtain⟨⟨E,so,nw⟩,U⟩:∃ R,doR st now q=R:=⟨_,rfl⟩;rw [U] at Q Y;dsimp only at Q Y;subst Q;have tE:=ω a7;clear a7)
  |(
   guard_hyp J
   obtain⟨⟨E,so,nw⟩,U⟩:∃ R,doR st now q=R:=⟨_,rfl⟩;rw [U] at Q Y |-;dsimp only at Q Y |-;subst Q;have tE:=ω a7;clear a7;obtain⟨i,bz⟩:∃ i,tD so=i:=⟨_,rfl⟩;rw [bz];have bj:=ω bz;clear bz)
 obtain⟨q1,q2,q3,q4⟩:=oY w (aT q) #[(0:Int),(0:Int)] eS (ta:=88) (tb:=93) (tc:=95);obtain⟨W0,bA⟩:∃ W0,((w.alloc (.cells (aT q) 88)).alloc (.cells #[(0:Int),(0:Int)] 93)).alloc (.cells eS 95)=W0:=⟨_,rfl⟩;rw [bA] at q1 q2 q3 q4;have H0:=ω (show yJ w V st x now q W0 from ⟨h.below q4,q1,q2,q3,q4,h.blk.lt⟩)
 first
  |(
   guard_hyp Z
   have HC:=ω (show ψ 76 #[.agg (nY q)] W0 (bH (E) W0) from by rw [<- S]; exact ae W0 (W.below q4)))
  |(
   guard_hyp bs
   have HC:=ω (show ψ 76 #[.agg (nY q)] W0 (bH ((0:Int)) W0) from by rw [<- S]; exact ae W0 (W.below q4)))
 have bw:=ω bA;have HT:=ω W;have bK:=H0.sv.blk.lt;have cf:=h.blk.lt;have a5:=ω (qN h.at_ h.ok);clear bA q1 q2 q3 q4 W h;obtain⟨c0,L,c2,T,c4,c5,c6,c7,c8,c9,aC,aD,aG,aH⟩:=Blk.c14 (H0.q);have bL:=H0.q.lt;unfold bO;unfold aT at bw |-;go_enter Tryz.func37,Tryz.ntmps37
 go_wp2_with fail
 try rw [bw.z]
 clear bw;refine HC.mono ?_;rintro P w1 ⟨rfl,bJ⟩;have e:=ω (H0.kept bJ);clear bJ HC H0 bK bL c0 L c2 T c4 c5 c6 c7 c8 c9 aC aD aG aH;have bK:=e.sv.blk.lt;have bL:=e.q.lt;have HO:=ω (show ψ 34 #[.agg #[st.rev,.slice x.aj x.nj x.cj,.slice x.an x.nn x.cn,.slice x.al x.nl x.cl]] w1 _ from AR st x w1 e.sv.at_ (by have:=a5.z; omega) (by have:=a5.z; omega) (by have:=a5.z; omega));obtain⟨c0,L,c2,T⟩:=Blk.c4 (e.sv.blk)
 go_wp2_with fail
 refine HO.mono ?_;rintro P c ⟨y,rfl,e1,e2,e3,ho,av⟩;have H2:=ω (e.kept av);have a2:=H2;have Hy:=ω (show y.nj<=40/\y.nn<=40/\y.nl<=40 from by have:=a5.z; omega);obtain⟨w3,bf⟩:∃ w3,(c.alloc (.cells (stC st y) 26)).alloc (.cells #[π c 0,now] 159)=w3:=⟨_,rfl⟩;have bp:Below c c (χ c (stC st y) 26):=(θ).alloc lQ _;have a6:Below c c w3:=by rw [<- bf]; exact bp.alloc bp.size _
 have H3:=ω (H2.kept a6)
 have bI:Blk w3 (c.heap.size+1) 159 #[π c 0,now]:=by
  rw [<- bf];have h:=n5 (χ c (stC st y) 26) (.cells #[π c 0,now] 159);rwa [show (c.alloc (.cells (stC st y) 26)).heap.size=c.heap.size+1 by simp] at h
 have HK:=ω (show uy w3 w1 st y c (c.heap.size+1) now from ⟨by rw [<- bf]; exact Blk.alloc (show Blk _ _ _ _ from n5 c _) _,bI,
  ⟨cY (aF ho.j a6) (by omega),cY (aF ho.n a6) (by omega),cY (aF ho.l a6) (by omega),ho.lj,ho.ln,ho.ll⟩,av.size,v6 av.size (Nat.le_succ _),v6 av.size a6.size⟩)
 have n4:ζ (χ c #[st.rev,.slice y.aj y.nj y.cj,.slice y.an y.nn y.cn,.slice y.al y.nl y.cl] 26) V 4 (.int .i64 now):=(H2.kept bp).sv.blk.cell 4;have mo:=av.size;have Ds:=ω (show Below w1 w1 w3 from av.trans (a6.mono av.size));have au:=ω (show (c.alloc (.cells #[st.rev,.slice y.aj y.nj y.cj,.slice y.an y.nn y.cn,.slice y.al y.nl y.cl] 26)).alloc (.cells #[π c 0,now] 159)=w3 from bf);have cg:=H2.sv.blk.lt;clear bf bp a6 bI ho av HO c0 L c2 T e1 e2 e3 H2;unfold stC
 first
  |(
   guard_hyp Z
   have d1:(E == 0)=false:=eY bq;clear S bq)
  |(
   guard_hyp a1
   have I:=ω (ar w1 st y c (c.heap.size+1) now w3 ⟨HK,Hy.z.1,Hy.z.2.1,Hy.z.2.2,e.sv.at_.oj,e.sv.at_.on_,e.sv.at_.ol,kC (cV.1 e.sv.ok).2.2.1,kC (cV.1 e.sv.ok).2.2.2.1,kC (cV.1 e.sv.ok).2.2.2.2.1⟩
    (fun bQ hW=>HT.below ((e.below.trans (Ds.mono e.below.size)).trans (hW.mono e.below.size))) (wM e.sv.ok) e.sv.t.1 e.sv.t.2)
   unfold bO at I;unfold aT at I;rw [U] at I;have HR:=ω U;clear S U;obtain⟨c0,L,c2,T,c4,c5,c6,c7,c8,c9,aC,aD,aG,aH⟩:=Blk.c14 (H3.q);obtain⟨b0,b1,b2,b3,b4,b5,b6,b7,b8,b9,bl,bm,bn,bo⟩:=Blk.c14 (a2.q);have bX:=a2.q.lt
   go_wp2_with fail
   simp only [au.z];clear au n4 c0 b0 L b1 c2 b2 T b3 c4 b4 c5 b5 c6 b6 c7 b7 c8 b8 c9 b9 aC bl aD bm aG bn aH bo;refine I.mono ?_;rintro P u ⟨rfl,aw,ao⟩;dsimp only at ao;have aq:=ω (Ds.trans aw);have H4:=ω (e.kept aq.z);clear aw I HK H3 a2;clear ao HR;have d1:(E == 0)=false:=eY NM)
  |(
   guard_hyp aN
   have I:=ω (ar w1 st y c (c.heap.size+1) now w3 ⟨HK,Hy.z.1,Hy.z.2.1,Hy.z.2.2,e.sv.at_.oj,e.sv.at_.on_,e.sv.at_.ol,kC (cV.1 e.sv.ok).2.2.1,kC (cV.1 e.sv.ok).2.2.2.1,kC (cV.1 e.sv.ok).2.2.2.2.1⟩
    (fun bQ hW=>HT.below ((e.below.trans (Ds.mono e.below.size)).trans (hW.mono e.below.size))) (wM e.sv.ok) e.sv.t.1 e.sv.t.2)
   unfold bO at I;unfold aT at I;rw [U] at I;have HR:=ω U;clear S U;obtain⟨c0,L,c2,T,c4,c5,c6,c7,c8,c9,aC,aD,aG,aH⟩:=Blk.c14 (H3.q);obtain⟨b0,b1,b2,b3,b4,b5,b6,b7,b8,b9,bl,bm,bn,bo⟩:=Blk.c14 (a2.q);have bX:=a2.q.lt)
 go_wp2_with fail
 first
  |(
   guard_hyp Z
   rw [au.z];clear au n4)
  |(
   guard_hyp aa
   simp only [au.z];clear au n4 c0 b0 L b1 c2 b2 T b3 c4 b4 c5 b5 c6 b6 c7 b7 c8 b8 c9 b9 aC bl aD bm aG bn aH bo;refine I.mono ?_;rintro P u ⟨rfl,aw,ao⟩;dsimp only at ao;have aq:=ω (Ds.trans aw);have H4:=ω (e.kept aq.z);clear aw I HK H3 a2;obtain⟨z,m⟩:=ao rfl
   have ac:=ω (show aE so=0 from by
    have h:=uf (st:=st) (now:=now) (q:=q) e.sv.ok (by rw [HR.z]);rwa [HR.z] at h)
   have ak:=ω (show so.rev=st.rev from by
    have h:=zN st now q;rwa [HR.z] at h)
   have a8:=(cV.1 ac.z).2.1;unfold dW at a8;simp only [Bool.and_eq_true,decide_eq_true_eq] at a8;have bC:=m.own.lj;have bD:=m.own.ln;have bE:=m.own.ll;have Hz:=ω (show z.nj<=40/\z.nn<=40/\z.nl<=40 from by omega);have HA:=ω (show StAt u u so z from m.own.at2 (by omega) (by omega) (by omega) (kR ac.z).1 (kR ac.z).2.1 (kR ac.z).2.2);have aB:=ω m.nb;have bi:=ω m.wk;clear m bC bD bE a8 ao HR
   have HS:=ω (fun nq osq=>show ψ 78 #[.agg #[st.rev,.slice x.aj x.nj x.cj,.slice x.an x.nn x.cn,.slice x.al x.nl x.cl],.agg #[so.rev,.slice z.aj z.nj z.cj,.slice z.an z.nn z.cn,.slice z.al z.nl z.cl]] (Sort.grow (redrawn u nq) osq) (fun P w'=>P = .returned (.bool true)/\Below (Sort.grow (redrawn u nq) osq).heap.size (Sort.grow (redrawn u nq) osq) w') from by
    refine (B6 st so x z _ (H4.sv.at_.upS (below_regrown u nq osq)) (HA.upS (below_regrown u nq osq))).mono ?_;rintro P w' ⟨t,rfl,ht,hb⟩;have:t=true:=by exact ht.2 Y
    subst this;exact⟨rfl,hb⟩)
   obtain⟨v0,v1,v2,v3⟩:=Blk.r4 (H4.sv.blk);obtain⟨n0,n1,n2,n3⟩:=Blk.r4 (aB.z)
   go_wp2_with fail)
  |(
   guard_hyp bM
   simp only [au.z];clear au n4 c0 b0 L b1 c2 b2 T b3 c4 b4 c5 b5 c6 b6 c7 b7 c8 b8 c9 b9 aC bl aD bm aG bn aH bo;refine I.mono ?_;rintro P u ⟨rfl,aw,ao⟩;dsimp only at ao;have aq:=ω (Ds.trans aw);have H4:=ω (e.kept aq.z);clear aw I HK H3 a2;obtain⟨z,m⟩:=ao rfl
   have ac:=ω (show aE so=0 from by
    have h:=uf (st:=st) (now:=now) (q:=q) e.sv.ok (by rw [HR.z]);rwa [HR.z] at h)
   have ak:=ω (show so.rev=st.rev from by
    have h:=zN st now q;rwa [HR.z] at h)
   have a8:=(cV.1 ac.z).2.1;unfold dW at a8;simp only [Bool.and_eq_true,decide_eq_true_eq] at a8;have bC:=m.own.lj;have bD:=m.own.ln;have bE:=m.own.ll;have Hz:=ω (show z.nj<=40/\z.nn<=40/\z.nl<=40 from by omega);have HA:=ω (show StAt u u so z from m.own.at2 (by omega) (by omega) (by omega) (kR ac.z).1 (kR ac.z).2.1 (kR ac.z).2.2);have aB:=ω m.nb;have bi:=ω m.wk;clear m bC bD bE a8 ao HR
   have HS:=ω (fun nq osq=>show ψ 78 #[.agg #[st.rev,.slice x.aj x.nj x.cj,.slice x.an x.nn x.cn,.slice x.al x.nl x.cl],.agg #[so.rev,.slice z.aj z.nj z.cj,.slice z.an z.nn z.cn,.slice z.al z.nl z.cl]] (Sort.grow (redrawn u nq) osq) (fun P w'=>P = .returned (.bool false)/\Below (Sort.grow (redrawn u nq) osq).heap.size (Sort.grow (redrawn u nq) osq) w') from by
    refine (B6 st so x z _ (H4.sv.at_.upS (below_regrown u nq osq)) (HA.upS (below_regrown u nq osq))).mono ?_;rintro P w' ⟨t,rfl,ht,hb⟩;have:t=false:=by rw [Bool.eq_false_iff]; exact fun h=>Y (ht.1 h)
    subst this;exact⟨rfl,hb⟩)
   obtain⟨v0,v1,v2,v3⟩:=Blk.r4 (H4.sv.blk);obtain⟨n0,n1,n2,n3⟩:=Blk.r4 (aB.z)
   go_wp2_with fail)
  |skip
 refine wp_region_quiet_below (by kernel_rfl) (by kernel_rfl) ?_
 first
  |(
   guard_hyp bg
   repeat (go_big_quiet_step ((fail))))
  |(
   guard_hyp aN
   repeat (go_big_quiet_step ((go_at_call 78; exact Calls.regrown_of (HS.z _ _)))))
 refine wpQuiet_nil ?_;intro _ ca;obtain⟨⟨nq,osq⟩,hw''⟩:=ca;subst hw''
 first|(guard_hyp Z;have X:=below_regrown w3 nq osq)|have X:=below_regrown u nq osq
 first
  |(
   guard_hyp aN
   clear v0 v1 v2 v3 n0 n1 n2 n3 HS)
  |skip
 dsimp only
 first|(guard_hyp Z;generalize Sort.grow (redrawn w3 nq) osq=u at X |-)|generalize Sort.grow (redrawn u nq) osq=s at X |-
 first|(guard_hyp Z;have bt:=ω (H3.kept X))|(guard_hyp a1;have bu:=ω (H4.kept X))|have H5:=ω (H4.kept X)
 first
  |(
   guard_hyp Z
   clear X H3;clear e HK)
  |(
   guard_hyp a1
   clear X H4;clear e aq Ds)
  |(
   guard_hyp aN
   have aO:=ω (HA.upS X);have ab:=ω (aB.below X aB.lt);have ap:=ω (bi.below X bi.lt);have aR:=ω (aq.trans (X.mono aq.size));clear X H4 HA aB bi aq)
 first|(guard_hyp Z;have O:=bt.toE)|(guard_hyp a1;have O:=bu.toE)|have bW:=H5.sv.blk.lt
 first|(guard_hyp Z;have aI:=bt.d.lt)|(guard_hyp a1;have aI:=bu.d.lt)|have cd:=ab.lt
 first|(guard_hyp Z;have NN:=bt.sv.blk.lt)|(guard_hyp a1;have NN:=bu.sv.blk.lt)|have cb:=ap.lt
 first
  |(
   guard_hyp Z
   obtain⟨F,ad⟩:∃ F,u.alloc (.cells eS 95)=F:=⟨_,rfl⟩)
  |(
   guard_hyp a1
   obtain⟨F,ad⟩:∃ F,s.alloc (.cells eS 95)=F:=⟨_,rfl⟩)
  |(
   guard_hyp aa
   have k1:ζ s (c.heap.size+1) 1 (.int .i64 nw):=ap.cell 1;have v4:ζ s V 4 (.int .i64 now):=H5.sv.blk.cell 4;have z4:κ s V 4:=H5.sv.blk.thaw 4;have O:=H5.toE.Ox nw;have aI:=H5.d.lt;rw [World.setCell_alloc_past _ _ _ _ bW] at O;obtain⟨F,ad⟩:∃ F,(s.setCell ⟨V,4,none⟩ (.int .i64 nw)).alloc (.cells eS 95)=F:=⟨_,rfl⟩)
  |(
   guard_hyp ai
   have k1:ζ s (c.heap.size+1) 1 (.int .i64 nw):=ap.cell 1;have bB:=aM.1 (cV.1 H5.sv.ok).1;have bY:0<=so.rev:=by have:=ak.z; omega
   have bZ:so.rev<=1099511627776:=by have:=ak.z; omega
   clear bB;have n0:ζ s c 0 (.int .i64 so.rev):=ab.cell 0;have z0:κ s c 0:=ab.thaw 0;obtain⟨B,ag⟩:∃ B,s.setCell ⟨c,0,none⟩ (.int .i64 (so.rev+1))=B:=⟨_,rfl⟩;have af:s.grownBy B (some c):=by rw [<- ag]; exact aQ s c 0 _
   have H6:=ω (e.kept (cR aR.z af mo));have aP:=ω (show Blk B c 26 (stC (tD so) z) from by rw [<- ag]; exact Blk.eq (ab.set 0 _) rfl);have bh:=ω (show StAt B B (tD so) z from by exact ((aO.gy ab.z (jL _ _) af).more af.size).rev _);have be:B.heap.size=s.heap.size:=by rw [<- ag]; simp [World.setCell]
   have a4:=ω be;have aA:=ω (ay af ap.z (by omega));have aU:=ω ag;clear ag af be H5 aO ab ap aR k1;have d2:decide (1099511627776<so.rev+1)=true:=t7 (by have:=tE.z; have:=ak.z; omega);clear e Ds aP bh aA ak tE ac;have O:=H6.toE;have aI:=H6.d.lt;have NN:=H6.sv.blk.lt;obtain⟨F,ad⟩:∃ F,B.alloc (.cells eS 95)=F:=⟨_,rfl⟩)
  |(
   guard_hyp J
   have k1:ζ s (c.heap.size+1) 1 (.int .i64 nw):=ap.cell 1;have bB:=aM.1 (cV.1 H5.sv.ok).1;have bY:0<=so.rev:=by have:=ak.z; omega
   have bZ:so.rev<=1099511627776:=by have:=ak.z; omega
   clear bB;have n0:ζ s c 0 (.int .i64 so.rev):=ab.cell 0;have z0:κ s c 0:=ab.thaw 0;obtain⟨B,ag⟩:∃ B,s.setCell ⟨c,0,none⟩ (.int .i64 (so.rev+1))=B:=⟨_,rfl⟩;have af:s.grownBy B (some c):=by rw [<- ag]; exact aQ s c 0 _
   have H6:=ω (e.kept (cR aR.z af mo));have aP:=ω (show Blk B c 26 (stC i z) from by rw [<- bj.z]; rw [<- ag]; exact Blk.eq (ab.set 0 _) rfl);have bh:=ω (show StAt B B i z from by rw [<- bj.z]; exact ((aO.gy ab.z (jL _ _) af).more af.size).rev _);have be:B.heap.size=s.heap.size:=by rw [<- ag]; simp [World.setCell]
   have a4:=ω be;have aA:=ω (ay af ap.z (by omega));have aU:=ω ag;clear ag af be H5 aO ab ap aR k1;have d2:decide (1099511627776<so.rev+1)=false:=fQ (by have:=tE.z; have:=ak.z; omega);have bF:=ω (show aE i=0 from by rw [<- bj.z]; exact vE ac.z (by have:=ak.z; have:=tE.z; omega));obtain⟨D,M⟩:∃ D,eE st i=D:=⟨_,rfl⟩;have I:=ω M;obtain⟨w7,br⟩:∃ w7,B.alloc (.cells eS 95)=w7:=⟨_,rfl⟩)
 first|(guard_hyp Z;obtain⟨DD,am⟩:∃ DD,u.heap.size=DD:=⟨_,rfl⟩)|(guard_hyp bN;obtain⟨DD,am⟩:∃ DD,s.heap.size=DD:=⟨_,rfl⟩)|obtain⟨DD,am⟩:∃ DD,B.heap.size=DD:=⟨_,rfl⟩
 first
  |(
   guard_hyp C6
   rw [ad,am] at O)
  |(
   guard_hyp J
   have aZ:Below B B w7:=by rw [<- br]; exact (θ).alloc lQ _
   have bv:=ω (show SnE w V c (c.heap.size+1) DD st x now q i z nw D 0 zA w7 from by
    have e1:=e.d.lt;have e2:=aA.lt;have e3:=mo;refine⟨H6.kept aZ,aP.below aZ aP.lt,aA.below aZ aA.lt,bh.upS aZ,?_,fun h=>absurd h (by decide),by omega,by omega,by have:=H6.d.lt; omega,by omega,by omega⟩;rw [<- br,<- am]; exact n5 B _)
   have HB:=ω (show ∀ (o:World) {γ:eG},SnE w V c (c.heap.size+1) DD st x now q i z nw D 0 γ o->ψ 79 #[.agg (stC st x),.agg (stC i z)] o (fun P w'=>∃ dx:eG,P = .returned (.agg (dC D dx))/\dB w' w' D dx/\Below o o w') from fun o γ b=>by
    refine (EP st i x z o b.h.sv.at_ b.a (by have:=a5.z; omega) (by have:=a5.z; omega) (by have:=a5.z; omega) (by have:=Hz.z; omega) (by have:=Hz.z; omega) (by have:=Hz.z; omega)).mono ?_;rintro P w' ⟨dx,rfl,ho,hb⟩;have m:=uJ b.h.sv.at_ b.a b.h.sv.ok bF.z;rw [I.z] at ho m |-;exact⟨dx,rfl,ho.at_ m,hb⟩))
 first|(guard_hyp J;have bG:=ω br)|have Hw:=ω ad
 have Hd:=ω am
 first
  |(
   guard_hyp bg
   obtain⟨D,M⟩:∃ D,zD=D:=⟨_,rfl⟩;obtain⟨dx,az⟩:∃ dx,zA=dx:=⟨_,rfl⟩;have a3:=ω (show D=if (⟨E,false,st,now⟩:mF).ch=true then eE st (⟨E,false,st,now⟩:mF).st else zD from M.symm);rw [M,az] at O)
  |(
   guard_hyp aa
   obtain⟨D,M⟩:∃ D,zD=D:=⟨_,rfl⟩;obtain⟨dx,az⟩:∃ dx,zA=dx:=⟨_,rfl⟩;have a3:=ω (show D=if (⟨0,false,st,nw⟩:mF).ch=true then eE st (⟨0,false,st,nw⟩:mF).st else zD from M.symm);rw [M,az] at O)
  |(
   guard_hyp ai
   obtain⟨D,M⟩:∃ D,zD=D:=⟨_,rfl⟩;obtain⟨dx,az⟩:∃ dx,zA=dx:=⟨_,rfl⟩;have a3:=ω (show D=if (⟨2,false,st,now⟩:mF).ch=true then eE st (⟨2,false,st,now⟩:mF).st else zD from M.symm);rw [M,az] at O)
  |(
   guard_hyp J
   have aS:=ω (show s.heap.size=DD from by rw [<- a4.z]; exact am);have a3:=ω (show D=if (⟨0,true,i,nw⟩:mF).ch=true then eE st (⟨0,true,i,nw⟩:mF).st else zD from by rw [if_pos rfl]; exact M.symm);clear M br am aZ I bF ac ak tE bj aP bh aA H6 e Ds
   go_wp2_with fail
   simp only [aU.z,a4.z,bG.z,Hd.z,aS.z];clear aU a4 bG Hd aS n0 z0 d2;refine rq (Γ:=eG) 78 (fun γ=>NK V c st x i z D γ) [5,6] (fun C γ o=>SnE w V c (c.heap.size+1) DD st x now q i z nw D C γ o) zA (show SnE w V c (c.heap.size+1) DD st x now q i z nw D 0 zA w7.drew from bv.drew) ?_ ?_
   · clear bv;refine⟨?_,?_,?_,?_,?_,?_,?_,trivial⟩
     · exact ok0 0 2 0 rfl fun _=>rfl
     · exact ok1 0 2 0 50 rfl rfl (fun _ _ h=>h) fun _=>rfl
     · exact ok1 0 2 1 51 rfl rfl (fun _ _ h=>h) fun _=>rfl
     · refine okQ 0 2 fun C γ a o _ _ b p=>?_;obtain⟨u1,G,rfl⟩:=p.g 2 52 rfl rfl;obtain⟨ax,ba,bb,bc⟩:=Blk.c4 (b.h.sv.blk);simp [go_sem,Oper.wp,execOp,Act.eval,G,ax,ba,bb,bc];exact⟨_,rfl,γ,fun _ _ _ h=>h,rfl,b⟩
     · refine okQ 0 2 fun C γ a o _ _ b p=>?_;have G:=p.k 8 rfl;obtain⟨ax,ba,bb,bc⟩:=Blk.c4 (b.n);simp [go_sem,Oper.wp,execOp,Act.eval,G,ax,ba,bb,bc];exact⟨_,rfl,γ,fun _ _ _ h=>h,rfl,b⟩
     · refine .inl ⟨0,rfl,fun γ a o b p=>aJ rfl ?_⟩;obtain⟨u1,G,rfl⟩:=p.g 3 53 rfl rfl;obtain⟨u2,h2,rfl⟩:=p.g 4 54 rfl rfl;have b:=(show SnE w V c (c.heap.size+1) DD st x now q i z nw D 0 γ o from b);simp [go_sem,Oper.wp,execOp,Act.eval,G,h2];refine (HB.z _ b).mono ?_;rintro P w' ⟨dx,rfl,hd,hb⟩;exact⟨_,rfl,dx,fun j v hj h=>NL hj h,rfl,SnE.call b hb hd⟩
     · refine .inl ⟨1,rfl,fun γ a o b p=>aJ rfl ?_⟩;have G:=p.k 11 rfl;obtain⟨u2,h2,rfl⟩:=p.g 5 55 rfl rfl;have b:=(show SnE w V c (c.heap.size+1) DD st x now q i z nw D 1 γ o from b);have H:=(show Blk o DD 95 eS from b.db);obtain⟨z0,z1,z2,z3,z4,z5,z6,z7⟩:=Blk.z8 (H);obtain⟨c0,L,c2,T,c4,c5,c6,c7⟩:=Blk.c8 (H);obtain⟨aV,aW⟩:=Blk.S8 (H) (.int .i64 D.from_) (.int .i64 D.to_) (.slice γ.aj γ.nj γ.cj) (.slice γ.an γ.nn γ.cn) (.slice γ.al γ.nl γ.cl) (.slice γ.agj γ.ngj γ.cgj) (.slice γ.agn γ.ngn γ.cgn) (.slice γ.agl γ.ngl γ.cgl);have a0:=SnE.store b aW aV;clear H b aV aW;simp [go_sem,Oper.wp,execOp,Act.eval,G,h2,c0,L,c2,T,c4,c5,c6,c7,z0,z1,z2,z3,z4,z5,z6,z7];exact⟨.int .i64 0,γ,fun _ _ _ h=>h,trivial,a0⟩
   intro dx bR wz hd;have m:=(show SnE w V c (c.heap.size+1) DD st x now q i z nw D 2 dx wz from hd.ph);obtain⟨fv,rfl,bd⟩:=hd.frame [50,51,52,53,54,55] rfl;have hv:=m.h.sv.blk;have ci:=hv.lt;have ce:=m.n.lt;have cc:=m.k.lt;obtain⟨n0,n1,n2,n3⟩:=Blk.c4 (m.n);obtain⟨c0,L,c2,T⟩:=Blk.c4 (hv);obtain⟨z0,z1,z2,z3⟩:=Blk.z4 (hv);obtain⟨aX,bx⟩:=Blk.S4 (hv) (.int .i64 i.rev) (.slice z.aj z.nj z.cj) (.slice z.an z.nn z.cn) (.slice z.al z.nl z.cl);obtain⟨y0,y1,y2,y3⟩:=Blk.c4 aX;have y4:ζ (sQ (sQ (sQ (sQ wz V 0 (.int .i64 i.rev)) V 1 (.slice z.aj z.nj z.cj)) V 2 (.slice z.an z.nn z.cn)) V 3 (.slice z.al z.nl z.cl)) V 4 (.int .i64 now):=aX.cell 4;have yz:κ (sQ (sQ (sQ (sQ wz V 0 (.int .i64 i.rev)) V 1 (.slice z.aj z.nj z.cj)) V 2 (.slice z.an z.nn z.cn)) V 3 (.slice z.al z.nl z.cl)) V 4:=aX.thaw 4;have yk:ζ (sQ (sQ (sQ (sQ wz V 0 (.int .i64 i.rev)) V 1 (.slice z.aj z.nj z.cj)) V 2 (.slice z.an z.nn z.cn)) V 3 (.slice z.al z.nl z.cl)) (c.heap.size+1) 1 (.int .i64 nw):=(ay bx m.k (by have:=m.ks; have:=m.h.lt; omega)).cell 1;have O:=m.end_ (aK bx 4 (.int .i64 nw)) (Blk.eq (aX.set 4 (.int .i64 nw)) (show _=jw i z nw from rfl));obtain⟨F,ad⟩:∃ F,((((wz.setCell ⟨V,0,none⟩ (.int .i64 i.rev)).setCell ⟨V,1,none⟩ (.slice z.aj z.nj z.cj)).setCell ⟨V,2,none⟩ (.slice z.an z.nn z.cn)).setCell ⟨V,3,none⟩ (.slice z.al z.nl z.cl)).setCell ⟨V,4,none⟩ (.int .i64 nw)=F:=⟨_,rfl⟩;rw [ad] at O)
 have a9:=ω O
 first
  |(
   guard_hyp bg
   clear ad am O M az)
  |(
   guard_hyp aa
   clear ad am O M az H5 aO ab ap aR e Ds)
  |(
   guard_hyp ai
   clear ad am O M az;have aS:=ω (show s.heap.size=DD from by rw [<- a4.z]; exact Hd))
  |(
   guard_hyp J
   have Hw:=ω ad;clear hd bd m hv aX bx O ad bv HB y0 y1 y2 y3;simp only [foldl_cons,foldl_nil,setIfInBounds_toArray,set_cons_succ,set_cons_zero])
 go_wp2_with fail
 first
  |(
   guard_hyp bg
   simp only [Hw.z,Hd.z];clear Hw Hd aI NN)
  |(
   guard_hyp aa
   simp only [Hw.z,Hd.z];clear Hw Hd aI k1 v4 z4)
  |(
   guard_hyp ai
   simp only [aU.z,a4.z,Hw.z,Hd.z,aS.z];clear Hw Hd aI NN;clear aU a4 aS)
  |(
   guard_hyp J
   simp only [Hw.z];clear Hw y4 yz yk)
 first|(guard_hyp aa;refine rq (Γ:=Unit) 78 (fun _=>DK V st 0 D dx false) [9,10] (fun C _=>SdE [] 103 w V DD st x nw D dx (rcP 0 st.rev C) (dcP D dx C)) () (show SdE [] 103 w V DD st x nw D dx #[(0:Int),(0:Int)] eS (F).drew from a9.drew) ?_ ?_)|(guard_hyp ai;refine rq (Γ:=Unit) 78 (fun _=>DK V st 2 D dx false) [9,10] (fun C _=>SdE [] 103 w V DD st x now D dx (rcP 2 st.rev C) (dcP D dx C)) () (show SdE [] 103 w V DD st x now D dx #[(0:Int),(0:Int)] eS (F).drew from a9.drew) ?_ ?_)|(guard_hyp J;refine rq (Γ:=Unit) 78 (fun _=>DK V i 0 D dx true) [9,10] (fun C _=>SdE [] 103 w V DD i z nw D dx (rcP 0 i.rev C) (dcP D dx C)) () (show SdE [] 103 w V DD i z nw D dx #[(0:Int),(0:Int)] eS (F).drew from a9.drew) ?_ ?_)|refine rq (Γ:=Unit) 78 (fun _=>DK V st E D dx false) [9,10] (fun C _=>SdE [] 103 w V DD st x now D dx (rcP E st.rev C) (dcP D dx C)) () (show SdE [] 103 w V DD st x now D dx #[(0:Int),(0:Int)] eS (F).drew from a9.drew) ?_ ?_
 · clear a9;refine⟨?_,?_,?_,?_,?_,?_,?_,?_,?_,?_,?_,?_,trivial⟩
   · exact ok0 0 0 7 rfl fun _=>rfl
   · exact ok0 0 0 0 rfl fun _=>rfl
   · exact ok1 0 0 1 70 rfl rfl (fun _ _ h=>h) fun _=>rfl
   · exact ok1 0 0 2 71 rfl rfl (fun _ _ h=>h) fun _=>rfl
   · exact ok1 0 0 3 72 rfl rfl (fun _ _ h=>h) fun _=>rfl
   · refine okQ 0 0 fun C γ a o _ _ b p=>?_;obtain⟨u1,G,rfl⟩:=p.g 4 73 rfl rfl
     first|(guard_hyp J;have ax:ζ o V 0 (.int .i64 i.rev):=b.v.cell 0)|have ax:ζ o V 0 (.int .i64 st.rev):=b.v.cell 0
     simp [go_sem,Oper.wp,execOp,Act.eval,G,ax];exact⟨_,rfl,rfl,b⟩
   · refine okQ 0 0 fun C γ a o _ _ b p=>?_;obtain⟨u1,G,rfl⟩:=p.g 0 69 rfl rfl;obtain⟨u2,h2,rfl⟩:=p.g 5 74 rfl rfl;simp [go_sem,Oper.wp,execOp,Act.eval,G,h2];exact⟨_,rfl,rfl,b⟩
   · refine okQ 0 1 fun C γ a o _ _ b p=>?_;have G:=p.k 11 rfl;obtain⟨ax,ba,bb,bc,bS,bT,bU,bV⟩:=Blk.c8 (b.db);simp [go_sem,Oper.wp,execOp,Act.eval,G,ax,ba,bb,bc,bS,bT,bU,bV];exact⟨_,rfl,rfl,b⟩
   · exact ok0 0 2 10 rfl fun _=>rfl
   · refine .inl ⟨0,rfl,fun γ a o b p=>aJ rfl ?_⟩;have G:=p.k 4 rfl;obtain⟨u2,h2,rfl⟩:=p.g 6 75 rfl rfl
     first|(guard_hyp aa;have b:=(show SdE [] 103 w V DD st x nw D dx #[(0:Int),(0:Int)] eS o from b))|(guard_hyp J;have b:=(show SdE [] 103 w V DD i z nw D dx #[(0:Int),(0:Int)] eS o from b))|have b:=(show SdE [] 103 w V DD st x now D dx #[(0:Int),(0:Int)] eS o from b)
     have H:=b.r;obtain⟨z0,z1⟩:=Blk.z2 (H);obtain⟨c0,L⟩:=Blk.c2 (H)
     first|(guard_hyp aa;have a0:=b.BI (gG 0 0) (aK (aK (bP o (w.heap.size+1)) 0 (.int .i64 0)) 1 (.int .i64 st.rev)) (Blk.eq ((H.set 0 (.int .i64 0)).set 1 (.int .i64 st.rev)) (show _=rcP 0 st.rev 1 from rfl)))|(guard_hyp ai;have a0:=b.BI (gG 0 0) (aK (aK (bP o (w.heap.size+1)) 0 (.int .i64 2)) 1 (.int .i64 st.rev)) (Blk.eq ((H.set 0 (.int .i64 2)).set 1 (.int .i64 st.rev)) (show _=rcP 2 st.rev 1 from rfl)))|(guard_hyp J;have a0:=b.BI (gG 0 0) (aK (aK (bP o (w.heap.size+1)) 0 (.int .i64 0)) 1 (.int .i64 i.rev)) (Blk.eq ((H.set 0 (.int .i64 0)).set 1 (.int .i64 i.rev)) (show _=rcP 0 i.rev 1 from rfl)))|have a0:=b.BI (gG 0 0) (aK (aK (bP o (w.heap.size+1)) 0 (.int .i64 E)) 1 (.int .i64 st.rev)) (Blk.eq ((H.set 0 (.int .i64 E)).set 1 (.int .i64 st.rev)) (show _=rcP E st.rev 1 from rfl))
     clear H b;simp [go_sem,Oper.wp,execOp,Act.eval,G,h2,c0,L,z0,z1];exact⟨⟨.int .i64 0,trivial⟩,a0⟩
   · refine .inl ⟨1,rfl,fun γ a o b p=>aJ rfl ?_⟩;have G:=p.k 5 rfl;obtain⟨u2,h2,rfl⟩:=p.g 7 76 rfl rfl
     first|(guard_hyp aa;have b:=(show SdE [] 103 w V DD st x nw D dx (rcP 0 st.rev 1) eS o from b))|(guard_hyp ai;have b:=(show SdE [] 103 w V DD st x now D dx (rcP 2 st.rev 1) eS o from b))|(guard_hyp J;have b:=(show SdE [] 103 w V DD i z nw D dx (rcP 0 i.rev 1) eS o from b))|have b:=(show SdE [] 103 w V DD st x now D dx (rcP E st.rev 1) eS o from b)
     have H:=b.d;obtain⟨z0,z1,z2,z3,z4,z5,z6,z7⟩:=Blk.z8 (H);obtain⟨c0,L,c2,T,c4,c5,c6,c7⟩:=Blk.c8 (H);obtain⟨aV,aW⟩:=Blk.S8 (H) (.int .i64 D.from_) (.int .i64 D.to_) (.slice dx.aj dx.nj dx.cj) (.slice dx.an dx.nn dx.cn) (.slice dx.al dx.nl dx.cl) (.slice dx.agj dx.ngj dx.cgj) (.slice dx.agn dx.ngn dx.cgn) (.slice dx.agl dx.ngl dx.cgl);have a0:=b.ML (qY zD zA) aW (dc':=dC D dx) aV;clear H b aV aW;simp [go_sem,Oper.wp,execOp,Act.eval,G,h2,c0,L,c2,T,c4,c5,c6,c7,z0,z1,z2,z3,z4,z5,z6,z7];exact⟨⟨.int .i64 0,trivial⟩,a0⟩
   · exact ok1 2 2 8 77 rfl rfl (fun _ _ h=>h) fun _=>rfl
 intro γ bR wz hd
 first|(guard_hyp aa;have m:=(show SdE [] 103 w V DD st x nw D dx #[(0:Int),st.rev] (dC D dx) wz from hd.ph))|(guard_hyp ai;have m:=(show SdE [] 103 w V DD st x now D dx #[(2:Int),st.rev] (dC D dx) wz from hd.ph))|(guard_hyp J;have m:=(show SdE [] 103 w V DD i z nw D dx #[(0:Int),i.rev] (dC D dx) wz from hd.ph))|have m:=(show SdE [] 103 w V DD st x now D dx #[E,st.rev] (dC D dx) wz from hd.ph)
 obtain⟨fv,rfl,bd⟩:=hd.frame [69,70,71,72,73,74,75,76,77,6] rfl
 first|(guard_hyp J;have f6:fv 6 = .bool true:=bd 11 _ 6 rfl rfl)|have f6:fv 6 = .bool false:=bd 11 _ 6 rfl rfl
 obtain⟨r0,r1⟩:=Blk.c2 (m.r);obtain⟨y0,y1,y2,y3,y4,y5,y6,y7⟩:=Blk.c8 (m.d)
 first|(guard_hyp aa;have bk:=ω ((m.end_ (st:=st) (R:=⟨0,false,st,nw⟩) rfl rfl a3.z).plain))|(guard_hyp ai;have bk:=ω ((m.end_ (st:=st) (R:=⟨2,false,st,now⟩) rfl rfl a3.z).plain))|(guard_hyp J;have bk:=ω ((m.end_ (st:=st) (R:=⟨0,true,i,nw⟩) rfl rfl a3.z).plain))|have bk:=ω ((m.end_ (st:=st) (R:=⟨E,false,st,now⟩) rfl rfl a3.z).plain)
 clear hd bd m a9;simp only [foldl_cons,foldl_nil,setIfInBounds_toArray,set_cons_succ,set_cons_zero,f6];clear f6;go_wp2
 first|(guard_hyp aa;refine bodyPost_ret (v:=.tuple #[.agg #[.int .i64 0,.int .i64 st.rev],.agg (dC D dx),.bool false]) (by simp [results,Tryz.results37,go_sem,dC, *]) rfl ?_)|(guard_hyp ai;refine bodyPost_ret (v:=.tuple #[.agg #[.int .i64 2,.int .i64 st.rev],.agg (dC D dx),.bool false]) (by simp [results,Tryz.results37,go_sem,dC, *]) rfl ?_)|(guard_hyp J;refine bodyPost_ret (v:=.tuple #[.agg #[.int .i64 0,.int .i64 i.rev],.agg (dC D dx),.bool true]) (by simp [results,Tryz.results37,go_sem,dC, *]) rfl ?_)|refine bodyPost_ret (v:=.tuple #[.agg #[.int .i64 E,.int .i64 st.rev],.agg (dC D dx),.bool false]) (by simp [results,Tryz.results37,go_sem,dC, *]) rfl ?_
 exact bk)
theorem wY {q:aL} (a:ROk q) (h:cN q=0):KV q:=fun base st x N c now w d e f i j=>by
 have b:=Ab h;exact OP base st x N c now q w d e f ⟨⟨a.j1,a.j2⟩,⟨a.n1,a.n2⟩,⟨a.l1,a.l2⟩⟩ b.1 i j b.2.2
theorem Mo (q:aL) (st:ah) (x:StA) (now:Int) (V:Nat) (w:World) (h:SrvAt w 103 V st x now) (b:ROk q) (e:Tabs w) :
 ψ 37 #[π V 0,bO q] w (qj 103 V st (lO st now (lD st now q)) w):=by
 by_cases a:cN q=0
 · by_cases c:(doR st now q).1=0
   · by_cases d:lK st (doR st now q).2.1
     · rw [Cj a c d]; exact pO.2.2.1 q st x now V w h (sY b) (wY b a) e a c d
     · by_cases i:1099511627776<st.rev+1
       · rw [EF a c d i]; exact pO.2.2.2.1 q st x now V w h (sY b) (wY b a) e a c d i
       · rw [EG a c d i]; exact pO.2.2.2.2 q st x now V w h (sY b) (wY b a) e a c d i
   · rw [EH a c]; exact pO.2.1 q st x now V w h (sY b) (wY b a) e a c
 · rw [EI a]; exact pO.1 q st x now V w h (sY b) e a
structure oK (w0 w:World) (g V:Nat) (fb:Nat->Nat) (wv:Nat->Value):Prop where
 base:Below w0 w0 w
 tabs:Tabs w0
 lo:∀ b,sZ g V fb wv b->w0.heap.size<=b
section
variable {w0 w w':World} {g V:Nat} {fb:Nat->Nat} {wv wv':Nat->Value}
theorem oK.to (h:oK w0 w g V fb wv) (d:dS g V fb wv wv' w w'):oK w0 w' g V fb wv':=by
 have j:=h.base.size;refine⟨h.base.trans (d.gr.below h.lo j),h.tabs,fun b f=>?_⟩;rcases f with e | e | ⟨i,c,e | e⟩
 · exact h.lo b (.inl e)
 · exact h.lo b (.inr (.inl e))
 · exact h.lo b (.inr (.inr ⟨i,c,.inl e⟩))
 · rcases d.own i c with a | a | ⟨q,a,k⟩
   · rw [a] at e; cases e
   · rw [a] at e; exact h.lo b (.inr (.inr ⟨i,c,.inr e⟩))
   · rw [a] at e; injection e with e; omega
theorem oK.more (h:oK w0 w g V fb wv) (a:Below w w w'):oK w0 w' g V fb wv:=h.to ((dS.refl g V fb wv w).below_ a)
theorem oK.at_ (h:oK w0 w g V fb wv):Tabs w:=h.tabs.below h.base
end
def M4 (q:aL) (st:ah) (now:Int):Prop:=∀ (x:StA) (V:Nat) (w:World),SrvAt w 103 V st x now->Tabs w ->
 ψ 37 #[π V 0,bO q] w (qj 103 V st (lO st now (lD st now q)) w)
theorem Lk {q:aL} (b:ROk q) (st:ah) (now:Int):M4 q st now:=fun x V w h a=>Mo q st x now V w h b a
theorem Bd (tl:ah->List UInt8) (st:ah) (b:ByteArray) (e:Int) (cs:Nat->bE):jH tl st b e cs 0=cs:=by
 funext i; unfold jH; rw [if_neg (by omega)]
theorem oz (tl:ah->List UInt8) (st:ah) (b:ByteArray) (e:Int) (cs:Nat->bE) (n:Nat):jH tl st b e cs n n=cs n:=by
 unfold jH; rw [if_neg (by omega)]
theorem rN (tl:ah->List UInt8) (st:ah) (b:ByteArray) (e:Int) (cs:Nat->bE) (n:Nat):jH tl st b e cs (n+1)=upd (jH tl st b e cs n) n (mI tl st b e (cs n)):=by
 funext i
 unfold jH upd;by_cases h:i=n
 · subst h; rw [if_pos (by omega),if_pos rfl]
 · rw [if_neg h];dsimp only;by_cases a:i<n
   · rw [if_pos a,if_pos (by omega)]
   · rw [if_neg a,if_neg (by omega)]
def Ql (tl:ah->List UInt8) (g V:Nat) (fb:Nat->Nat) (wv:Nat->Value) (cs:Nat->bE) (st:ah) (x:StA) (now:Int) (b:ByteArray) (e:Int) (w:World) (i:Value) (wr:World):Prop:=
 ∃ n wv',n<=8/\i = .int .i64 ((n:Nat):Int)/\cK wr g V fb wv' (jH tl st b e cs n) st x now/\dS g V fb wv wv' w wr
theorem Eo (tl:ah->List UInt8) {g V:Nat} {fb:Nat->Nat} {wv:Nat->Value} {H:cX} {x:StA} {w0:World} (w:World) (D:aY) (dx:eG) (r:cK w g V fb wv H.cs H.st x H.now) (T:oK w0 w g V fb wv) (hD:dB w w D dx) (ak : -9223372036854775808<=D.from_) (al:D.from_<=9223372036854775807)
 (ht:(∀ i,i<8->(H.cs i).aG=false)\/tW tl) (hl:∀ i,i<8->(H.cs i).waits.length<=35184372000000) :
 ψ 40 #[π g 0,.agg (dC D dx)] w (kX g V fb wv (mJ tl H D) (.tuple #[]) w):=by
 obtain⟨W,X⟩:∃ W,w.alloc (.cells (dC D dx) 95)=W:=⟨_,rfl⟩;have u:Below w w W:=by rw [<- X]; exact (θ).alloc lQ _
 have hb:Blk W w 95 (dC D dx):=by rw [<- X]; exact n5 w _
 have C:=ω (Fb D dx W (hD.upS u) ((T.more u).at_) ak al);obtain⟨c0,c1,c2,c3,c4,c5,c6,c7⟩:=Blk.c8 (hb);have aq:=hb.lt;have Z:=ω (r.below u);have HI:=ω (T.more u);have am:=ω T;have af:=ω ((dS.refl g V fb wv w).below_ u);have Y:=ω X;have Hl:=ω hl;have Ht:=ω ht;have bG:φ (∀ wv' w',cK w' g V fb wv' (jH tl H.st (l9 D).1 (l9 D).2 H.cs 8) H.st x H.now->dS g V fb wv wv' w w'->kX g V fb wv (mJ tl H D) (.tuple #[]) w (.returned (.tuple #[])) w'):=ω fun wv' w' h1 j=>⟨rfl,wv',x,h1,j⟩;have ad:=xF D;obtain⟨b,ac⟩:∃ b,(l9 D).1=b:=⟨_,rfl⟩;obtain⟨E,ag⟩:∃ E,(l9 D).2=E:=⟨_,rfl⟩;unfold lq at C;rw [ac,ag] at C bG;rw [ac] at ad;obtain⟨a,aa⟩:∃ a,H.cs=a:=⟨_,rfl⟩;obtain⟨d,aj⟩:∃ d,H.st=d:=⟨_,rfl⟩;obtain⟨l,ai⟩:∃ l,H.now=l:=⟨_,rfl⟩;rw [aa,aj,ai] at Z bG;rw [aa] at Ht Hl;have ap:=ω ad;clear r T hD ak al ht hl u hb X ac ag ad aa aj ai;unfold dC at C Y |-;go_enter Tryz.func40,Tryz.ntmps40
 go_wp2_with fail
 try simp only [Y.z]
 clear Y;refine C.mono ?_;rintro S w1 ⟨rfl,ab⟩;have H1:=ω (Z.below ab);have ao:=ω (af.below_ ab);clear ab C Z HI af c0 c1 c2 c3 c4 c5 c6 c7 aq;go_wp2
 go_loopw [6,7,13] (fun _ _ i wr=>Ql tl g V fb wv a d x l b E w i wr) (fun _ _ i _=>8 - (intOf i).toNat)
 case atStart=>exact⟨0,wv,by omega,rfl,by rw [Bd]; exact H1.z,ao⟩
 case round=>
  obtain⟨n,wv',hn,rfl,k,U⟩:=hrel;by_cases hlt:n<8
  · have v:ζ wr g (1+n*4+1) (.bool (a n).closed):=by rw [k.blk.cell,lX hlt,oz]
    have Q:ζ wr g (1+n*4+2) (.bool (a n).aG):=by rw [k.blk.cell,qw hlt,oz]
    have au:=k.blk.lt;have o:=ω k;have R:=ω U
    have p:φ ((a n).closed=true\/(a n).aG=false->cK wr g V fb wv' (jH tl d b E a (n+1)) d x l):=ω fun hc=>by
     have S:mI tl d b E (a n)=jH tl d b E a n n:=by rw [oz]; unfold mI; rw [if_pos hc]
     rw [rN,S,qM];exact o
    have m:φ (∀ c,(a n).closed=false->(a n).aG=true->c=mI tl d b E (a n)->∀ O M,cK M g V fb O (upd (jH tl d b E a n) n c) d x l->dS g V fb wv' O wr M->cK M g V fb O (jH tl d b E a (n+1)) d x l/\dS g V fb wv O w M):=ω fun c _ _ hc O M h1 j=>by
     rw [rN,<- hc];exact⟨h1,R.trans j⟩
    have ae:ByteRow wr (wv' n) (a n).waits:=by have:=k.wait n hlt; rwa [oz] at this
    have ar:(a n).waits.length<=35184372000000:=Hl.z n hlt;have G:φ (E=0->ψ 81 #[π g (1+n*4),(2:Int),b] wr (jK g (1+n*4+3) (wv' n) ((a n).waits ++ pR 3 2 b.data.toList) wr)):=ω fun _=>Er g (1+n*4) 61 _ (wv' n) _ 2 b wr o.blk (by decide) (jy hlt) ae (by omega) ap.z (by omega)
    have I:φ ((a n).aG=true->ψ 39 #[π g 0,π g (1+n*4)] wr (jK g (1+n*4+3) (wv' n) ((a n).waits ++ tl d) wr)):=ω fun hw=>by
     rcases Ht.z with r | r
     · rw [r n hlt] at hw; cases hw
     · exact r g (1+n*4) V 61 _ (wv' n) _ d x l wr o.blk (by decide) AO (jy hlt) ae (by omega) o.srv (am.to R.z).at_
    clear k U ae ar;cases e:(a n).closed
    · cases h:(a n).aG
      · have F:=ω (p.z (.inr h));rw [e] at v;rw [h] at Q;clear e h p m G I;go_wp2
        go_roundw
        case rel=>exact⟨n+1,wv',by omega,by go_num,F,R⟩
        case measure=>simp [intOf]; omega
      · by_cases s:E=0
        · have F:=ω (G.z s);have y:=ω (m.z (uG 2 b (a n)) e h (by unfold mI; rw [if_neg (by rw [e,h]; decide),if_pos s]));rw [e] at v;rw [h] at Q;subst s;clear e h p m G I
          go_wp2_with fail
          refine F.mono ?_;rintro S w2 J;obtain⟨rfl,P,j,L⟩:=J.hub o.z hlt;rw [oz] at j;have B:=ω (y.z P w2 j L);clear J j L F y v Q;go_wp2
          go_roundw
          case rel=>exact⟨n+1,P,by omega,by go_num,B.z.1,B.z.2⟩
          case measure=>simp [intOf]; omega
        · have F:=ω (I.z h);have y:=ω (m.z (uw (tl d) (a n)) e h (by unfold mI; rw [if_neg (by rw [e,h]; decide),if_neg s]));have d1:(E == 0)=false:=by simpa using s
          rw [e] at v;rw [h] at Q;clear e h p m G I s
          go_wp2_with fail
          refine F.mono ?_;rintro S w2 J;obtain⟨rfl,P,j,L⟩:=J.hub o.z hlt;rw [oz] at j;have B:=ω (y.z P w2 j L);clear J j L F y v Q;go_wp2
          go_roundw
          case rel=>exact⟨n+1,P,by omega,by go_num,B.z.1,B.z.2⟩
          case measure=>simp [intOf]; omega
    · have F:=ω (p.z (.inl e));rw [e] at v;clear e p m G I;go_wp2
      go_roundw
      case rel=>exact⟨n+1,wv',by omega,by go_num,F,R⟩
      case measure=>simp [intOf]; omega
  · obtain rfl:n=8:=by omega
    have HF:=ω (bG.z wv' wr k U);clear k U;go_wp2;go_end0;exact HF
end Go.Proofs.YtimglglgcgpjgabGreatDoor
