/- Of the proof of a statement: SvDo. -/
import Derived.Test.YtcpgnjmaampglaaGreatDoorWDiff
import Derived.Test.YtcpgnjmaampglaaGreatDoorWFrmEncP
set_option linter.unusedVariables false
set_option linter.unusedSimpArgs false
set_option maxRecDepth 100000
set_option maxHeartbeats 8000000
/- The walk of (*serve.Server).Do. -/
namespace Go.Proofs.YtcpgnjmaampglaaGreatDoor
open Go.Lib (hid)
open List (foldl_cons foldl_nil setIfInBounds_toArray set_cons_succ set_cons_zero)
open Go.RowKit
theorem Mx {st:ah} {now:Int} {q:cJ} (h:kB q=0) (h1:(doR st now q).1=0) (h2:¬ uI st (doR st now q).2.1) (h3:¬ 1099511627776<st.rev+1):qp st now (pR st now q)=⟨0,true,BW (doR st now q).2.1,(doR st now q).2.2⟩:=by
 unfold pR; rw [if_pos h]; unfold qp; rw [if_pos h1,if_neg h2,if_neg h3]
structure Az (w0:World) (V:Nat) (st:ah) (x:StA) (now:Int) (q:cJ) (w:World):Prop where
 sv:SrvAt w 215 V st x now
 q:Blk w w0.heap.size 65 (eM q)
 r:Blk w (w0.heap.size+1) 224 #[.int .i64 0,.int .i64 0]
 d:Blk w (w0.heap.size+2) 48 nQ
 below:Below w0.heap.size w0 w
 lt:V<w0.heap.size
theorem Az.kept {w0 w w':World} {V:Nat} {st:ah} {x:StA} {now:Int} {q:cJ} (h:Az w0 V st x now q w) (hb:Below w.heap.size w w'):Az w0 V st x now q w':=
 ⟨h.sv.below hb,h.q.below hb h.q.lt,h.r.below hb h.r.lt,h.d.below hb h.d.lt,h.below.trans (hb.mono h.below.size),h.lt⟩
structure SnE (w0:World) (V N K DD:Nat) (st:ah) (x:StA) (now:Int) (q:cJ) (so:ah) (z:StA) (nw:Int) (D:aK) (p:Nat) (γ:eW) (w:World):Prop where
 h:Az w0 V st x now q w
 n:Blk w N 26 (stC so z)
 k:Blk w K 279 #[.pointer (some ⟨N,0,none⟩),.int .i64 nw]
 a:StAt w w.heap.size so z
 db:Blk w DD 48 (dcP D γ p)
 del:0<p→dM w w.heap.size D γ
 ns:w0.heap.size+3≤N
 ks:w0.heap.size+3≤K
 ds:w0.heap.size+3≤DD
 nd:N≠DD
 kd:K≠DD
section
variable {w0 w w':World} {V N K DD:Nat} {st:ah} {x:StA} {now:Int} {q:cJ} {so:ah} {z:StA} {nw:Int} {D:aK} {γ dx:eW}
theorem Az.drew (h:Az w0 V st x now q w):Az w0 V st x now q w.drew:=⟨⟨h.sv.blk,h.sv.at_.drew,h.sv.ok,h.sv.t⟩,h.q,h.r,h.d,h.below.drew,h.lt⟩
theorem SnE.drew {p:Nat} (h:SnE w0 V N K DD st x now q so z nw D p γ w):SnE w0 V N K DD st x now q so z nw D p γ w.drew:=
 ⟨h.h.drew,h.n,h.k,h.a.drew,h.db,fun hp=>(h.del hp).drew,h.ns,h.ks,h.ds,h.nd,h.kd⟩
theorem SnE.call (h:SnE w0 V N K DD st x now q so z nw D 0 γ w) (hb:Below w.heap.size w w') (hd:dM w' w'.heap.size D dx):SnE w0 V N K DD st x now q so z nw D 1 dx w':=
 ⟨h.h.kept hb,h.n.below hb h.n.lt,h.k.below hb h.k.lt,h.a.upS hb,h.db.below hb h.db.lt,fun _=>hd,h.ns,h.ks,h.ds,h.nd,h.kd⟩
theorem Az.but (h:Az w0 V st x now q w) {g:Nat} {t:TypeId} {cs:Array Value} (hb:Blk w g t cs) (hc:jF cs) (hg:w.grownBy w' (some g)) (hn:w0.heap.size+3≤g):Az w0 V st x now q w':=by
 have:=h.lt
 exact⟨⟨aA hg h.sv.blk (by omega),(h.sv.at_.jk hb hc hg).more hg.size,h.sv.ok,h.sv.t⟩,aA hg h.q (by omega),aA hg h.r (by omega),aA hg h.d (by omega),aJ h.below hg (by omega),h.lt⟩
theorem SnE.store (h:SnE w0 V N K DD st x now q so z nw D 1 γ w) (hg:w.grownBy w' (some DD)) (hb:Blk w' DD 48 (dC D γ)):SnE w0 V N K DD st x now q so z nw D 2 γ w':=by
 have hdb:Blk w DD 48 (dcP D γ 1):=h.db
 have hno:jF (dcP D γ 1):=yc zD zA
 exact⟨h.h.but hdb hno hg h.ds,aA hg h.n h.nd,aA hg h.k h.kd,(h.a.jk hdb hno hg).more hg.size,hb,fun _=>((h.del (by decide)).jk hdb hno hg).more hg.size,h.ns,h.ks,h.ds,h.nd,h.kd⟩
theorem SnE.end_ (h:SnE w0 V N K DD st x now q so z nw D 2 γ w) (hg:w.grownBy w' (some V)) (hv:Blk w' V 215 (AQ so z nw)):SdE 215 w0 V DD so z nw D γ #[.int .i64 0,.int .i64 0] nQ w':=by
 have h1:=h.h.lt
 have h2:=h.ds
 exact⟨hv,(h.a.jk h.h.sv.blk (BY _ _ _) hg).more hg.size,((h.del (by decide)).jk h.h.sv.blk (BY _ _ _) hg).more hg.size,aA hg h.db (by omega),aA hg h.h.r (by omega),aA hg h.h.d (by omega),aM (grown_of V h.h.below) hg,h1,h2⟩
end
def OA (V N:Nat) (st:ah) (x:StA) (so:ah) (z:StA) (D:aK) (γ:eW):Nat→Value→Prop
 | 0,u=>u = .pointer (some ⟨V,0,none⟩)
 | 1,u=>u = .pointer (some ⟨V,0,none⟩)
 | 2,u=>u = .pointer (some ⟨V,0,none⟩)
 | 3,u=>u = .agg #[.int .i64 st.rev,.slice x.aj x.nj x.cj,.slice x.an x.nn x.cn,.slice x.al x.nl x.cl]
 | 4,u=>u = .agg #[.int .i64 so.rev,.slice z.aj z.nj z.cj,.slice z.an z.nn z.cn,.slice z.al z.nl z.cl]
 | 5,u=>u = .agg #[.int .i64 D.from_,.int .i64 D.to_,.slice γ.aj γ.nj γ.cj,.slice γ.an γ.nn γ.cn,.slice γ.al γ.nl γ.cl,.slice γ.agj γ.ngj γ.cgj,.slice γ.agn γ.ngn γ.cgn,.slice γ.agl γ.ngl γ.cgl]
 | _,_=>True
theorem OB {V N:Nat} {st:ah} {x:StA} {so:ah} {z:StA} {D:aK} {γ γ':eW} {j:Nat} {v:Value} (hj:j≠5) (h:OA V N st x so z D γ j v):OA V N st x so z D γ' j v:=by
 unfold OA at *
 split at h
 all_goals first | exact h | exact absurd rfl hj
theorem My (q:cJ) (st:ah) (x:StA) (now:Int) (V:Nat) (w:World) (h:SrvAt w 215 V st x now) (hck:Qo q) (hwk:WkOk q) (hT:Tabs w) (hE:kB q=0) (h0:(doR st now q).1=0) (hrows:¬ uI st (doR st now q).2.1) (hrev:¬ 1099511627776<st.rev+1) :
 Calls Tryz.prog 118 #[.pointer (some ⟨V,0,none⟩),gY q] w (Ct 215 V st ⟨0,true,BW (doR st now q).2.1,(doR st now q).2.2⟩ w):=by
 obtain⟨⟨E,so,nw⟩,hR⟩:∃ R,doR st now q=R:=⟨_,rfl⟩
 rw [hR] at h0 hrows ⊢
 dsimp only at h0 hrows ⊢
 subst h0
 have wA:=hid hrev
 clear hrev
 obtain⟨SO,hSO⟩:∃ SO,BW so=SO:=⟨_,rfl⟩
 rw [hSO]
 have HSO:=hid hSO
 clear hSO
 obtain⟨q1,q2,q3,q4⟩:=I2 w (eM q) #[.int .i64 0,.int .i64 0] nQ (ta:=65) (tb:=224) (tc:=48)
 obtain⟨W0,hW0⟩:∃ W0,((w.alloc (.cells (eM q) 65)).alloc (.cells #[.int .i64 0,.int .i64 0] 224)).alloc (.cells nQ 48)=W0:=⟨_,rfl⟩
 rw [hW0] at q1 q2 q3 q4
 have H0:=hid (show Az w V st x now q W0 from ⟨h.below q4,q1,q2,q3,q4,h.blk.lt⟩)
 have HC:=hid (show Calls Tryz.prog 115 #[.agg (Ie q)] W0 (lu ((0:Int)) W0) from by rw [← hE]; exact hck W0 (hT.below q4))
 have HW0:=hid hW0
 have HT:=hid hT
 have hlV:=H0.out.sv.blk.lt
 have hlV0:=h.blk.lt
 have Hsz:=hid (zk h.at_ h.ok)
 clear hW0 q1 q2 q3 q4 hT h
 obtain⟨c0,c1,c2,c3,c4,c5,c6,c7,c8,c9,c10,c11,c12,c13⟩:=Blk.c14 (H0.out.q)
 have hlq:=H0.out.q.lt
 unfold gY
 unfold eM at HW0 ⊢
 go_enter Tryz.func118,Tryz.ntmps118
 go_wp2_with fail
 try rw [HW0.out]
 clear HW0
 refine Calls.mono HC.out ?_
 rintro e w1 ⟨rfl,hb1⟩
 have H1:=hid (H0.out.kept hb1)
 clear hb1 HC H0 hlV hlq c0 c1 c2 c3 c4 c5 c6 c7 c8 c9 c10 c11 c12 c13
 have hlV:=H1.out.sv.blk.lt
 have hlq:=H1.out.q.lt
 have HO:=hid (show Calls Tryz.prog 114 #[.agg #[.int .i64 st.rev,.slice x.aj x.nj x.cj,.slice x.an x.nn x.cn,.slice x.al x.nl x.cl]] w1 _ from zl st x w1 H1.out.sv.at_ (by have:=Hsz.out; omega) (by have:=Hsz.out; omega) (by have:=Hsz.out; omega))
 obtain⟨c0,c1,c2,c3⟩:=Blk.c4 (H1.out.sv.blk)
 go_wp2_with fail
 refine Calls.mono HO.out ?_
 rintro e w2 ⟨y,rfl,e1,e2,e3,ho,hb2⟩
 have H2:=hid (H1.out.kept hb2)
 have H2q:=H2
 have Hy:=hid (show y.nj≤40∧y.nn≤40∧y.nl≤40 from by have:=Hsz.out; omega)
 obtain⟨w3,hw3⟩:∃ w3,(w2.alloc (.cells (stC st y) 26)).alloc (.cells #[.pointer (some ⟨w2.heap.size,0,none⟩),.int .i64 now] 279)=w3:=⟨_,rfl⟩
 have hbN:Below w2.heap.size w2 (w2.alloc (.cells (stC st y) 26)):=(Below.refl _ _).alloc (Nat.le_refl _) _
 have hb3:Below w2.heap.size w2 w3:=by rw [← hw3]; exact hbN.alloc hbN.size _
 have H3:=hid (H2.out.kept hb3)
 have hWK:Blk w3 (w2.heap.size+1) 279 #[.pointer (some ⟨w2.heap.size,0,none⟩),.int .i64 now]:=by
  rw [← hw3]
  have h:=heap_alloc_new (w2.alloc (.cells (stC st y) 26)) (.cells #[.pointer (some ⟨w2.heap.size,0,none⟩),.int .i64 now] 279)
  rwa [show (w2.alloc (.cells (stC st y) 26)).heap.size=w2.heap.size+1 by simp] at h
 have HK:=hid (show Fz w3 w1.heap.size st y w2.heap.size (w2.heap.size+1) now from ⟨by rw [← hw3]; exact Blk.alloc (show Blk _ _ _ _ from heap_alloc_new w2 _) _,hWK,
  ⟨bV (aU ho.j hb3) (by omega),bV (aU ho.n hb3) (by omega),bV (aU ho.l hb3) (by omega),ho.lj,ho.ln,ho.ll⟩,hb2.size,Nat.le_trans hb2.size (Nat.le_succ _),Nat.le_trans hb2.size hb3.size⟩)
 have n4:(w2.alloc (.cells #[.int .i64 st.rev,.slice y.aj y.nj y.cj,.slice y.an y.nn y.cn,.slice y.al y.nl y.cl] 26)).cell? ⟨V,4,none⟩=some (.int .i64 now):=(H2.out.kept hbN).sv.blk.cell 4
 have hbs2:=hb2.size
 have Mz:=hid (show Below w1.heap.size w1 w3 from hb2.trans (hb3.mono hb2.size))
 have Hw3:=hid (show (w2.alloc (.cells #[.int .i64 st.rev,.slice y.aj y.nj y.cj,.slice y.an y.nn y.cn,.slice y.al y.nl y.cl] 26)).alloc (.cells #[.pointer (some ⟨w2.heap.size,0,none⟩),.int .i64 now] 279)=w3 from hw3)
 have hlV2:=H2.out.sv.blk.lt
 clear hw3 hbN hb3 hWK ho hb2 HO c0 c1 c2 c3 e1 e2 e3 H2
 unfold stC
 have HD:=hid (hwk w1.heap.size st y w2.heap.size (w2.heap.size+1) now w3 ⟨HK.out,Hy.out.1,Hy.out.2.1,Hy.out.2.2,H1.out.sv.at_.oj,H1.out.sv.at_.on_,H1.out.sv.at_.ol,dh (cP.1 H1.out.sv.ok).2.2.1,dh (cP.1 H1.out.sv.ok).2.2.2.1,dh (cP.1 H1.out.sv.ok).2.2.2.2.1⟩
  (fun W hW=>HT.out.below ((H1.out.below.trans (Mz.out.mono H1.out.below.size)).trans (hW.mono H1.out.below.size))) (EM H1.out.sv.ok) H1.out.sv.t.1 H1.out.sv.t.2)
 unfold gY at HD
 unfold eM at HD
 rw [hR] at HD
 have HR:=hid hR
 clear hE hR
 obtain⟨c0,c1,c2,c3,c4,c5,c6,c7,c8,c9,c10,c11,c12,c13⟩:=Blk.c14 (H3.out.q)
 obtain⟨b0,b1,b2,b3,b4,b5,b6,b7,b8,b9,b10,b11,b12,b13⟩:=Blk.c14 (H2q.out.q)
 have hlq2:=H2q.out.q.lt
 go_wp2_with fail
 simp only [Hw3.out]
 clear Hw3 n4 c0 b0 c1 b1 c2 b2 c3 b3 c4 b4 c5 b5 c6 b6 c7 b7 c8 b8 c9 b9 c10 b10 c11 b11 c12 b12 c13 b13
 refine Calls.mono HD.out ?_
 rintro e w4 ⟨rfl,hb4,hk4⟩
 dsimp only at hk4
 have Hb4:=hid (Mz.out.trans hb4)
 have H4:=hid (H1.out.kept Hb4.out)
 clear hb4 HD HK H3 H2q
 obtain⟨z,hz⟩:=hk4 rfl
 have HR1:=hid (show ay so=0 from by
  have h:=BX (st:=st) (now:=now) (q:=q) H1.out.sv.ok (by rw [HR.out])
  rwa [HR.out] at h)
 have HR2:=hid (show so.rev=st.rev from by
  have h:=IB st now q
  rwa [HR.out] at h)
 have hso:=(cP.1 HR1.out).2.1
 unfold dR at hso
 simp only [Bool.and_eq_true,decide_eq_true_eq] at hso
 have hz1:=hz.own.lj
 have hz2:=hz.own.ln
 have hz3:=hz.own.ll
 have Hz:=hid (show z.nj≤40∧z.nn≤40∧z.nl≤40 from by omega)
 have HA:=hid (show StAt w4 w4.heap.size so z from hz.own.at2 (by omega) (by omega) (by omega) (pM HR1.out).1 (pM HR1.out).2.1 (pM HR1.out).2.2)
 have HN4:=hid hz.nb
 have HK4:=hid hz.wk
 clear hz hz1 hz2 hz3 hso hk4 HR
 have HS:=hid (fun nq osq=>show Calls Tryz.prog 165 #[.agg #[.int .i64 st.rev,.slice x.aj x.nj x.cj,.slice x.an x.nn x.cn,.slice x.al x.nl x.cl],.agg #[.int .i64 so.rev,.slice z.aj z.nj z.cj,.slice z.an z.nn z.cn,.slice z.al z.nl z.cl]] (Sort.grow (redrawn w4 nq) osq) (fun e w'=>e = .returned (.bool false)∧Below (Sort.grow (redrawn w4 nq) osq).heap.size (Sort.grow (redrawn w4 nq) osq) w') from by
  refine (Ki st so x z _ (H4.out.sv.at_.upS (below_regrown w4 nq osq)) (HA.out.upS (below_regrown w4 nq osq))).mono ?_
  rintro e w' ⟨t,rfl,ht,hb⟩
  have:t=false:=by rw [Bool.eq_false_iff]; exact fun h=>hrows (ht.1 h)
  subst this
  exact⟨rfl,hb⟩)
 obtain⟨v0,v1,v2,v3⟩:=Blk.r4 (H4.out.sv.blk)
 obtain⟨n0,n1,n2,n3⟩:=Blk.r4 (HN4.out)
 go_wp2_with fail
 refine wp_region_quiet_below (by kernel_rfl) (by kernel_rfl) ?_
 repeat (go_big_quiet_step ((go_at_call 165; exact Calls.regrown_of (HS.out _ _))))
 refine wpQuiet_nil ?_
 intro _ hw'
 obtain⟨⟨nq,osq⟩,hw''⟩:=hw'
 subst hw''
 have hq:=below_regrown w4 nq osq
 clear v0 v1 v2 v3 n0 n1 n2 n3 HS
 dsimp only
 generalize Sort.grow (redrawn w4 nq) osq=w5 at hq ⊢
 have H5:=hid (H4.out.kept hq)
 have HA5:=hid (HA.out.upS hq)
 have HN5:=hid (HN4.out.below hq HN4.out.lt)
 have HK5:=hid (HK4.out.below hq HK4.out.lt)
 have Hb5:=hid (Hb4.out.trans (hq.mono Hb4.out.size))
 clear hq H4 HA HN4 HK4 Hb4
 have hlV5:=H5.out.sv.blk.lt
 have hlN5:=HN5.out.lt
 have hlK5:=HK5.out.lt
 have k1:w5.cell? ⟨w2.heap.size+1,1,none⟩=some (.int .i64 nw):=HK5.out.cell 1
 have hrv:=aZ.1 (cP.1 H5.out.sv.ok).1
 have hr0:0≤so.rev:=by have:=HR2.out; omega
 have hr1:so.rev≤1099511627776:=by have:=HR2.out; omega
 clear hrv
 have n0:w5.cell? ⟨w2.heap.size,0,none⟩=some (.int .i64 so.rev):=HN5.out.cell 0
 have z0:w5.frozen? ⟨w2.heap.size,0,none⟩=false:=HN5.out.thaw 0
 obtain⟨w6,hw6⟩:∃ w6,w5.setCell ⟨w2.heap.size,0,none⟩ (.int .i64 (so.rev+1))=w6:=⟨_,rfl⟩
 have hg6:w5.grownBy w6 (some w2.heap.size):=by rw [← hw6]; exact aC w5 w2.heap.size 0 _
 have H6:=hid (H1.out.kept (aJ Hb5.out hg6 hbs2))
 have HN6:=hid (show Blk w6 w2.heap.size 26 (stC SO z) from by rw [← HSO.out]; rw [← hw6]; exact Blk.eq (HN5.out.set 0 _) rfl)
 have HA6:=hid (show StAt w6 w6.heap.size SO z from by rw [← HSO.out]; exact ((HA5.out.jk HN5.out (zm _ _) hg6).more hg6.size).rev _)
 have hs6:w6.heap.size=w5.heap.size:=by rw [← hw6]; simp [World.setCell]
 have Hs6:=hid hs6
 have HK6:=hid (aA hg6 HK5.out (by omega))
 have Hw6:=hid hw6
 clear hw6 hg6 hs6 H5 HA5 HN5 HK5 Hb5 k1
 have d2:decide (1099511627776<so.rev+1)=false:=decide_eq_false (by have:=wA.out; have:=HR2.out; omega)
 have HC6:=hid (show ay SO=0 from by rw [← HSO.out]; exact Ag HR1.out (by have:=HR2.out; have:=wA.out; omega))
 obtain⟨D,hD⟩:∃ D,cF st SO=D:=⟨_,rfl⟩
 have HD:=hid hD
 obtain⟨w7,hw7⟩:∃ w7,w6.alloc (.cells nQ 48)=w7:=⟨_,rfl⟩
 obtain⟨DD,hDD⟩:∃ DD,w6.heap.size=DD:=⟨_,rfl⟩
 have hb7:Below w6.heap.size w6 w7:=by rw [← hw7]; exact (Below.refl _ _).alloc (Nat.le_refl _) _
 have HS7:=hid (show SnE w V w2.heap.size (w2.heap.size+1) DD st x now q SO z nw D 0 zA w7 from by
  have e1:=H1.out.d.lt
  have e2:=HK6.out.lt
  have e3:=hbs2
  refine⟨H6.out.kept hb7,HN6.out.below hb7 HN6.out.lt,HK6.out.below hb7 HK6.out.lt,HA6.out.upS hb7,?_,fun h=>absurd h (by decide),by omega,by omega,by have:=H6.out.d.lt; omega,by omega,by omega⟩
  rw [← hw7,← hDD]; exact heap_alloc_new w6 _)
 have HB:=hid (show ∀ (wx:World) {γ:eW},SnE w V w2.heap.size (w2.heap.size+1) DD st x now q SO z nw D 0 γ wx→Calls Tryz.prog 46 #[.agg (stC st x),.agg (stC SO z)] wx (fun e w'=>∃ dx:eW,e = .returned (.agg (dC D dx))∧dM w' w'.heap.size D dx∧Below wx.heap.size wx w') from fun wx γ hp=>by
  refine (wQ st SO x z wx hp.h.sv.at_ hp.a (by have:=Hsz.out; omega) (by have:=Hsz.out; omega) (by have:=Hsz.out; omega) (by have:=Hz.out; omega) (by have:=Hz.out; omega) (by have:=Hz.out; omega)).mono ?_
  rintro e w' ⟨dx,rfl,ho,hb⟩
  have hz:=rZ hp.h.sv.at_ hp.a hp.h.sv.ok HC6.out
  rw [HD.out] at ho hz ⊢
  exact⟨dx,rfl,ho.at_ hz,hb⟩)
 have Hw7:=hid hw7
 have Hd:=hid hDD
 have Hd6:=hid (show w5.heap.size=DD from by rw [← Hs6.out]; exact hDD)
 have HDD:=hid (show D=if (⟨0,true,SO,nw⟩:DE).ch=true then cF st (⟨0,true,SO,nw⟩:DE).st else zD from by rw [if_pos rfl]; exact hD.symm)
 clear hD hw7 hDD hb7 HD HC6 HR1 HR2 wA HSO HN6 HA6 HK6 H6 H1 Mz
 go_wp2_with fail
 simp only [Hw6.out,Hs6.out,Hw7.out,Hd.out,Hd6.out]
 clear Hw6 Hs6 Hw7 Hd Hd6 n0 z0 d2
 refine rq (Γ:=eW) 78 (fun γ=>OA V w2.heap.size st x SO z D γ) [5,6] (fun p γ wx=>SnE w V w2.heap.size (w2.heap.size+1) DD st x now q SO z nw D p γ wx) zA (show SnE w V w2.heap.size (w2.heap.size+1) DD st x now q SO z nw D 0 zA w7.drew from HS7.out.drew) ?_ ?_
 · clear HS7
   refine⟨?_,?_,?_,?_,?_,?_,?_,trivial⟩
   · exact ok0 0 2 0 rfl fun _=>rfl
   · exact ok1 0 2 0 50 rfl rfl (fun _ _ h=>h) fun _=>rfl
   · exact ok1 0 2 1 51 rfl rfl (fun _ _ h=>h) fun _=>rfl
   · refine okQ 0 2 fun p γ a wx _ _ hp hk=>?_
     obtain⟨u1,h1,rfl⟩:=hk.g 2 52 rfl rfl
     obtain⟨hc0,hc1,hc2,hc3⟩:=Blk.c4 (hp.h.sv.blk)
     simp [go_sem,Oper.wp,execOp,Act.eval,h1,hc0,hc1,hc2,hc3]
     exact⟨_,rfl,γ,fun _ _ _ h=>h,rfl,hp⟩
   · refine okQ 0 2 fun p γ a wx _ _ hp hk=>?_
     have h1:=hk.k 8 rfl
     obtain⟨hc0,hc1,hc2,hc3⟩:=Blk.c4 (hp.n)
     simp [go_sem,Oper.wp,execOp,Act.eval,h1,hc0,hc1,hc2,hc3]
     exact⟨_,rfl,γ,fun _ _ _ h=>h,rfl,hp⟩
   · refine .inl ⟨0,rfl,fun γ a wx hp hk=>bG rfl ?_⟩
     obtain⟨u1,h1,rfl⟩:=hk.g 3 53 rfl rfl
     obtain⟨u2,h2,rfl⟩:=hk.g 4 54 rfl rfl
     have hp:=(show SnE w V w2.heap.size (w2.heap.size+1) DD st x now q SO z nw D 0 γ wx from hp)
     simp [go_sem,Oper.wp,execOp,Act.eval,h1,h2]
     refine (HB.out _ hp).mono ?_
     rintro e w' ⟨dx,rfl,hd,hb⟩
     exact⟨_,rfl,dx,fun j v hj h=>OB hj h,rfl,SnE.call hp hb hd⟩
   · refine .inl ⟨1,rfl,fun γ a wx hp hk=>bG rfl ?_⟩
     have h1:=hk.k 11 rfl
     obtain⟨u2,h2,rfl⟩:=hk.g 5 55 rfl rfl
     have hp:=(show SnE w V w2.heap.size (w2.heap.size+1) DD st x now q SO z nw D 1 γ wx from hp)
     have hB:=(show Blk wx DD 48 nQ from hp.db)
     obtain⟨z0,z1,z2,z3,z4,z5,z6,z7⟩:=Blk.z8 (hB)
     obtain⟨c0,c1,c2,c3,c4,c5,c6,c7⟩:=Blk.c8 (hB)
     obtain⟨hB8,hG8⟩:=Blk.S8 (hB) (.int .i64 D.from_) (.int .i64 D.to_) (.slice γ.aj γ.nj γ.cj) (.slice γ.an γ.nn γ.cn) (.slice γ.al γ.nl γ.cl) (.slice γ.agj γ.ngj γ.cgj) (.slice γ.agn γ.ngn γ.cgn) (.slice γ.agl γ.ngl γ.cgl)
     have hfin:=SnE.store hp hG8 hB8
     clear hB hp hB8 hG8
     simp [go_sem,Oper.wp,execOp,Act.eval,h1,h2,c0,c1,c2,c3,c4,c5,c6,c7,z0,z1,z2,z3,z4,z5,z6,z7]
     exact⟨.int .i64 0,γ,fun _ _ _ h=>h,trivial,hfin⟩
 intro dx act wz hd
 have hz:=(show SnE w V w2.heap.size (w2.heap.size+1) DD st x now q SO z nw D 2 dx wz from hd.ph)
 obtain⟨fv,rfl,hfv⟩:=hd.frame [50,51,52,53,54,55] rfl
 have hv:=hz.h.sv.blk
 have hlV7:=hv.lt
 have hlN7:=hz.n.lt
 have hlK7:=hz.k.lt
 obtain⟨n0,n1,n2,n3⟩:=Blk.c4 (hz.n)
 obtain⟨c0,c1,c2,c3⟩:=Blk.c4 (hv)
 obtain⟨z0,z1,z2,z3⟩:=Blk.z4 (hv)
 obtain⟨hV4,hG4⟩:=Blk.S4 (hv) (.int .i64 SO.rev) (.slice z.aj z.nj z.cj) (.slice z.an z.nn z.cn) (.slice z.al z.nl z.cl)
 obtain⟨y0,y1,y2,y3⟩:=Blk.c4 hV4
 have y4:((((wz.setCell ⟨V,0,none⟩ (.int .i64 SO.rev)).setCell ⟨V,1,none⟩ (.slice z.aj z.nj z.cj)).setCell ⟨V,2,none⟩ (.slice z.an z.nn z.cn)).setCell ⟨V,3,none⟩ (.slice z.al z.nl z.cl)).cell? ⟨V,4,none⟩=some (.int .i64 now):=hV4.cell 4
 have yz:((((wz.setCell ⟨V,0,none⟩ (.int .i64 SO.rev)).setCell ⟨V,1,none⟩ (.slice z.aj z.nj z.cj)).setCell ⟨V,2,none⟩ (.slice z.an z.nn z.cn)).setCell ⟨V,3,none⟩ (.slice z.al z.nl z.cl)).frozen? ⟨V,4,none⟩=false:=hV4.thaw 4
 have yk:((((wz.setCell ⟨V,0,none⟩ (.int .i64 SO.rev)).setCell ⟨V,1,none⟩ (.slice z.aj z.nj z.cj)).setCell ⟨V,2,none⟩ (.slice z.an z.nn z.cn)).setCell ⟨V,3,none⟩ (.slice z.al z.nl z.cl)).cell? ⟨w2.heap.size+1,1,none⟩=some (.int .i64 nw):=(aA hG4 hz.k (by have:=hz.ks; have:=hz.h.lt; omega)).cell 1
 have hE0:=hz.end_ (aO hG4 4 (.int .i64 nw)) (Blk.eq (hV4.set 4 (.int .i64 nw)) (show _=AQ SO z nw from rfl))
 obtain⟨wE,hwE⟩:∃ wE,((((wz.setCell ⟨V,0,none⟩ (.int .i64 SO.rev)).setCell ⟨V,1,none⟩ (.slice z.aj z.nj z.cj)).setCell ⟨V,2,none⟩ (.slice z.an z.nn z.cn)).setCell ⟨V,3,none⟩ (.slice z.al z.nl z.cl)).setCell ⟨V,4,none⟩ (.int .i64 nw)=wE:=⟨_,rfl⟩
 rw [hwE] at hE0
 have HE0:=hid hE0
 have Hw:=hid hwE
 clear hd hfv hz hv hV4 hG4 hE0 hwE HS7 HB y0 y1 y2 y3
 simp only [foldl_cons,foldl_nil,setIfInBounds_toArray,set_cons_succ,set_cons_zero]
 go_wp2_with fail
 simp only [Hw.out]
 clear Hw y4 yz yk
 refine rq (Γ:=Unit) 78 (fun _=>sdeV V SO 0 D dx true) [9,10] (fun p _=>SdE 215 w V DD SO z nw D dx (rcP 0 SO.rev p) (dcP D dx p)) () (show SdE 215 w V DD SO z nw D dx #[.int .i64 0,.int .i64 0] nQ (wE).drew from HE0.out.drew) ?_ ?_
 · clear HE0
   refine⟨?_,?_,?_,?_,?_,?_,?_,?_,?_,?_,?_,?_,trivial⟩
   · exact ok0 0 0 7 rfl fun _=>rfl
   · exact ok0 0 0 0 rfl fun _=>rfl
   · exact ok1 0 0 1 70 rfl rfl (fun _ _ h=>h) fun _=>rfl
   · exact ok1 0 0 2 71 rfl rfl (fun _ _ h=>h) fun _=>rfl
   · exact ok1 0 0 3 72 rfl rfl (fun _ _ h=>h) fun _=>rfl
   · refine okQ 0 0 fun p γ a wx _ _ hp hk=>?_
     obtain⟨u1,h1,rfl⟩:=hk.g 4 73 rfl rfl
     have hc0:wx.cell? ⟨V,0,none⟩=some (.int .i64 SO.rev):=hp.v.cell 0
     simp [go_sem,Oper.wp,execOp,Act.eval,h1,hc0]
     exact⟨_,rfl,rfl,hp⟩
   · refine okQ 0 0 fun p γ a wx _ _ hp hk=>?_
     obtain⟨u1,h1,rfl⟩:=hk.g 0 69 rfl rfl
     obtain⟨u2,h2,rfl⟩:=hk.g 5 74 rfl rfl
     simp [go_sem,Oper.wp,execOp,Act.eval,h1,h2]
     exact⟨_,rfl,rfl,hp⟩
   · refine okQ 0 1 fun p γ a wx _ _ hp hk=>?_
     have h1:=hk.k 11 rfl
     obtain⟨hc0,hc1,hc2,hc3,hc4,hc5,hc6,hc7⟩:=Blk.c8 (hp.db)
     simp [go_sem,Oper.wp,execOp,Act.eval,h1,hc0,hc1,hc2,hc3,hc4,hc5,hc6,hc7]
     exact⟨_,rfl,rfl,hp⟩
   · exact ok0 0 2 10 rfl fun _=>rfl
   · refine .inl ⟨0,rfl,fun γ a wx hp hk=>bG rfl ?_⟩
     have h1:=hk.k 4 rfl
     obtain⟨u2,h2,rfl⟩:=hk.g 6 75 rfl rfl
     have hp:=(show SdE 215 w V DD SO z nw D dx #[.int .i64 0,.int .i64 0] nQ wx from hp)
     have hB:=hp.r
     obtain⟨z0,z1⟩:=Blk.z2 (hB)
     obtain⟨c0,c1⟩:=Blk.c2 (hB)
     have hfin:=hp.PA (sW 0 0) (aO (aO (gF wx (w.heap.size+1)) 0 (.int .i64 0)) 1 (.int .i64 SO.rev)) (Blk.eq ((hB.set 0 (.int .i64 0)).set 1 (.int .i64 SO.rev)) (show _=rcP 0 SO.rev 1 from rfl))
     clear hB hp
     simp [go_sem,Oper.wp,execOp,Act.eval,h1,h2,c0,c1,z0,z1]
     exact⟨⟨.int .i64 0,trivial⟩,hfin⟩
   · refine .inl ⟨1,rfl,fun γ a wx hp hk=>bG rfl ?_⟩
     have h1:=hk.k 5 rfl
     obtain⟨u2,h2,rfl⟩:=hk.g 7 76 rfl rfl
     have hp:=(show SdE 215 w V DD SO z nw D dx (rcP 0 SO.rev 1) nQ wx from hp)
     have hB:=hp.d
     obtain⟨z0,z1,z2,z3,z4,z5,z6,z7⟩:=Blk.z8 (hB)
     obtain⟨c0,c1,c2,c3,c4,c5,c6,c7⟩:=Blk.c8 (hB)
     obtain⟨hB8,hG8⟩:=Blk.S8 (hB) (.int .i64 D.from_) (.int .i64 D.to_) (.slice dx.aj dx.nj dx.cj) (.slice dx.an dx.nn dx.cn) (.slice dx.al dx.nl dx.cl) (.slice dx.agj dx.ngj dx.cgj) (.slice dx.agn dx.ngn dx.cgn) (.slice dx.agl dx.ngl dx.cgl)
     have hfin:=hp.PB (yc zD zA) hG8 (dc':=dC D dx) hB8
     clear hB hp hB8 hG8
     simp [go_sem,Oper.wp,execOp,Act.eval,h1,h2,c0,c1,c2,c3,c4,c5,c6,c7,z0,z1,z2,z3,z4,z5,z6,z7]
     exact⟨⟨.int .i64 0,trivial⟩,hfin⟩
   · exact ok1 2 2 8 77 rfl rfl (fun _ _ h=>h) fun _=>rfl
 intro γ act wz hd
 have hz:=(show SdE 215 w V DD SO z nw D dx #[.int .i64 0,.int .i64 SO.rev] (dC D dx) wz from hd.ph)
 obtain⟨fv,rfl,hfv⟩:=hd.frame [69,70,71,72,73,74,75,76,77,6] rfl
 have f6:fv 6 = .bool true:=hfv 11 _ 6 rfl rfl
 obtain⟨r0,r1⟩:=Blk.c2 (hz.r)
 obtain⟨y0,y1,y2,y3,y4,y5,y6,y7⟩:=Blk.c8 (hz.d)
 have cX:=hid (hz.end_ (st:=st) (R:=⟨0,true,SO,nw⟩) rfl rfl HDD.out)
 clear hd hfv hz HE0
 simp only [foldl_cons,foldl_nil,setIfInBounds_toArray,set_cons_succ,set_cons_zero,f6]
 clear f6
 go_wp2
 refine bodyPost_ret (v:=.tuple #[.agg #[.int .i64 0,.int .i64 SO.rev],.agg (dC D dx),.bool true]) (by simp [results,Tryz.results118,go_sem,dC, *]) rfl ?_
 exact cX.out
end Go.Proofs.YtcpgnjmaampglaaGreatDoor
