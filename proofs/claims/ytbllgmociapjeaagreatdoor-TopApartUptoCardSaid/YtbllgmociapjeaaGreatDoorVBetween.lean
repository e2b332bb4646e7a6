/- Of the proof of a statement: Between. -/
import Derived.Test.YtbllgmociapjeaaGreatDoorVDiffer
import Derived.Test.YtbllgmociapjeaaGreatDoorVFrmEncP
set_option linter.unusedVariables false
set_option linter.unusedSimpArgs false
set_option maxRecDepth 100000
set_option maxHeartbeats 8000000
/- The walks of delta.Between and delta.Diff. -/
namespace Go.Proofs.YtbllgmociapjeaaGreatDoor
open Go.Lib (hid)
open Go.RowKit
def Fs (a b:ah) (w:World) (e:Ending) (w':World):Prop:=
 ∃ x:fP,e = .returned (.agg (dC (eW a b) x))∧qK w' w.heap.size (eW a b) x∧Below w.heap.size w w'
structure pK (w0 w:World) (ca cb cd:Array Value):Prop where
 below:Below w0.heap.size w0 w
 a:Blk w w0.heap.size 26 ca
 b:Blk w (w0.heap.size+1) 26 cb
 r:Blk w (w0.heap.size+2) 113 fE
 d:Blk w (w0.heap.size+3) 113 cd
theorem pK.kept {w0 w w':World} {ca cb cd:Array Value} (h:pK w0 w ca cb cd) (hb:Below w.heap.size w w'):pK w0 w' ca cb cd:=
 ⟨h.below.trans (hb.mono h.below.size),h.a.below hb h.a.lt,h.b.below hb h.b.lt,h.r.below hb h.r.lt,h.d.below hb h.d.lt⟩
theorem pK.set {w0 w:World} {ca cb cd cd':Array Value} {i:Nat} {u:Value} (h:pK w0 w ca cb cd) (hc:cd.setIfInBounds i u=cd'):pK w0 (w.setCell ⟨w0.heap.size+3,i,none⟩ u) ca cb cd':=
 ⟨dR h.below (bE w _ i u) (by omega),aD (bE w _ i u) h.a (by omega),aD (bE w _ i u) h.b (by omega),aD (bE w _ i u) h.r (by omega),Blk.eq (h.d.set i u) hc⟩
theorem Ft (w:World) (ca cb cc cd:Array Value) {ta tb tc td:TypeId}:Blk ((((w.alloc (.cells ca ta)).alloc (.cells cb tb)).alloc (.cells cc tc)).alloc (.cells cd td)) w.heap.size ta ca∧Blk ((((w.alloc (.cells ca ta)).alloc (.cells cb tb)).alloc (.cells cc tc)).alloc (.cells cd td)) (w.heap.size+1) tb cb ∧
 Blk ((((w.alloc (.cells ca ta)).alloc (.cells cb tb)).alloc (.cells cc tc)).alloc (.cells cd td)) (w.heap.size+2) tc cc∧Blk ((((w.alloc (.cells ca ta)).alloc (.cells cb tb)).alloc (.cells cc tc)).alloc (.cells cd td)) (w.heap.size+3) td cd∧Below w.heap.size w ((((w.alloc (.cells ca ta)).alloc (.cells cb tb)).alloc (.cells cc tc)).alloc (.cells cd td)):=by
 have h1:Blk (w.alloc (.cells ca ta)) w.heap.size ta ca:=heap_alloc_new w _
 have h2:=heap_alloc_new (w.alloc (.cells ca ta)) (.cells cb tb)
 rw [show (w.alloc (.cells ca ta)).heap.size=w.heap.size+1 by simp] at h2
 have h3:=heap_alloc_new ((w.alloc (.cells ca ta)).alloc (.cells cb tb)) (.cells cc tc)
 rw [show ((w.alloc (.cells ca ta)).alloc (.cells cb tb)).heap.size=w.heap.size+2 by simp] at h3
 have h4:=heap_alloc_new (((w.alloc (.cells ca ta)).alloc (.cells cb tb)).alloc (.cells cc tc)) (.cells cd td)
 rw [show (((w.alloc (.cells ca ta)).alloc (.cells cb tb)).alloc (.cells cc tc)).heap.size=w.heap.size+3 by simp] at h4
 exact⟨((h1.alloc _).alloc _).alloc _,((show Blk _ _ _ _ from h2).alloc _).alloc _,(show Blk _ _ _ _ from h3).alloc _,h4,((((Below.refl _ _).alloc (Nat.le_refl _) _).alloc (by simp) _).alloc (by simp; omega) _).alloc (by simp; omega) _⟩
theorem bC {w:World} {base sz n D i:Nat} {e:TypeId} {v u:Value} {xs:List Value} (ho:w.ownsRow base e sz v n xs) (hD:D<base):(w.setCell ⟨D,i,none⟩ u).ownsRow base e sz v n xs:=bV ho (bE w D i u) hD
theorem zP (a b:ah) (x y:StA) (w:World) (hA:StAt w w.heap.size a x) (hB:StAt w w.heap.size b y) (h1:x.nj≤1000) (h2:x.nn≤1000) (h3:x.nl≤1000) (h4:y.nj≤1000) (h5:y.nn≤1000) (h6:y.nl≤1000) :
 Calls Tryz.prog 98 #[.agg (stC a x),.agg (stC b y)] w (Fs a b w):=by
 obtain⟨ra,ja,na,la⟩:=a
 obtain⟨aj,nj,cj,an,nn,cn,al,nl,cl⟩:=x
 obtain⟨rb,jb,nb,lb⟩:=b
 obtain⟨bj,mj,dj,bn,mn,dn,bl,ml,dl⟩:=y
 unfold stC
 dsimp only at *
 obtain⟨q1,q2,q3,q4,q5⟩:=Ft w #[.int .i64 ra,.slice aj nj cj,.slice an nn cn,.slice al nl cl] #[.int .i64 rb,.slice bj mj dj,.slice bn mn dn,.slice bl ml dl] fE #[.int .i64 ra,.int .i64 rb,.slice none 0 0,.slice none 0 0,.slice none 0 0,.slice none 0 0,.slice none 0 0,.slice none 0 0] (ta:=26) (tb:=26) (tc:=113) (td:=113)
 have H0:=hid (show pK w ((((w.alloc (.cells #[.int .i64 ra,.slice aj nj cj,.slice an nn cn,.slice al nl cl] 26)).alloc (.cells #[.int .i64 rb,.slice bj mj dj,.slice bn mn dn,.slice bl ml dl] 26)).alloc (.cells fE 113)).alloc (.cells #[.int .i64 ra,.int .i64 rb,.slice none 0 0,.slice none 0 0,.slice none 0 0,.slice none 0 0,.slice none 0 0,.slice none 0 0] 113)) _ _ _ from ⟨q5,q1,q2,q3,q4⟩)
 have HA:=hid hA
 have HB:=hid hB
 clear q1 q2 q3 q4 q5 hA hB
 go_enter Tryz.func98,Tryz.ntmps98
 have HC:=hid (Bt ja jb aj bj nj cj mj dj ((((w.alloc (.cells #[.int .i64 ra,.slice aj nj cj,.slice an nn cn,.slice al nl cl] 26)).alloc (.cells #[.int .i64 rb,.slice bj mj dj,.slice bn mn dn,.slice bl ml dl] 26)).alloc (.cells fE 113)).alloc (.cells #[.int .i64 ra,.int .i64 rb,.slice none 0 0,.slice none 0 0,.slice none 0 0,.slice none 0 0,.slice none 0 0,.slice none 0 0] 113)) (HA.out.j.below H0.out.below |>.more H0.out.below.size) HA.out.lj h1 (HB.out.j.below H0.out.below |>.more H0.out.below.size) HB.out.lj h4)
 go_wp2_with fail
 refine Calls.mono HC.out ?_
 rintro e w1 ⟨S0,s0,G0,g0,rfl,hs,hg,hb⟩
 have hk:=H0.out.kept hb
 have HO0:=hid (bK hs (show w.heap.size+3+1≤_ from by have:=H0.out.d.lt; omega))
 have HG0:=hid (bK hg (show w.heap.size+3+1≤_ from by have:=H0.out.d.lt; omega))
 have hd:=hk.d
 have hdl:=hd.lt
 have e1:w1.cell? ⟨w.heap.size+3,2,none⟩=some (.slice none 0 0):=hd.cell 2
 have e2:w1.cell? ⟨w.heap.size+3,5,none⟩=some (.slice none 0 0):=hd.cell 5
 have t1:w1.frozen? ⟨w.heap.size+3,2,none⟩=false:=hd.thaw 2
 have t2:w1.frozen? ⟨w.heap.size+3,5,none⟩=false:=hd.thaw 5
 have hk1:=pK.set hk (i:=2) (u:=.slice S0 (newL ja jb).length s0) (show _=#[.int .i64 ra,.int .i64 rb,.slice S0 (newL ja jb).length s0,.slice none 0 0,.slice none 0 0,.slice none 0 0,.slice none 0 0,.slice none 0 0] from rfl)
 have hk2:=pK.set hk1 (i:=5) (u:=.slice G0 (bX aC.name ja jb).length g0) (show _=#[.int .i64 ra,.int .i64 rb,.slice S0 (newL ja jb).length s0,.slice none 0 0,.slice none 0 0,.slice G0 (bX aC.name ja jb).length g0,.slice none 0 0,.slice none 0 0] from rfl)
 have HK1:=hid hk2
 have HO0:=hid (show ((w1.setCell ⟨w.heap.size+3,2,none⟩ (.slice S0 (newL ja jb).length s0)).setCell ⟨w.heap.size+3,5,none⟩ (.slice G0 (bX aC.name ja jb).length g0)).ownsRow (w.heap.size+3+1) _ _ _ _ _ from bC (bC HO0.out (Nat.lt_succ_self _)) (Nat.lt_succ_self _))
 have HG0:=hid (show ((w1.setCell ⟨w.heap.size+3,2,none⟩ (.slice S0 (newL ja jb).length s0)).setCell ⟨w.heap.size+3,5,none⟩ (.slice G0 (bX aC.name ja jb).length g0)).ownsRow (w.heap.size+3+1) _ _ _ _ _ from bC (bC HG0.out (Nat.lt_succ_self _)) (Nat.lt_succ_self _))
 clear hs hg hb hk hk1 hk2 hd HC
 have HC:=hid (zQ na nb an bn nn cn mn dn ((w1.setCell ⟨w.heap.size+3,2,none⟩ (.slice S0 (newL ja jb).length s0)).setCell ⟨w.heap.size+3,5,none⟩ (.slice G0 (bX aC.name ja jb).length g0)) (HA.out.n.below HK1.out.below |>.more HK1.out.below.size) HA.out.ln h2 (HB.out.n.below HK1.out.below |>.more HK1.out.below.size) HB.out.ln h5)
 have y2:((w1.setCell ⟨w.heap.size+3,2,none⟩ (.slice S0 (newL ja jb).length s0)).setCell ⟨w.heap.size+3,5,none⟩ (.slice G0 (bX aC.name ja jb).length g0)).cell? ⟨w.heap.size,2,none⟩=some (.slice an nn cn):=HK1.out.a.cell 2
 have z2:((w1.setCell ⟨w.heap.size+3,2,none⟩ (.slice S0 (newL ja jb).length s0)).setCell ⟨w.heap.size+3,5,none⟩ (.slice G0 (bX aC.name ja jb).length g0)).cell? ⟨w.heap.size+1,2,none⟩=some (.slice bn mn dn):=HK1.out.b.cell 2
 go_wp2_with fail
 refine Calls.mono HC.out ?_
 rintro e w2 ⟨S1,s1,G1,g1,rfl,hs,hg,hb⟩
 have hk:=HK1.out.kept hb
 have HO1:=hid (bK hs (show w.heap.size+3+1≤_ from by have:=HK1.out.d.lt; omega))
 have HG1:=hid (bK hg (show w.heap.size+3+1≤_ from by have:=HK1.out.d.lt; omega))
 have HO0:=hid (ay HO0.out hb)
 have HG0:=hid (ay HG0.out hb)
 have hd:=hk.d
 have hdl:=hd.lt
 have e1:w2.cell? ⟨w.heap.size+3,3,none⟩=some (.slice none 0 0):=hd.cell 3
 have e2:w2.cell? ⟨w.heap.size+3,6,none⟩=some (.slice none 0 0):=hd.cell 6
 have t1:w2.frozen? ⟨w.heap.size+3,3,none⟩=false:=hd.thaw 3
 have t2:w2.frozen? ⟨w.heap.size+3,6,none⟩=false:=hd.thaw 6
 have hk1:=pK.set hk (i:=3) (u:=.slice S1 (newL na nb).length s1) (show _=#[.int .i64 ra,.int .i64 rb,.slice S0 (newL ja jb).length s0,.slice S1 (newL na nb).length s1,.slice none 0 0,.slice G0 (bX aC.name ja jb).length g0,.slice none 0 0,.slice none 0 0] from rfl)
 have hk2:=pK.set hk1 (i:=6) (u:=.slice G1 (bX aA.name na nb).length g1) (show _=#[.int .i64 ra,.int .i64 rb,.slice S0 (newL ja jb).length s0,.slice S1 (newL na nb).length s1,.slice none 0 0,.slice G0 (bX aC.name ja jb).length g0,.slice G1 (bX aA.name na nb).length g1,.slice none 0 0] from rfl)
 have HK2:=hid hk2
 have HO0:=hid (show ((w2.setCell ⟨w.heap.size+3,3,none⟩ (.slice S1 (newL na nb).length s1)).setCell ⟨w.heap.size+3,6,none⟩ (.slice G1 (bX aA.name na nb).length g1)).ownsRow (w.heap.size+3+1) _ _ _ _ _ from bC (bC HO0.out (Nat.lt_succ_self _)) (Nat.lt_succ_self _))
 have HG0:=hid (show ((w2.setCell ⟨w.heap.size+3,3,none⟩ (.slice S1 (newL na nb).length s1)).setCell ⟨w.heap.size+3,6,none⟩ (.slice G1 (bX aA.name na nb).length g1)).ownsRow (w.heap.size+3+1) _ _ _ _ _ from bC (bC HG0.out (Nat.lt_succ_self _)) (Nat.lt_succ_self _))
 have HO1:=hid (show ((w2.setCell ⟨w.heap.size+3,3,none⟩ (.slice S1 (newL na nb).length s1)).setCell ⟨w.heap.size+3,6,none⟩ (.slice G1 (bX aA.name na nb).length g1)).ownsRow (w.heap.size+3+1) _ _ _ _ _ from bC (bC HO1.out (Nat.lt_succ_self _)) (Nat.lt_succ_self _))
 have HG1:=hid (show ((w2.setCell ⟨w.heap.size+3,3,none⟩ (.slice S1 (newL na nb).length s1)).setCell ⟨w.heap.size+3,6,none⟩ (.slice G1 (bX aA.name na nb).length g1)).ownsRow (w.heap.size+3+1) _ _ _ _ _ from bC (bC HG1.out (Nat.lt_succ_self _)) (Nat.lt_succ_self _))
 clear hs hg hb hk hk1 hk2 hd HC y2 z2
 have HC:=hid (yI la lb al bl nl cl ml dl ((w2.setCell ⟨w.heap.size+3,3,none⟩ (.slice S1 (newL na nb).length s1)).setCell ⟨w.heap.size+3,6,none⟩ (.slice G1 (bX aA.name na nb).length g1)) (HA.out.l.below HK2.out.below |>.more HK2.out.below.size) HA.out.ll h3 (HB.out.l.below HK2.out.below |>.more HK2.out.below.size) HB.out.ll h6)
 have y3:((w2.setCell ⟨w.heap.size+3,3,none⟩ (.slice S1 (newL na nb).length s1)).setCell ⟨w.heap.size+3,6,none⟩ (.slice G1 (bX aA.name na nb).length g1)).cell? ⟨w.heap.size,3,none⟩=some (.slice al nl cl):=HK2.out.a.cell 3
 have z3:((w2.setCell ⟨w.heap.size+3,3,none⟩ (.slice S1 (newL na nb).length s1)).setCell ⟨w.heap.size+3,6,none⟩ (.slice G1 (bX aA.name na nb).length g1)).cell? ⟨w.heap.size+1,3,none⟩=some (.slice bl ml dl):=HK2.out.b.cell 3
 go_wp2_with fail
 refine Calls.mono HC.out ?_
 rintro e w3 ⟨S2,s2,G2,g2,rfl,hs,hg,hb⟩
 have hk:=HK2.out.kept hb
 have HO2:=hid (bK hs (show w.heap.size+3+1≤_ from by have:=HK2.out.d.lt; omega))
 have HG2:=hid (bK hg (show w.heap.size+3+1≤_ from by have:=HK2.out.d.lt; omega))
 have HO0:=hid (ay HO0.out hb)
 have HG0:=hid (ay HG0.out hb)
 have HO1:=hid (ay HO1.out hb)
 have HG1:=hid (ay HG1.out hb)
 have hd:=hk.d
 have hdl:=hd.lt
 have e1:w3.cell? ⟨w.heap.size+3,4,none⟩=some (.slice none 0 0):=hd.cell 4
 have e2:w3.cell? ⟨w.heap.size+3,7,none⟩=some (.slice none 0 0):=hd.cell 7
 have t1:w3.frozen? ⟨w.heap.size+3,4,none⟩=false:=hd.thaw 4
 have t2:w3.frozen? ⟨w.heap.size+3,7,none⟩=false:=hd.thaw 7
 have hk1:=pK.set hk (i:=4) (u:=.slice S2 (newL la lb).length s2) (show _=#[.int .i64 ra,.int .i64 rb,.slice S0 (newL ja jb).length s0,.slice S1 (newL na nb).length s1,.slice S2 (newL la lb).length s2,.slice G0 (bX aC.name ja jb).length g0,.slice G1 (bX aA.name na nb).length g1,.slice none 0 0] from rfl)
 have hk2:=pK.set hk1 (i:=7) (u:=.slice G2 (bX ak.job la lb).length g2) (show _=#[.int .i64 ra,.int .i64 rb,.slice S0 (newL ja jb).length s0,.slice S1 (newL na nb).length s1,.slice S2 (newL la lb).length s2,.slice G0 (bX aC.name ja jb).length g0,.slice G1 (bX aA.name na nb).length g1,.slice G2 (bX ak.job la lb).length g2] from rfl)
 have HK3:=hid hk2
 have HO0:=hid (show ((w3.setCell ⟨w.heap.size+3,4,none⟩ (.slice S2 (newL la lb).length s2)).setCell ⟨w.heap.size+3,7,none⟩ (.slice G2 (bX ak.job la lb).length g2)).ownsRow (w.heap.size+3+1) _ _ _ _ _ from bC (bC HO0.out (Nat.lt_succ_self _)) (Nat.lt_succ_self _))
 have HG0:=hid (show ((w3.setCell ⟨w.heap.size+3,4,none⟩ (.slice S2 (newL la lb).length s2)).setCell ⟨w.heap.size+3,7,none⟩ (.slice G2 (bX ak.job la lb).length g2)).ownsRow (w.heap.size+3+1) _ _ _ _ _ from bC (bC HG0.out (Nat.lt_succ_self _)) (Nat.lt_succ_self _))
 have HO1:=hid (show ((w3.setCell ⟨w.heap.size+3,4,none⟩ (.slice S2 (newL la lb).length s2)).setCell ⟨w.heap.size+3,7,none⟩ (.slice G2 (bX ak.job la lb).length g2)).ownsRow (w.heap.size+3+1) _ _ _ _ _ from bC (bC HO1.out (Nat.lt_succ_self _)) (Nat.lt_succ_self _))
 have HG1:=hid (show ((w3.setCell ⟨w.heap.size+3,4,none⟩ (.slice S2 (newL la lb).length s2)).setCell ⟨w.heap.size+3,7,none⟩ (.slice G2 (bX ak.job la lb).length g2)).ownsRow (w.heap.size+3+1) _ _ _ _ _ from bC (bC HG1.out (Nat.lt_succ_self _)) (Nat.lt_succ_self _))
 have HO2:=hid (show ((w3.setCell ⟨w.heap.size+3,4,none⟩ (.slice S2 (newL la lb).length s2)).setCell ⟨w.heap.size+3,7,none⟩ (.slice G2 (bX ak.job la lb).length g2)).ownsRow (w.heap.size+3+1) _ _ _ _ _ from bC (bC HO2.out (Nat.lt_succ_self _)) (Nat.lt_succ_self _))
 have HG2:=hid (show ((w3.setCell ⟨w.heap.size+3,4,none⟩ (.slice S2 (newL la lb).length s2)).setCell ⟨w.heap.size+3,7,none⟩ (.slice G2 (bX ak.job la lb).length g2)).ownsRow (w.heap.size+3+1) _ _ _ _ _ from bC (bC HG2.out (Nat.lt_succ_self _)) (Nat.lt_succ_self _))
 clear hs hg hb hk hk1 hk2 hd HC y3 z3
 have hrr:=HK3.out.r
 have hrl:=hrr.lt
 obtain⟨b0,b1,b2,b3,b4,b5,b6,b7⟩:=Blk.c8 (HK3.out.d)
 obtain⟨ur0,ur1,ur2,ur3,ur4,ur5,ur6,ur7⟩:=Blk.z8 (hrr)
 obtain⟨sr0,sr1,sr2,sr3,sr4,sr5,sr6,sr7⟩:=Blk.c8 (hrr)
 obtain⟨hR4,hG4⟩:=Blk.S8 (hrr) (.int .i64 ra) (.int .i64 rb) (.slice S0 (newL ja jb).length s0) (.slice S1 (newL na nb).length s1) (.slice S2 (newL la lb).length s2) (.slice G0 (bX aC.name ja jb).length g0) (.slice G1 (bX aA.name na nb).length g1) (.slice G2 (bX ak.job la lb).length g2)
 obtain⟨q0,q1,q2,q3,q4,q5,q6,q7⟩:=Blk.c8 hR4
 have aP:=hid (show Fs ⟨ra,ja,na,la⟩ ⟨rb,jb,nb,lb⟩ w (.returned (.agg #[.int .i64 ra,.int .i64 rb,.slice S0 (newL ja jb).length s0,.slice S1 (newL na nb).length s1,.slice S2 (newL la lb).length s2,.slice G0 (bX aC.name ja jb).length g0,.slice G1 (bX aA.name na nb).length g1,.slice G2 (bX ak.job la lb).length g2])) _ from ⟨⟨S0,(newL ja jb).length,s0,S1,(newL na nb).length,s1,S2,(newL la lb).length,s2,G0,(bX aC.name ja jb).length,g0,G1,(bX aA.name na nb).length,g1,G2,(bX ak.job la lb).length,g2⟩,rfl,⟨⟨w.heap.size+3+1,by omega,bV HO0.out hG4 (by omega)⟩,⟨w.heap.size+3+1,by omega,bV HO1.out hG4 (by omega)⟩,⟨w.heap.size+3+1,by omega,bV HO2.out hG4 (by omega)⟩,⟨w.heap.size+3+1,by omega,bV HG0.out hG4 (by omega)⟩,⟨w.heap.size+3+1,by omega,bV HG1.out hG4 (by omega)⟩,⟨w.heap.size+3+1,by omega,bV HG2.out hG4 (by omega)⟩,rfl,rfl,rfl,rfl,rfl,rfl⟩,dR HK3.out.below hG4 (by omega)⟩)
 clear hrr hR4 hG4 HO0 HO1 HO2 HG0 HG1 HG2 HK1 HK2 HK3 HA HB H0
 go_wp2
 refine bodyPost_ret (v:=.agg #[.int .i64 ra,.int .i64 rb,.slice S0 (newL ja jb).length s0,.slice S1 (newL na nb).length s1,.slice S2 (newL la lb).length s2,.slice G0 (bX aC.name ja jb).length g0,.slice G1 (bX aA.name na nb).length g1,.slice G2 (bX ak.job la lb).length g2]) (by simp [results,Tryz.results98,go_sem, *]) rfl ?_
 exact aP.out
end Go.Proofs.YtbllgmociapjeaaGreatDoor
