/- Of the proof of a statement: Between, RBetween, PlFrame, FrmEnc, PlDec, PlEnc, PlJp, SameR. -/
import Derived.Deep.RegionHeld3
import Derived.Lib.AtoiAll
import Derived.Lib.AtoiAllCases
import Derived.Lib.Small
import Derived.Lib.ItoaNum
import Derived.Lib.Join
import Derived.Test.YtoeejfhdjmkpcaaGreatDoorUDDec
import Derived.Test.YtoeejfhdjmkpcaaGreatDoorUDiffer
import Derived.Test.YtoeejfhdjmkpcaaGreatDoorUSvOwn
set_option linter.unusedVariables false
set_option linter.unusedSimpArgs false
set_option maxRecDepth 100000
set_option maxHeartbeats 8000000
/- The walks of delta.Between and delta.Diff. -/
namespace Go.Proofs.YtoeejfhdjmkpcaaGreatDoor
open Go.Lib (hid)
open Go.RowKit
def Ig (a b:ak) (w:World) (e:Ending) (w':World):Prop:=
 ∃ x:eI,e = .returned (.agg (dC (cM a b) x))∧qO w' w.heap.size (cM a b) x∧Below w.heap.size w w'
structure qK (w0 w:World) (ca cb cd:Array Value):Prop where
 below:Below w0.heap.size w0 w
 a:Blk w w0.heap.size 26 ca
 b:Blk w (w0.heap.size+1) 26 cb
 r:Blk w (w0.heap.size+2) 45 cI
 d:Blk w (w0.heap.size+3) 45 cd
theorem qK.kept {w0 w w':World} {ca cb cd:Array Value} (h:qK w0 w ca cb cd) (hb:Below w.heap.size w w'):qK w0 w' ca cb cd:=
 ⟨h.below.trans (hb.mono h.below.size),h.a.below hb h.a.lt,h.b.below hb h.b.lt,h.r.below hb h.r.lt,h.d.below hb h.d.lt⟩
theorem qK.set {w0 w:World} {ca cb cd cd':Array Value} {i:Nat} {u:Value} (h:qK w0 w ca cb cd) (hc:cd.setIfInBounds i u=cd'):qK w0 (w.setCell ⟨w0.heap.size+3,i,none⟩ u) ca cb cd':=
 ⟨aI h.below (aD w _ i u) (by omega),aE (aD w _ i u) h.a (by omega),aE (aD w _ i u) h.b (by omega),aE (aD w _ i u) h.r (by omega),Blk.eq (h.d.set i u) hc⟩
theorem Ih (w:World) (ca cb cc cd:Array Value) {ta tb tc td:TypeId}:Blk ((((w.alloc (.cells ca ta)).alloc (.cells cb tb)).alloc (.cells cc tc)).alloc (.cells cd td)) w.heap.size ta ca∧Blk ((((w.alloc (.cells ca ta)).alloc (.cells cb tb)).alloc (.cells cc tc)).alloc (.cells cd td)) (w.heap.size+1) tb cb ∧
 Blk ((((w.alloc (.cells ca ta)).alloc (.cells cb tb)).alloc (.cells cc tc)).alloc (.cells cd td)) (w.heap.size+2) tc cc∧Blk ((((w.alloc (.cells ca ta)).alloc (.cells cb tb)).alloc (.cells cc tc)).alloc (.cells cd td)) (w.heap.size+3) td cd∧Below w.heap.size w ((((w.alloc (.cells ca ta)).alloc (.cells cb tb)).alloc (.cells cc tc)).alloc (.cells cd td)):=by
 have h1:Blk (w.alloc (.cells ca ta)) w.heap.size ta ca:=heap_alloc_new w _
 have h2:=heap_alloc_new (w.alloc (.cells ca ta)) (.cells cb tb)
 rw [show (w.alloc (.cells ca ta)).heap.size=w.heap.size+1 by simp] at h2
 have h3:=heap_alloc_new ((w.alloc (.cells ca ta)).alloc (.cells cb tb)) (.cells cc tc)
 rw [show ((w.alloc (.cells ca ta)).alloc (.cells cb tb)).heap.size=w.heap.size+2 by simp] at h3
 have h4:=heap_alloc_new (((w.alloc (.cells ca ta)).alloc (.cells cb tb)).alloc (.cells cc tc)) (.cells cd td)
 rw [show (((w.alloc (.cells ca ta)).alloc (.cells cb tb)).alloc (.cells cc tc)).heap.size=w.heap.size+3 by simp] at h4
 exact⟨((h1.alloc _).alloc _).alloc _,((show Blk _ _ _ _ from h2).alloc _).alloc _,(show Blk _ _ _ _ from h3).alloc _,h4,((((Below.refl _ _).alloc (Nat.le_refl _) _).alloc (by simp) _).alloc (by simp; omega) _).alloc (by simp; omega) _⟩
theorem bB {w:World} {base sz n D i:Nat} {e:TypeId} {v u:Value} {xs:List Value} (ho:w.ownsRow base e sz v n xs) (hD:D<base):(w.setCell ⟨D,i,none⟩ u).ownsRow base e sz v n xs:=bG ho (aD w D i u) hD
theorem BE (a b:ak) (x y:StA) (w:World) (hA:StAt w w.heap.size a x) (hB:StAt w w.heap.size b y) (h1:x.nj≤1000) (h2:x.nn≤1000) (h3:x.nl≤1000) (h4:y.nj≤1000) (h5:y.nn≤1000) (h6:y.nl≤1000) :
 Calls Tryz.prog 47 #[.agg (stC a x),.agg (stC b y)] w (Ig a b w):=by
 obtain⟨ra,ja,na,la⟩:=a
 obtain⟨aj,nj,cj,an,nn,cn,al,nl,cl⟩:=x
 obtain⟨rb,jb,nb,lb⟩:=b
 obtain⟨bj,mj,dj,bn,mn,dn,bl,ml,dl⟩:=y
 unfold stC
 dsimp only at *
 obtain⟨q1,q2,q3,q4,q5⟩:=Ih w #[.int .i64 ra,.slice aj nj cj,.slice an nn cn,.slice al nl cl] #[.int .i64 rb,.slice bj mj dj,.slice bn mn dn,.slice bl ml dl] cI #[.int .i64 ra,.int .i64 rb,.slice none 0 0,.slice none 0 0,.slice none 0 0,.slice none 0 0,.slice none 0 0,.slice none 0 0] (ta:=26) (tb:=26) (tc:=45) (td:=45)
 have H0:=hid (show qK w ((((w.alloc (.cells #[.int .i64 ra,.slice aj nj cj,.slice an nn cn,.slice al nl cl] 26)).alloc (.cells #[.int .i64 rb,.slice bj mj dj,.slice bn mn dn,.slice bl ml dl] 26)).alloc (.cells cI 45)).alloc (.cells #[.int .i64 ra,.int .i64 rb,.slice none 0 0,.slice none 0 0,.slice none 0 0,.slice none 0 0,.slice none 0 0,.slice none 0 0] 45)) _ _ _ from ⟨q5,q1,q2,q3,q4⟩)
 have HA:=hid hA
 have HB:=hid hB
 clear q1 q2 q3 q4 q5 hA hB
 go_enter Tryz.func47,Tryz.ntmps47
 have HC:=hid (CZ ja jb aj bj nj cj mj dj ((((w.alloc (.cells #[.int .i64 ra,.slice aj nj cj,.slice an nn cn,.slice al nl cl] 26)).alloc (.cells #[.int .i64 rb,.slice bj mj dj,.slice bn mn dn,.slice bl ml dl] 26)).alloc (.cells cI 45)).alloc (.cells #[.int .i64 ra,.int .i64 rb,.slice none 0 0,.slice none 0 0,.slice none 0 0,.slice none 0 0,.slice none 0 0,.slice none 0 0] 45)) (HA.out.j.below H0.out.below |>.more H0.out.below.size) HA.out.lj h1 (HB.out.j.below H0.out.below |>.more H0.out.below.size) HB.out.lj h4)
 go_wp2_with fail
 refine Calls.mono HC.out ?_
 rintro e w1 ⟨S0,s0,G0,g0,rfl,hs,hg,hb⟩
 have hk:=H0.out.kept hb
 have HO0:=hid (bL hs (show w.heap.size+3+1≤_ from by have:=H0.out.d.lt; omega))
 have HG0:=hid (bL hg (show w.heap.size+3+1≤_ from by have:=H0.out.d.lt; omega))
 have hd:=hk.d
 have hdl:=hd.lt
 have e1:w1.cell? ⟨w.heap.size+3,2,none⟩=some (.slice none 0 0):=hd.cell 2
 have e2:w1.cell? ⟨w.heap.size+3,5,none⟩=some (.slice none 0 0):=hd.cell 5
 have t1:w1.frozen? ⟨w.heap.size+3,2,none⟩=false:=hd.thaw 2
 have t2:w1.frozen? ⟨w.heap.size+3,5,none⟩=false:=hd.thaw 5
 have hk1:=qK.set hk (i:=2) (u:=.slice S0 (newL ja jb).length s0) (show _=#[.int .i64 ra,.int .i64 rb,.slice S0 (newL ja jb).length s0,.slice none 0 0,.slice none 0 0,.slice none 0 0,.slice none 0 0,.slice none 0 0] from rfl)
 have hk2:=qK.set hk1 (i:=5) (u:=.slice G0 (bM aA.name ja jb).length g0) (show _=#[.int .i64 ra,.int .i64 rb,.slice S0 (newL ja jb).length s0,.slice none 0 0,.slice none 0 0,.slice G0 (bM aA.name ja jb).length g0,.slice none 0 0,.slice none 0 0] from rfl)
 have HK1:=hid hk2
 have HO0:=hid (show ((w1.setCell ⟨w.heap.size+3,2,none⟩ (.slice S0 (newL ja jb).length s0)).setCell ⟨w.heap.size+3,5,none⟩ (.slice G0 (bM aA.name ja jb).length g0)).ownsRow (w.heap.size+3+1) _ _ _ _ _ from bB (bB HO0.out (Nat.lt_succ_self _)) (Nat.lt_succ_self _))
 have HG0:=hid (show ((w1.setCell ⟨w.heap.size+3,2,none⟩ (.slice S0 (newL ja jb).length s0)).setCell ⟨w.heap.size+3,5,none⟩ (.slice G0 (bM aA.name ja jb).length g0)).ownsRow (w.heap.size+3+1) _ _ _ _ _ from bB (bB HG0.out (Nat.lt_succ_self _)) (Nat.lt_succ_self _))
 clear hs hg hb hk hk1 hk2 hd HC
 have HC:=hid (By na nb an bn nn cn mn dn ((w1.setCell ⟨w.heap.size+3,2,none⟩ (.slice S0 (newL ja jb).length s0)).setCell ⟨w.heap.size+3,5,none⟩ (.slice G0 (bM aA.name ja jb).length g0)) (HA.out.n.below HK1.out.below |>.more HK1.out.below.size) HA.out.ln h2 (HB.out.n.below HK1.out.below |>.more HK1.out.below.size) HB.out.ln h5)
 have y2:((w1.setCell ⟨w.heap.size+3,2,none⟩ (.slice S0 (newL ja jb).length s0)).setCell ⟨w.heap.size+3,5,none⟩ (.slice G0 (bM aA.name ja jb).length g0)).cell? ⟨w.heap.size,2,none⟩=some (.slice an nn cn):=HK1.out.a.cell 2
 have z2:((w1.setCell ⟨w.heap.size+3,2,none⟩ (.slice S0 (newL ja jb).length s0)).setCell ⟨w.heap.size+3,5,none⟩ (.slice G0 (bM aA.name ja jb).length g0)).cell? ⟨w.heap.size+1,2,none⟩=some (.slice bn mn dn):=HK1.out.b.cell 2
 go_wp2_with fail
 refine Calls.mono HC.out ?_
 rintro e w2 ⟨S1,s1,G1,g1,rfl,hs,hg,hb⟩
 have hk:=HK1.out.kept hb
 have HO1:=hid (bL hs (show w.heap.size+3+1≤_ from by have:=HK1.out.d.lt; omega))
 have HG1:=hid (bL hg (show w.heap.size+3+1≤_ from by have:=HK1.out.d.lt; omega))
 have HO0:=hid (aC HO0.out hb)
 have HG0:=hid (aC HG0.out hb)
 have hd:=hk.d
 have hdl:=hd.lt
 have e1:w2.cell? ⟨w.heap.size+3,3,none⟩=some (.slice none 0 0):=hd.cell 3
 have e2:w2.cell? ⟨w.heap.size+3,6,none⟩=some (.slice none 0 0):=hd.cell 6
 have t1:w2.frozen? ⟨w.heap.size+3,3,none⟩=false:=hd.thaw 3
 have t2:w2.frozen? ⟨w.heap.size+3,6,none⟩=false:=hd.thaw 6
 have hk1:=qK.set hk (i:=3) (u:=.slice S1 (newL na nb).length s1) (show _=#[.int .i64 ra,.int .i64 rb,.slice S0 (newL ja jb).length s0,.slice S1 (newL na nb).length s1,.slice none 0 0,.slice G0 (bM aA.name ja jb).length g0,.slice none 0 0,.slice none 0 0] from rfl)
 have hk2:=qK.set hk1 (i:=6) (u:=.slice G1 (bM av.name na nb).length g1) (show _=#[.int .i64 ra,.int .i64 rb,.slice S0 (newL ja jb).length s0,.slice S1 (newL na nb).length s1,.slice none 0 0,.slice G0 (bM aA.name ja jb).length g0,.slice G1 (bM av.name na nb).length g1,.slice none 0 0] from rfl)
 have HK2:=hid hk2
 have HO0:=hid (show ((w2.setCell ⟨w.heap.size+3,3,none⟩ (.slice S1 (newL na nb).length s1)).setCell ⟨w.heap.size+3,6,none⟩ (.slice G1 (bM av.name na nb).length g1)).ownsRow (w.heap.size+3+1) _ _ _ _ _ from bB (bB HO0.out (Nat.lt_succ_self _)) (Nat.lt_succ_self _))
 have HG0:=hid (show ((w2.setCell ⟨w.heap.size+3,3,none⟩ (.slice S1 (newL na nb).length s1)).setCell ⟨w.heap.size+3,6,none⟩ (.slice G1 (bM av.name na nb).length g1)).ownsRow (w.heap.size+3+1) _ _ _ _ _ from bB (bB HG0.out (Nat.lt_succ_self _)) (Nat.lt_succ_self _))
 have HO1:=hid (show ((w2.setCell ⟨w.heap.size+3,3,none⟩ (.slice S1 (newL na nb).length s1)).setCell ⟨w.heap.size+3,6,none⟩ (.slice G1 (bM av.name na nb).length g1)).ownsRow (w.heap.size+3+1) _ _ _ _ _ from bB (bB HO1.out (Nat.lt_succ_self _)) (Nat.lt_succ_self _))
 have HG1:=hid (show ((w2.setCell ⟨w.heap.size+3,3,none⟩ (.slice S1 (newL na nb).length s1)).setCell ⟨w.heap.size+3,6,none⟩ (.slice G1 (bM av.name na nb).length g1)).ownsRow (w.heap.size+3+1) _ _ _ _ _ from bB (bB HG1.out (Nat.lt_succ_self _)) (Nat.lt_succ_self _))
 clear hs hg hb hk hk1 hk2 hd HC y2 z2
 have HC:=hid (Ap la lb al bl nl cl ml dl ((w2.setCell ⟨w.heap.size+3,3,none⟩ (.slice S1 (newL na nb).length s1)).setCell ⟨w.heap.size+3,6,none⟩ (.slice G1 (bM av.name na nb).length g1)) (HA.out.l.below HK2.out.below |>.more HK2.out.below.size) HA.out.ll h3 (HB.out.l.below HK2.out.below |>.more HK2.out.below.size) HB.out.ll h6)
 have y3:((w2.setCell ⟨w.heap.size+3,3,none⟩ (.slice S1 (newL na nb).length s1)).setCell ⟨w.heap.size+3,6,none⟩ (.slice G1 (bM av.name na nb).length g1)).cell? ⟨w.heap.size,3,none⟩=some (.slice al nl cl):=HK2.out.a.cell 3
 have z3:((w2.setCell ⟨w.heap.size+3,3,none⟩ (.slice S1 (newL na nb).length s1)).setCell ⟨w.heap.size+3,6,none⟩ (.slice G1 (bM av.name na nb).length g1)).cell? ⟨w.heap.size+1,3,none⟩=some (.slice bl ml dl):=HK2.out.b.cell 3
 go_wp2_with fail
 refine Calls.mono HC.out ?_
 rintro e w3 ⟨S2,s2,G2,g2,rfl,hs,hg,hb⟩
 have hk:=HK2.out.kept hb
 have HO2:=hid (bL hs (show w.heap.size+3+1≤_ from by have:=HK2.out.d.lt; omega))
 have HG2:=hid (bL hg (show w.heap.size+3+1≤_ from by have:=HK2.out.d.lt; omega))
 have HO0:=hid (aC HO0.out hb)
 have HG0:=hid (aC HG0.out hb)
 have HO1:=hid (aC HO1.out hb)
 have HG1:=hid (aC HG1.out hb)
 have hd:=hk.d
 have hdl:=hd.lt
 have e1:w3.cell? ⟨w.heap.size+3,4,none⟩=some (.slice none 0 0):=hd.cell 4
 have e2:w3.cell? ⟨w.heap.size+3,7,none⟩=some (.slice none 0 0):=hd.cell 7
 have t1:w3.frozen? ⟨w.heap.size+3,4,none⟩=false:=hd.thaw 4
 have t2:w3.frozen? ⟨w.heap.size+3,7,none⟩=false:=hd.thaw 7
 have hk1:=qK.set hk (i:=4) (u:=.slice S2 (newL la lb).length s2) (show _=#[.int .i64 ra,.int .i64 rb,.slice S0 (newL ja jb).length s0,.slice S1 (newL na nb).length s1,.slice S2 (newL la lb).length s2,.slice G0 (bM aA.name ja jb).length g0,.slice G1 (bM av.name na nb).length g1,.slice none 0 0] from rfl)
 have hk2:=qK.set hk1 (i:=7) (u:=.slice G2 (bM ah.job la lb).length g2) (show _=#[.int .i64 ra,.int .i64 rb,.slice S0 (newL ja jb).length s0,.slice S1 (newL na nb).length s1,.slice S2 (newL la lb).length s2,.slice G0 (bM aA.name ja jb).length g0,.slice G1 (bM av.name na nb).length g1,.slice G2 (bM ah.job la lb).length g2] from rfl)
 have HK3:=hid hk2
 have HO0:=hid (show ((w3.setCell ⟨w.heap.size+3,4,none⟩ (.slice S2 (newL la lb).length s2)).setCell ⟨w.heap.size+3,7,none⟩ (.slice G2 (bM ah.job la lb).length g2)).ownsRow (w.heap.size+3+1) _ _ _ _ _ from bB (bB HO0.out (Nat.lt_succ_self _)) (Nat.lt_succ_self _))
 have HG0:=hid (show ((w3.setCell ⟨w.heap.size+3,4,none⟩ (.slice S2 (newL la lb).length s2)).setCell ⟨w.heap.size+3,7,none⟩ (.slice G2 (bM ah.job la lb).length g2)).ownsRow (w.heap.size+3+1) _ _ _ _ _ from bB (bB HG0.out (Nat.lt_succ_self _)) (Nat.lt_succ_self _))
 have HO1:=hid (show ((w3.setCell ⟨w.heap.size+3,4,none⟩ (.slice S2 (newL la lb).length s2)).setCell ⟨w.heap.size+3,7,none⟩ (.slice G2 (bM ah.job la lb).length g2)).ownsRow (w.heap.size+3+1) _ _ _ _ _ from bB (bB HO1.out (Nat.lt_succ_self _)) (Nat.lt_succ_self _))
 have HG1:=hid (show ((w3.setCell ⟨w.heap.size+3,4,none⟩ (.slice S2 (newL la lb).length s2)).setCell ⟨w.heap.size+3,7,none⟩ (.slice G2 (bM ah.job la lb).length g2)).ownsRow (w.heap.size+3+1) _ _ _ _ _ from bB (bB HG1.out (Nat.lt_succ_self _)) (Nat.lt_succ_self _))
 have HO2:=hid (show ((w3.setCell ⟨w.heap.size+3,4,none⟩ (.slice S2 (newL la lb).length s2)).setCell ⟨w.heap.size+3,7,none⟩ (.slice G2 (bM ah.job la lb).length g2)).ownsRow (w.heap.size+3+1) _ _ _ _ _ from bB (bB HO2.out (Nat.lt_succ_self _)) (Nat.lt_succ_self _))
 have HG2:=hid (show ((w3.setCell ⟨w.heap.size+3,4,none⟩ (.slice S2 (newL la lb).length s2)).setCell ⟨w.heap.size+3,7,none⟩ (.slice G2 (bM ah.job la lb).length g2)).ownsRow (w.heap.size+3+1) _ _ _ _ _ from bB (bB HG2.out (Nat.lt_succ_self _)) (Nat.lt_succ_self _))
 clear hs hg hb hk hk1 hk2 hd HC y3 z3
 have hrr:=HK3.out.r
 have hrl:=hrr.lt
 obtain⟨b0,b1,b2,b3,b4,b5,b6,b7⟩:=Blk.c8 (HK3.out.d)
 obtain⟨ur0,ur1,ur2,ur3,ur4,ur5,ur6,ur7⟩:=Blk.z8 (hrr)
 obtain⟨sr0,sr1,sr2,sr3,sr4,sr5,sr6,sr7⟩:=Blk.c8 (hrr)
 obtain⟨hR4,hG4⟩:=Blk.S8 (hrr) (.int .i64 ra) (.int .i64 rb) (.slice S0 (newL ja jb).length s0) (.slice S1 (newL na nb).length s1) (.slice S2 (newL la lb).length s2) (.slice G0 (bM aA.name ja jb).length g0) (.slice G1 (bM av.name na nb).length g1) (.slice G2 (bM ah.job la lb).length g2)
 obtain⟨q0,q1,q2,q3,q4,q5,q6,q7⟩:=Blk.c8 hR4
 have aS:=hid (show Ig ⟨ra,ja,na,la⟩ ⟨rb,jb,nb,lb⟩ w (.returned (.agg #[.int .i64 ra,.int .i64 rb,.slice S0 (newL ja jb).length s0,.slice S1 (newL na nb).length s1,.slice S2 (newL la lb).length s2,.slice G0 (bM aA.name ja jb).length g0,.slice G1 (bM av.name na nb).length g1,.slice G2 (bM ah.job la lb).length g2])) _ from ⟨⟨S0,(newL ja jb).length,s0,S1,(newL na nb).length,s1,S2,(newL la lb).length,s2,G0,(bM aA.name ja jb).length,g0,G1,(bM av.name na nb).length,g1,G2,(bM ah.job la lb).length,g2⟩,rfl,⟨⟨w.heap.size+3+1,by omega,bG HO0.out hG4 (by omega)⟩,⟨w.heap.size+3+1,by omega,bG HO1.out hG4 (by omega)⟩,⟨w.heap.size+3+1,by omega,bG HO2.out hG4 (by omega)⟩,⟨w.heap.size+3+1,by omega,bG HG0.out hG4 (by omega)⟩,⟨w.heap.size+3+1,by omega,bG HG1.out hG4 (by omega)⟩,⟨w.heap.size+3+1,by omega,bG HG2.out hG4 (by omega)⟩,rfl,rfl,rfl,rfl,rfl,rfl⟩,aI HK3.out.below hG4 (by omega)⟩)
 clear hrr hR4 hG4 HO0 HO1 HO2 HG0 HG1 HG2 HK1 HK2 HK3 HA HB H0
 go_wp2
 refine bodyPost_ret (v:=.agg #[.int .i64 ra,.int .i64 rb,.slice S0 (newL ja jb).length s0,.slice S1 (newL na nb).length s1,.slice S2 (newL la lb).length s2,.slice G0 (bM aA.name ja jb).length g0,.slice G1 (bM av.name na nb).length g1,.slice G2 (bM ah.job la lb).length g2]) (by simp [results,Tryz.results47,go_sem, *]) rfl ?_
 exact aS.out
end Go.Proofs.YtoeejfhdjmkpcaaGreatDoor
/- The walk of the reference's Between. -/
namespace Go.Proofs.YtoeejfhdjmkpcaaGreatDoor
open Go.Lib (hid)
open Go.RowKit
theorem qK.grew {w0 w w':World} {ca cb cd:Array Value} {v v':Value} (h:qK w0 w ca cb cd) (hg:cE w w' v v') (hv:∀ k,v.ownBlock=some k→w0.heap.size+4≤k):qK w0 w' ca cb cd:=
 have h4:w0.heap.size+4≤w.heap.size:=h.d.lt
 have hb:=hg.below (B:=w0.heap.size+4) h4 hv
 ⟨h.below.trans (hb.mono (by omega)),h.a.below hb (by omega),h.b.below hb (by omega),h.r.below hb (by omega),h.d.below hb (by omega)⟩
end Go.Proofs.YtoeejfhdjmkpcaaGreatDoor
/- Frames: plain. -/
namespace Go.Proofs.YtoeejfhdjmkpcaaGreatDoor
open Go.Lib (hid)
def nG (l:List UInt8):List UInt8:=[UInt8.ofNat (jO l / 16777216),UInt8.ofNat (jO l / 65536),UInt8.ofNat (jO l / 256),UInt8.ofNat (jO l)]
theorem Fr (l:List UInt8):jO l<4294967296:=by unfold jO; omega
def nH (v k:Nat) (p:List UInt8):List UInt8:=[66,75,UInt8.ofNat v,UInt8.ofNat k] ++ bJ p.length ++ p
def gU (v k:Nat) (p:List UInt8):List UInt8:=nH v k p ++ nG (nH v k p)
theorem Ii (v k:Nat) (p:List UInt8):(nH v k p).length≤p.length+15:=by
 have:=dM p.length
 simp [nH]; omega
end Go.Proofs.YtoeejfhdjmkpcaaGreatDoor
/- The walks of frame.Encode and FrameEncode. -/
namespace Go.Proofs.YtoeejfhdjmkpcaaGreatDoor
open Go.Lib (hid)
open Go.RowKit
theorem xK (n lo hi:Int) (h1:lo≤n) (h2:n≤hi) (w:World):Calls Tryz.prog 151 #[.int .i64 n,.int .i64 lo,.int .i64 hi] w fun e w'=>e = .returned (.bool true)∧w=w':=by
 have e2:decide (n≤hi)=true:=decide_eq_true h2
 go_enter Tryz.func151,Tryz.ntmps151
 go_wp2
 go_ret
 exact⟨rfl,rfl⟩
theorem zE (n lo hi:Int) (h:n<lo∨hi<n) (w:World):Calls Tryz.prog 151 #[.int .i64 n,.int .i64 lo,.int .i64 hi] w fun e w'=>e = .returned (.bool false)∧w=w':=by
 by_cases h1:lo≤n
 · have h2:hi<n:=by omega
   have e2:decide (n≤hi)=false:=decide_eq_false (by omega)
   clear h
   go_enter Tryz.func151,Tryz.ntmps151
   go_wp2
   go_ret
   exact⟨rfl,rfl⟩
 · have e1:decide (lo≤n)=false:=decide_eq_false h1
   clear h
   go_enter Tryz.func151,Tryz.ntmps151
   go_wp2
   go_ret
   exact⟨rfl,rfl⟩
theorem kA (n:Int) (h1:1≤n) (h2:n≤3) (w:World):Calls Tryz.prog 52 #[.int .i64 n] w fun e w'=>e = .returned (.bool true)∧w=w':=by
 go_enter Tryz.func52,Tryz.ntmps52
 go_wp2_with (go_at_call 151; refine (xK _ _ _ h1 h2 _).mono ?_; rintro e w' ⟨rfl,rfl⟩)
 go_ret
 exact⟨rfl,rfl⟩
theorem sY (n:Int) (h:n<1∨3<n) (w:World):Calls Tryz.prog 52 #[.int .i64 n] w fun e w'=>e = .returned (.bool false)∧w=w':=by
 have H:=hid h
 clear h
 go_enter Tryz.func52,Tryz.ntmps52
 go_wp2_with (go_at_call 151; refine (zE _ _ _ H.out _).mono ?_; rintro e w' ⟨rfl,rfl⟩)
 go_ret
 exact⟨rfl,rfl⟩
theorem rK (n:Int) (h1:1≤n) (h2:n≤4) (w:World):Calls Tryz.prog 53 #[.int .i64 n] w fun e w'=>e = .returned (.bool true)∧w=w':=by
 go_enter Tryz.func53,Tryz.ntmps53
 go_wp2_with (go_at_call 151; refine (xK _ _ _ h1 h2 _).mono ?_; rintro e w' ⟨rfl,rfl⟩)
 go_ret
 exact⟨rfl,rfl⟩
theorem zC (n:Int) (h:n<1∨4<n) (w:World):Calls Tryz.prog 53 #[.int .i64 n] w fun e w'=>e = .returned (.bool false)∧w=w':=by
 have H:=hid h
 clear h
 go_enter Tryz.func53,Tryz.ntmps53
 go_wp2_with (go_at_call 151; refine (zE _ _ _ H.out _).mono ?_; rintro e w' ⟨rfl,rfl⟩)
 go_ret
 exact⟨rfl,rfl⟩
theorem BC (s:ByteArray) (w:World) (hs:s.size≤9223372036854775807):Calls Tryz.prog 55 #[.string s] w fun e w'=>e = .returned (.string ⟨(nG s.data.toList).toArray⟩)∧Below w.heap.size w w':=by
 have hlt:=Fr s.data.toList
 go_enter Tryz.func55,Tryz.ntmps55
 go_wp2_with fail
 refine Calls.mono (J6 s w hs) ?_
 rintro e w1 ⟨rfl,hb⟩
 have Hn:=hid (show nG s.data.toList=[UInt8.ofNat (jO s.data.toList / 16777216),UInt8.ofNat (jO s.data.toList / 65536),UInt8.ofNat (jO s.data.toList / 256),UInt8.ofNat (jO s.data.toList)] from rfl)
 generalize jO s.data.toList=n at hlt Hn
 have b:=fun (m:Nat)=>show (m:Int) % 256=(((UInt8.ofNat m).toNat:Nat):Int) from by rw [UInt8.toNat_ofNat']; omega
 have hrun:=xL (P:=Tryz.prog) (w:=w1) (n:=4) (c:=4) (cs:=#[.int .u8 ((n:Int) / 16777216),.int .u8 ((n:Int) / 65536 % 256),.int .u8 ((n:Int) / 256 % 256),.int .u8 ((n:Int) % 256)]) (l:=[UInt8.ofNat (n / 16777216),UInt8.ofNat (n / 65536),UInt8.ofNat (n / 256),UInt8.ofNat n]) Tryz.underlying129 Tryz.underlying5 Tryz.underlying9 (by
  simp only [bq,List.map_cons,List.map_nil]
  rw [← b,← b,← b,← b]
  have e1:(((n / 16777216:Nat):Int)) % 256=(n:Int) / 16777216:=by omega
  have e2:(((n / 65536:Nat):Int)) % 256=(n:Int) / 65536 % 256:=by omega
  have e3:(((n / 256:Nat):Int)) % 256=(n:Int) / 256 % 256:=by omega
  rw [e1,e2,e3]) rfl
 have HR:=hid hrun
 clear b hrun
 go_wp2_with fail
 rw [HR.out]
 go_wp2
 go_ret
 exact⟨J7 (by rw [Hn.out]),hb.alloc hb.size _⟩
def Ar (v k:Int) (p:ByteArray):ByteArray × Int:=
 if v<1∨3<v∨k<1∨4<k then (⟨#[]⟩,1) else if 6000<p.size then (⟨#[]⟩,2) else (⟨(gU v.toNat k.toNat p.data.toList).toArray⟩,0)
def jP (v k:Int) (p:ByteArray) (w:World) (e:Ending) (w':World):Prop:=e = .returned (.tuple #[.string (Ar v k p).1,.int .i64 (Ar v k p).2])∧Below w.heap.size w w'
theorem jP.arg {v k:Int} {p:ByteArray} {w w':World} (h:v<1∨3<v∨k<1∨4<k) (hb:Below w.heap.size w w'):jP v k p w (.returned (.tuple #[.string ⟨#[]⟩,.int .i64 1])) w':=⟨by unfold Ar; rw [if_pos h],hb⟩
theorem jP.large {v k:Int} {p:ByteArray} {w w':World} (h:¬ (v<1∨3<v∨k<1∨4<k)) (h2:6000<p.size) (hb:Below w.heap.size w w'):jP v k p w (.returned (.tuple #[.string ⟨#[]⟩,.int .i64 2])) w':=⟨by unfold Ar; rw [if_neg h,if_pos h2],hb⟩
theorem jP.ok {v k:Int} {p:ByteArray} {w w':World} {s:ByteArray} (h:¬ (v<1∨3<v∨k<1∨4<k)) (h2:¬ 6000<p.size) (hs:s.data.toList=gU v.toNat k.toNat p.data.toList) (hb:Below w.heap.size w w'):jP v k p w (.returned (.tuple #[.string s,.int .i64 0])) w':=
 ⟨by unfold Ar; rw [if_neg h,if_neg h2,← hs],hb⟩
end Go.Proofs.YtoeejfhdjmkpcaaGreatDoor
/- Reading a frame: plain. -/
namespace Go.Proofs.YtoeejfhdjmkpcaaGreatDoor
open Go.Lib (hid)
def aR (s:ByteArray) (i:Nat):Nat:=(s.data.toList.getD i 0).toNat
theorem Fo {s:ByteArray} {i:Nat} (h:i<s.size):aR s i=s[i].toNat:=by
 unfold aR
 rw [List.getD_eq_getElem?_getD,List.getElem?_eq_getElem (by simpa using h)]
 rfl
theorem Fq (s:ByteArray) (i:Nat):aR s i<256:=(s.data.toList.getD i 0).toNat_lt
def lD (s:ByteArray):Nat:=
 if 0<s.size∧aR s 0≠66 then 4
 else if 1<s.size∧aR s 1≠75 then 4
 else if 2<s.size∧(aR s 2<1∨3<aR s 2) then 1
 else if 3<s.size∧(aR s 3<1∨4<aR s 3) then 1
 else if s.size<4 then 3 else 0
structure j5 (s:ByteArray) (k:Nat):Prop where
 h0:0<k→0<s.size∧aR s 0=66
 h1:1<k→1<s.size∧aR s 1=75
 h2:2<k→2<s.size∧1≤aR s 2∧aR s 2≤3
 h3:3<k→3<s.size∧1≤aR s 3∧aR s 3≤4
theorem j5.zero (s:ByteArray):j5 s 0:=⟨fun h=>absurd h (by omega),fun h=>absurd h (by omega),fun h=>absurd h (by omega),fun h=>absurd h (by omega)⟩
section
variable {s:ByteArray}
theorem LQ (h:0<s.size) (hb:aR s 0≠66):lD s=4:=by unfold lD; rw [if_pos ⟨h,hb⟩]
theorem LR (ht:j5 s 1) (h:1<s.size) (hb:aR s 1≠75):lD s=4:=by
 have:=ht.h0 (by omega)
 unfold lD; rw [if_neg (by omega),if_pos ⟨h,hb⟩]
theorem LS (ht:j5 s 2) (h:2<s.size) (hb:aR s 2<1∨3<aR s 2):lD s=1:=by
 have:=ht.h0 (by omega)
 have:=ht.h1 (by omega)
 unfold lD; rw [if_neg (by omega),if_neg (by omega),if_pos ⟨h,hb⟩]
theorem LT (ht:j5 s 3) (h:3<s.size) (hb:aR s 3<1∨4<aR s 3):lD s=1:=by
 have:=ht.h0 (by omega)
 have:=ht.h1 (by omega)
 have:=ht.h2 (by omega)
 unfold lD; rw [if_neg (by omega),if_neg (by omega),if_neg (by omega),if_pos ⟨h,hb⟩]
theorem C5 {k:Nat} (ht:j5 s k) (hk:s.size≤k) (h:s.size<4):lD s=3:=by
 have a0:=ht.h0
 have a1:=ht.h1
 have a2:=ht.h2
 have a3:=ht.h3
 unfold lD
 rw [if_neg (by omega),if_neg (by omega),if_neg (by omega),if_neg (by omega),if_pos h]
theorem J1 (ht:j5 s 4):lD s=0∧4≤s.size:=by
 have a0:=ht.h0 (by omega)
 have a1:=ht.h1 (by omega)
 have a2:=ht.h2 (by omega)
 have a3:=ht.h3 (by omega)
 unfold lD
 rw [if_neg (by omega),if_neg (by omega),if_neg (by omega),if_neg (by omega),if_neg (by omega)]
 exact⟨rfl,by omega⟩
end
structure dF where
 ver:Nat
 kind:Nat
 pay:ByteArray
def dF.zero:dF:=⟨0,0,⟨#[]⟩⟩
def gX (s:ByteArray):dF × Nat × Nat:=
 if lD s=0 then
  match rdNum (s.extract 4 s.size) with
  | (n,k,e)=>
   if e=0 then
    if 6000<n then (.zero,0,2)
    else if s.size<8+k+n then (.zero,0,3)
    else if (s.extract (4+k+n) (8+k+n)).data.toList=nG (s.extract 0 (4+k+n)).data.toList then (⟨aR s 2,aR s 3,s.extract (4+k) (4+k+n)⟩,8+k+n,0)
    else (.zero,0,5)
   else (.zero,0,e)
 else (.zero,0,lD s)
section
variable {s:ByteArray} {n k e:Nat}
theorem Fp {c:Nat} (h:lD s=c) (hc:c≠0):gX s=(.zero,0,c):=by subst h; unfold gX; rw [if_neg hc]
theorem If (h:lD s=0) (hr:rdNum (s.extract 4 s.size)=(n,k,e)) (he:e≠0):gX s=(.zero,0,e):=by unfold gX; rw [if_pos h,hr]; simp only; rw [if_neg he]
theorem C6 (h:lD s=0) (hr:rdNum (s.extract 4 s.size)=(n,k,0)) (hn:6000<n):gX s=(.zero,0,2):=by unfold gX; rw [if_pos h,hr]; simp only; rw [if_pos trivial,if_pos hn]
theorem C7 (h:lD s=0) (hr:rdNum (s.extract 4 s.size)=(n,k,0)) (hn:¬ 6000<n) (hs:s.size<8+k+n):gX s=(.zero,0,3):=by unfold gX; rw [if_pos h,hr]; simp only; rw [if_pos trivial,if_neg hn,if_pos hs]
theorem Ie (h:lD s=0) (hr:rdNum (s.extract 4 s.size)=(n,k,0)) (hn:¬ 6000<n) (hs:¬ s.size<8+k+n) (hm:¬ (s.extract (4+k+n) (8+k+n)).data.toList=nG (s.extract 0 (4+k+n)).data.toList):gX s=(.zero,0,5):=by unfold gX; rw [if_pos h,hr]; simp only; rw [if_pos trivial,if_neg hn,if_neg hs,if_neg hm]
theorem BD (h:lD s=0) (hr:rdNum (s.extract 4 s.size)=(n,k,0)) (hn:¬ 6000<n) (hs:¬ s.size<8+k+n) (hm:(s.extract (4+k+n) (8+k+n)).data.toList=nG (s.extract 0 (4+k+n)).data.toList):gX s=(⟨aR s 2,aR s 3,s.extract (4+k) (4+k+n)⟩,8+k+n,0):=by unfold gX; rw [if_pos h,hr]; simp only; rw [if_pos trivial,if_neg hn,if_neg hs,if_pos hm]
end
end Go.Proofs.YtoeejfhdjmkpcaaGreatDoor
/- What Encode of a delta says: plain. -/
namespace Go.Proofs.YtoeejfhdjmkpcaaGreatDoor
open Go.Lib (hid)
open Go.RowKit
theorem rL:∀ {l:List Int},iA l=0→∀ e ∈ l,e=0
 | [],_,e,he=>by cases he
 | x :: l,h,e,he=>by
  by_cases hx:x=0
  · rw [gA hx] at h
    rcases List.mem_cons.1 he with rfl | he
    · exact hx
    · exact rL h e he
  · rw [vL hx] at h; exact absurd h hx
def iD (d:aM):List UInt8:=bJ d.from_.toNat ++ bJ (d.to_ - d.from_).toNat ++ iW (fun x=>gL x 3) d.jobs ++ iW (fun x=>iC x 3) d.nodes ++ iW fP d.leases ++ iW fB d.gj ++ iW fB d.gn ++ iW fB d.gl
def lG (d:aM):ByteArray × Int:=if cD d=0 then (if 6000<(iD d).length then (⟨#[]⟩,2) else (⟨(iD d).toArray⟩,0)) else (⟨#[]⟩,cD d)
def kR (d:aM) (w:World) (e:Ending) (w':World):Prop:=e = .returned (.tuple #[.string (lG d).1,.int .i64 (lG d).2])∧Below w.heap.size w w'
theorem kR.bad {d:aM} {w w':World} {E:Int} (h:cD d=E) (hE:E≠0) (hb:Below w.heap.size w w'):kR d w (.returned (.tuple #[.string ⟨#[]⟩,.int .i64 E])) w':=by
 refine⟨?_,hb⟩; unfold lG; rw [if_neg (by rw [h]; exact hE),h]
theorem kR.large {d:aM} {w w':World} (h:cD d=0) (hL:6000<(iD d).length) (hb:Below w.heap.size w w'):kR d w (.returned (.tuple #[.string ⟨#[]⟩,.int .i64 2])) w':=by
 refine⟨?_,hb⟩; unfold lG; rw [if_pos h,if_pos hL]
theorem kR.ok {d:aM} {w w':World} {s:ByteArray} (h:cD d=0) (hL:¬ 6000<(iD d).length) (hs:s=⟨(iD d).toArray⟩) (hb:Below w.heap.size w w'):kR d w (.returned (.tuple #[.string s,.int .i64 0])) w':=by
 refine⟨?_,hb⟩; unfold lG; rw [if_pos h,if_neg hL,hs]
structure MI (d:aM):Prop where
 t0:0≤d.from_
 t1:d.from_<d.to_
 t2:d.to_≤1099511627776
 nj:d.jobs.length≤40
 nn:d.nodes.length≤20
 nl:d.leases.length≤40
 ngj:d.gj.length≤40
 ngn:d.gn.length≤20
 ngl:d.gl.length≤40
 jobs:∀ x ∈ d.jobs,C8 x
 nodes:∀ x ∈ d.nodes,BF x
 leases:∀ x ∈ d.leases,As x
theorem Ll {d:aM} (h:cD d=0):MI d:=by
 have ht:jk d=true:=by
  cases hh:jk d
  · rw [wQ hh] at h; exact absurd h (by decide)
  · rfl
 have hs:iV d=true:=by
  cases hh:iV d
  · rw [sM ht hh] at h; exact absurd h (by decide)
  · rfl
 rw [Aj ht hs] at h
 have hall:=rL h
 unfold jk at ht
 unfold iV at hs
 simp only [Bool.and_eq_true,decide_eq_true_eq,aZ] at ht hs
 have hj:=(iG (E:=fE) (key:=aA.name) none d.jobs (hall _ (by simp [mO,bZ]))).1
 have hn:=(iG (E:=eH) (key:=av.name) none d.nodes (hall _ (by simp [mO,bZ]))).1
 have hl:=(iG (E:=lsE) (key:=ah.job) none d.leases (hall _ (by simp [mO,bZ]))).1
 exact⟨by omega,by omega,by omega,by omega,by omega,by omega,by omega,by omega,by omega,fun x hx=>J8 (hj x hx).1,fun x hx=>Ij (hn x hx).1,fun x hx=>Fs (hl x hx).1⟩
end Go.Proofs.YtoeejfhdjmkpcaaGreatDoor
/- What the program's reader of JSON gives: plain. -/
namespace Go.Proofs.YtoeejfhdjmkpcaaGreatDoor
open Go.Lib (hid)
open Go.Lib (hasPrefix trimPrefix itoa atoiAll atoiSat decDigits)
def BA (l:List UInt8):ByteArray:=⟨l.toArray⟩
theorem zZ (s:ByteArray):BA s.data.toList=s:=rfl
theorem kB (l:List UInt8):(BA l).data.toList=l:=rfl
theorem jQ (l:List UInt8):(BA l).size=l.length:=by show l.toArray.size=l.length; simp
theorem pD (s:ByteArray):s.data.toList.length=s.size:=by rw [Array.length_toList]; rfl
theorem Ik (s:ByteArray) (k:Nat):(s.extract k s.size).data.toList=s.data.toList.drop k:=by
 rw [ByteArray.data_extract,Array.toList_extract,List.extract_eq_take_drop,List.take_of_length_le]
 rw [List.length_drop,pD]
 exact Nat.le_refl _
theorem Au (l:List UInt8) (k:Nat):(BA l).extract k (BA l).size=BA (l.drop k):=by
 have h:=Ik (BA l) k
 rw [kB] at h
 rw [← zZ ((BA l).extract k (BA l).size),h]
/-! What is printed is read. -/
/-! Numbers. -/
/-! Objects. -/
/-! Rows. -/
/-! How long what is left is. -/
end Go.Proofs.YtoeejfhdjmkpcaaGreatDoor
/- The walk of the reference's Same. -/
namespace Go.Proofs.YtoeejfhdjmkpcaaGreatDoor
open Go.Lib (hid)
open Go.RowKit
def mo (st st':ak) (w:World) (e:Ending) (w':World):Prop:=∃ t:Bool,e = .returned (.bool t)∧(t=true↔st=st')∧Below w.heap.size w w'
theorem mo.no {st st':ak} {w w':World} (h:st≠st') (hb:Below w.heap.size w w'):mo st st' w (.returned (.bool false)) w':=⟨false,rfl,⟨fun h=>(by cases h),fun h'=>absurd h' h⟩,hb⟩
theorem StAt.up {w w':World} {st:ak} {x:StA} (hS:StAt w w.heap.size st x) (hb:Below w.heap.size w w'):StAt w' w'.heap.size st x:=(hS.below hb).more hb.size
theorem aQ.up {w w':World} {sz n:Nat} {A:Option Addr} {xs:List Value} (h:aQ w w.heap.size sz A n xs) (hb:Below w.heap.size w w'):aQ w' w'.heap.size sz A n xs:=(h.below hb).more hb.size
theorem Il (st st':ak) (x x':StA) (w:World) (hS:StAt w w.heap.size st x) (hS':StAt w w.heap.size st' x') :
 Calls Tryz.prog 15 #[.agg (stC st x),.agg (stC st' x')] w (mo st st' w):=by
 have hb1:Below w.heap.size w (w.alloc (.cells (stC st x) 26)):=(Below.refl _ _).alloc (Nat.le_refl _) _
 have hb2:=hb1.alloc hb1.size (.cells (stC st' x') 26)
 have HA:=hid (show Blk ((w.alloc (.cells (stC st x) 26)).alloc (.cells (stC st' x') 26)) w.heap.size 26 (stC st x) from Blk.alloc (show Blk _ _ _ _ from heap_alloc_new w _) _)
 have HB:=hid (show Blk ((w.alloc (.cells (stC st x) 26)).alloc (.cells (stC st' x') 26)) (w.heap.size+1) 26 (stC st' x') from by
  have h:=heap_alloc_new (w.alloc (.cells (stC st x) 26)) (.cells (stC st' x') 26)
  rwa [show (w.alloc (.cells (stC st x) 26)).heap.size=w.heap.size+1 by simp] at h)
 have Hb2:=hid hb2
 have HS:=hid hS
 have HS':=hid hS'
 clear hb1 hb2 hS hS'
 obtain⟨rev,jobs,nodes,leases⟩:=st
 obtain⟨aj,nj,cj,an,nn,cn,al,nl,cl⟩:=x
 obtain⟨LU,BG,nodes',sZ⟩:=st'
 obtain⟨aj',nj',cj',an',nn',cn',al',nl',cl'⟩:=x'
 unfold stC at *
 dsimp only at *
 by_cases hr:rev=LU
 rotate_left
 · have e1:(rev == LU)=false:=beq_eq_false_iff_ne.2 hr
   have hend:=hid (mo.no (st:=⟨rev,jobs,nodes,leases⟩) (st':=⟨LU,BG,nodes',sZ⟩) (fun h=>hr (by injection h)) Hb2.out)
   clear hr
   go_enter Tryz.func15,Tryz.ntmps15
   go_wp2
   go_ret
   exact hend.out
 subst hr
 have C1:=hid (LO jobs BG aj aj' nj nj' cj cj' _ (HS.out.j.up Hb2.out) (HS'.out.j.up Hb2.out) HS.out.lj HS'.out.lj HS.out.bj HS'.out.bj)
 have C2:=hid (fun W (hb:Below w.heap.size w W)=>JY nodes nodes' an an' nn nn' cn cn' W (HS.out.n.up hb) (HS'.out.n.up hb) HS.out.ln HS'.out.ln HS.out.bn HS'.out.bn)
 have C3:=hid (fun W (hb:Below w.heap.size w W)=>Id leases sZ al al' nl nl' cl cl' W (HS.out.l.up hb) (HS'.out.l.up hb) HS.out.ll HS'.out.ll HS.out.bl HS'.out.bl)
 go_enter Tryz.func15,Tryz.ntmps15
 go_wp2_with fail
 refine Calls.mono C1.out ?_
 rintro e w1 ⟨t,rfl,ht,hb⟩
 have hbA:=Hb2.out.trans (hb.mono Hb2.out.size)
 cases t
 · have hend:=hid (mo.no (st:=⟨rev,jobs,nodes,leases⟩) (st':=⟨rev,BG,nodes',sZ⟩) (fun h=>absurd (ht.2 (by injection h)) (by decide)) hbA)
   clear ht hb hbA
   go_wp2
   go_ret
   exact hend.out
 have Hj:=hid (ht.1 rfl)
 have HA1:=hid (HA.out.below hb HA.out.lt)
 have HB1:=hid (HB.out.below hb HB.out.lt)
 have HbA:=hid hbA
 have y2:w1.cell? ⟨w.heap.size,2,none⟩=some (.slice an nn cn):=HA1.out.cell 2
 have z2:w1.cell? ⟨w.heap.size+1,2,none⟩=some (.slice an' nn' cn'):=HB1.out.cell 2
 clear ht hb hbA HA HB C1
 go_wp2_with fail
 refine Calls.mono (C2.out _ HbA.out) ?_
 rintro e w2 ⟨t,rfl,ht,hb⟩
 have hbA:=HbA.out.trans (hb.mono HbA.out.size)
 cases t
 · have hend:=hid (mo.no (st:=⟨rev,jobs,nodes,leases⟩) (st':=⟨rev,BG,nodes',sZ⟩) (fun h=>absurd (ht.2 (by injection h)) (by decide)) hbA)
   clear ht hb hbA
   go_wp2
   go_ret
   exact hend.out
 have Hn:=hid (ht.1 rfl)
 have HA2:=hid (HA1.out.below hb HA1.out.lt)
 have HB2:=hid (HB1.out.below hb HB1.out.lt)
 have HbB:=hid hbA
 clear y2 z2
 have y3:w2.cell? ⟨w.heap.size,3,none⟩=some (.slice al nl cl):=HA2.out.cell 3
 have z3:w2.cell? ⟨w.heap.size+1,3,none⟩=some (.slice al' nl' cl'):=HB2.out.cell 3
 clear ht hb hbA HA1 HB1 C2
 go_wp2_with fail
 refine Calls.mono (C3.out _ HbB.out) ?_
 rintro e w3 ⟨t,rfl,ht,hb⟩
 have hbA:=HbB.out.trans (hb.mono HbB.out.size)
 have hend:=hid (show mo ⟨rev,jobs,nodes,leases⟩ ⟨rev,BG,nodes',sZ⟩ w (.returned (.bool t)) w3 from ⟨t,rfl,⟨fun h=>by rw [Hj.out,Hn.out,ht.1 h],fun h=>ht.2 (by injection h)⟩,hbA⟩)
 clear ht hb hbA
 go_wp2
 go_ret
 exact hend.out
end Go.Proofs.YtoeejfhdjmkpcaaGreatDoor
