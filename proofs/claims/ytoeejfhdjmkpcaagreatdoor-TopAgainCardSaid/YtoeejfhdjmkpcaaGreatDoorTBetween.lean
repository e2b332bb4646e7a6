/- Of the proof of a statement: Between, RBetween, SrvAt, PlFrBack, CkSz, PlWorks. -/
import Derived.Test.YtoeejfhdjmkpcaaGreatDoorTDiffer
import Derived.Test.YtoeejfhdjmkpcaaGreatDoorTFrmEncP
set_option linter.unusedVariables false
set_option linter.unusedSimpArgs false
set_option maxRecDepth 100000
set_option maxHeartbeats 8000000
/- The walks of delta.Between and delta.Diff. -/
namespace Go.Proofs.YtoeejfhdjmkpcaaGreatDoor
open Go.Lib (hid)
open Go.RowKit
def Dk (a b:ah) (w:World) (e:Ending) (w':World):Prop:=
 ∃ x:fH,e = .returned (.agg (dC (eQ a b) x))∧pK w' w.heap.size (eQ a b) x∧Below w.heap.size w w'
structure oB (w0 w:World) (ca cb cd:Array Value):Prop where
 below:Below w0.heap.size w0 w
 a:Blk w w0.heap.size 26 ca
 b:Blk w (w0.heap.size+1) 26 cb
 r:Blk w (w0.heap.size+2) 45 eS
 d:Blk w (w0.heap.size+3) 45 cd
theorem oB.kept {w0 w w':World} {ca cb cd:Array Value} (h:oB w0 w ca cb cd) (hb:Below w.heap.size w w'):oB w0 w' ca cb cd:=
 ⟨h.below.trans (hb.mono h.below.size),h.a.below hb h.a.lt,h.b.below hb h.b.lt,h.r.below hb h.r.lt,h.d.below hb h.d.lt⟩
theorem oB.set {w0 w:World} {ca cb cd cd':Array Value} {i:Nat} {u:Value} (h:oB w0 w ca cb cd) (hc:cd.setIfInBounds i u=cd'):oB w0 (w.setCell ⟨w0.heap.size+3,i,none⟩ u) ca cb cd':=
 ⟨dz h.below (bH w _ i u) (by omega),aF (bH w _ i u) h.a (by omega),aF (bH w _ i u) h.b (by omega),aF (bH w _ i u) h.r (by omega),Blk.eq (h.d.set i u) hc⟩
theorem Dl (w:World) (ca cb cc cd:Array Value) {ta tb tc td:TypeId}:Blk ((((w.alloc (.cells ca ta)).alloc (.cells cb tb)).alloc (.cells cc tc)).alloc (.cells cd td)) w.heap.size ta ca∧Blk ((((w.alloc (.cells ca ta)).alloc (.cells cb tb)).alloc (.cells cc tc)).alloc (.cells cd td)) (w.heap.size+1) tb cb ∧
 Blk ((((w.alloc (.cells ca ta)).alloc (.cells cb tb)).alloc (.cells cc tc)).alloc (.cells cd td)) (w.heap.size+2) tc cc∧Blk ((((w.alloc (.cells ca ta)).alloc (.cells cb tb)).alloc (.cells cc tc)).alloc (.cells cd td)) (w.heap.size+3) td cd∧Below w.heap.size w ((((w.alloc (.cells ca ta)).alloc (.cells cb tb)).alloc (.cells cc tc)).alloc (.cells cd td)):=by
 have h1:Blk (w.alloc (.cells ca ta)) w.heap.size ta ca:=heap_alloc_new w _
 have h2:=heap_alloc_new (w.alloc (.cells ca ta)) (.cells cb tb)
 rw [show (w.alloc (.cells ca ta)).heap.size=w.heap.size+1 by simp] at h2
 have h3:=heap_alloc_new ((w.alloc (.cells ca ta)).alloc (.cells cb tb)) (.cells cc tc)
 rw [show ((w.alloc (.cells ca ta)).alloc (.cells cb tb)).heap.size=w.heap.size+2 by simp] at h3
 have h4:=heap_alloc_new (((w.alloc (.cells ca ta)).alloc (.cells cb tb)).alloc (.cells cc tc)) (.cells cd td)
 rw [show (((w.alloc (.cells ca ta)).alloc (.cells cb tb)).alloc (.cells cc tc)).heap.size=w.heap.size+3 by simp] at h4
 exact⟨((h1.alloc _).alloc _).alloc _,((show Blk _ _ _ _ from h2).alloc _).alloc _,(show Blk _ _ _ _ from h3).alloc _,h4,((((Below.refl _ _).alloc (Nat.le_refl _) _).alloc (by simp) _).alloc (by simp; omega) _).alloc (by simp; omega) _⟩
theorem bA {w:World} {base sz n D i:Nat} {e:TypeId} {v u:Value} {xs:List Value} (ho:w.ownsRow base e sz v n xs) (hD:D<base):(w.setCell ⟨D,i,none⟩ u).ownsRow base e sz v n xs:=bT ho (bH w D i u) hD
theorem xX (a b:ah) (x y:StA) (w:World) (hA:StAt w w.heap.size a x) (hB:StAt w w.heap.size b y) (h1:x.nj≤1000) (h2:x.nn≤1000) (h3:x.nl≤1000) (h4:y.nj≤1000) (h5:y.nn≤1000) (h6:y.nl≤1000) :
 Calls Tryz.prog 47 #[.agg (stC a x),.agg (stC b y)] w (Dk a b w):=by
 obtain⟨ra,ja,na,la⟩:=a
 obtain⟨aj,nj,cj,an,nn,cn,al,nl,cl⟩:=x
 obtain⟨rb,jb,nb,lb⟩:=b
 obtain⟨bj,mj,dj,bn,mn,dn,bl,ml,dl⟩:=y
 unfold stC
 dsimp only at *
 obtain⟨q1,q2,q3,q4,q5⟩:=Dl w #[.int .i64 ra,.slice aj nj cj,.slice an nn cn,.slice al nl cl] #[.int .i64 rb,.slice bj mj dj,.slice bn mn dn,.slice bl ml dl] eS #[.int .i64 ra,.int .i64 rb,.slice none 0 0,.slice none 0 0,.slice none 0 0,.slice none 0 0,.slice none 0 0,.slice none 0 0] (ta:=26) (tb:=26) (tc:=45) (td:=45)
 have H0:=hid (show oB w ((((w.alloc (.cells #[.int .i64 ra,.slice aj nj cj,.slice an nn cn,.slice al nl cl] 26)).alloc (.cells #[.int .i64 rb,.slice bj mj dj,.slice bn mn dn,.slice bl ml dl] 26)).alloc (.cells eS 45)).alloc (.cells #[.int .i64 ra,.int .i64 rb,.slice none 0 0,.slice none 0 0,.slice none 0 0,.slice none 0 0,.slice none 0 0,.slice none 0 0] 45)) _ _ _ from ⟨q5,q1,q2,q3,q4⟩)
 have HA:=hid hA
 have HB:=hid hB
 clear q1 q2 q3 q4 q5 hA hB
 go_enter Tryz.func47,Tryz.ntmps47
 have HC:=hid (zV ja jb aj bj nj cj mj dj ((((w.alloc (.cells #[.int .i64 ra,.slice aj nj cj,.slice an nn cn,.slice al nl cl] 26)).alloc (.cells #[.int .i64 rb,.slice bj mj dj,.slice bn mn dn,.slice bl ml dl] 26)).alloc (.cells eS 45)).alloc (.cells #[.int .i64 ra,.int .i64 rb,.slice none 0 0,.slice none 0 0,.slice none 0 0,.slice none 0 0,.slice none 0 0,.slice none 0 0] 45)) (HA.out.j.below H0.out.below |>.more H0.out.below.size) HA.out.lj h1 (HB.out.j.below H0.out.below |>.more H0.out.below.size) HB.out.lj h4)
 go_wp2_with fail
 refine Calls.mono HC.out ?_
 rintro e w1 ⟨S0,s0,G0,g0,rfl,hs,hg,hb⟩
 have hk:=H0.out.kept hb
 have HO0:=hid (bS hs (show w.heap.size+3+1≤_ from by have:=H0.out.d.lt; omega))
 have HG0:=hid (bS hg (show w.heap.size+3+1≤_ from by have:=H0.out.d.lt; omega))
 have hd:=hk.d
 have hdl:=hd.lt
 have e1:w1.cell? ⟨w.heap.size+3,2,none⟩=some (.slice none 0 0):=hd.cell 2
 have e2:w1.cell? ⟨w.heap.size+3,5,none⟩=some (.slice none 0 0):=hd.cell 5
 have t1:w1.frozen? ⟨w.heap.size+3,2,none⟩=false:=hd.thaw 2
 have t2:w1.frozen? ⟨w.heap.size+3,5,none⟩=false:=hd.thaw 5
 have hk1:=oB.set hk (i:=2) (u:=.slice S0 (newL ja jb).length s0) (show _=#[.int .i64 ra,.int .i64 rb,.slice S0 (newL ja jb).length s0,.slice none 0 0,.slice none 0 0,.slice none 0 0,.slice none 0 0,.slice none 0 0] from rfl)
 have hk2:=oB.set hk1 (i:=5) (u:=.slice G0 (bU aD.name ja jb).length g0) (show _=#[.int .i64 ra,.int .i64 rb,.slice S0 (newL ja jb).length s0,.slice none 0 0,.slice none 0 0,.slice G0 (bU aD.name ja jb).length g0,.slice none 0 0,.slice none 0 0] from rfl)
 have HK1:=hid hk2
 have HO0:=hid (show ((w1.setCell ⟨w.heap.size+3,2,none⟩ (.slice S0 (newL ja jb).length s0)).setCell ⟨w.heap.size+3,5,none⟩ (.slice G0 (bU aD.name ja jb).length g0)).ownsRow (w.heap.size+3+1) _ _ _ _ _ from bA (bA HO0.out (Nat.lt_succ_self _)) (Nat.lt_succ_self _))
 have HG0:=hid (show ((w1.setCell ⟨w.heap.size+3,2,none⟩ (.slice S0 (newL ja jb).length s0)).setCell ⟨w.heap.size+3,5,none⟩ (.slice G0 (bU aD.name ja jb).length g0)).ownsRow (w.heap.size+3+1) _ _ _ _ _ from bA (bA HG0.out (Nat.lt_succ_self _)) (Nat.lt_succ_self _))
 clear hs hg hb hk hk1 hk2 hd HC
 have HC:=hid (xY na nb an bn nn cn mn dn ((w1.setCell ⟨w.heap.size+3,2,none⟩ (.slice S0 (newL ja jb).length s0)).setCell ⟨w.heap.size+3,5,none⟩ (.slice G0 (bU aD.name ja jb).length g0)) (HA.out.n.below HK1.out.below |>.more HK1.out.below.size) HA.out.ln h2 (HB.out.n.below HK1.out.below |>.more HK1.out.below.size) HB.out.ln h5)
 have y2:((w1.setCell ⟨w.heap.size+3,2,none⟩ (.slice S0 (newL ja jb).length s0)).setCell ⟨w.heap.size+3,5,none⟩ (.slice G0 (bU aD.name ja jb).length g0)).cell? ⟨w.heap.size,2,none⟩=some (.slice an nn cn):=HK1.out.a.cell 2
 have z2:((w1.setCell ⟨w.heap.size+3,2,none⟩ (.slice S0 (newL ja jb).length s0)).setCell ⟨w.heap.size+3,5,none⟩ (.slice G0 (bU aD.name ja jb).length g0)).cell? ⟨w.heap.size+1,2,none⟩=some (.slice bn mn dn):=HK1.out.b.cell 2
 go_wp2_with fail
 refine Calls.mono HC.out ?_
 rintro e w2 ⟨S1,s1,G1,g1,rfl,hs,hg,hb⟩
 have hk:=HK1.out.kept hb
 have HO1:=hid (bS hs (show w.heap.size+3+1≤_ from by have:=HK1.out.d.lt; omega))
 have HG1:=hid (bS hg (show w.heap.size+3+1≤_ from by have:=HK1.out.d.lt; omega))
 have HO0:=hid (ay HO0.out hb)
 have HG0:=hid (ay HG0.out hb)
 have hd:=hk.d
 have hdl:=hd.lt
 have e1:w2.cell? ⟨w.heap.size+3,3,none⟩=some (.slice none 0 0):=hd.cell 3
 have e2:w2.cell? ⟨w.heap.size+3,6,none⟩=some (.slice none 0 0):=hd.cell 6
 have t1:w2.frozen? ⟨w.heap.size+3,3,none⟩=false:=hd.thaw 3
 have t2:w2.frozen? ⟨w.heap.size+3,6,none⟩=false:=hd.thaw 6
 have hk1:=oB.set hk (i:=3) (u:=.slice S1 (newL na nb).length s1) (show _=#[.int .i64 ra,.int .i64 rb,.slice S0 (newL ja jb).length s0,.slice S1 (newL na nb).length s1,.slice none 0 0,.slice G0 (bU aD.name ja jb).length g0,.slice none 0 0,.slice none 0 0] from rfl)
 have hk2:=oB.set hk1 (i:=6) (u:=.slice G1 (bU aA.name na nb).length g1) (show _=#[.int .i64 ra,.int .i64 rb,.slice S0 (newL ja jb).length s0,.slice S1 (newL na nb).length s1,.slice none 0 0,.slice G0 (bU aD.name ja jb).length g0,.slice G1 (bU aA.name na nb).length g1,.slice none 0 0] from rfl)
 have HK2:=hid hk2
 have HO0:=hid (show ((w2.setCell ⟨w.heap.size+3,3,none⟩ (.slice S1 (newL na nb).length s1)).setCell ⟨w.heap.size+3,6,none⟩ (.slice G1 (bU aA.name na nb).length g1)).ownsRow (w.heap.size+3+1) _ _ _ _ _ from bA (bA HO0.out (Nat.lt_succ_self _)) (Nat.lt_succ_self _))
 have HG0:=hid (show ((w2.setCell ⟨w.heap.size+3,3,none⟩ (.slice S1 (newL na nb).length s1)).setCell ⟨w.heap.size+3,6,none⟩ (.slice G1 (bU aA.name na nb).length g1)).ownsRow (w.heap.size+3+1) _ _ _ _ _ from bA (bA HG0.out (Nat.lt_succ_self _)) (Nat.lt_succ_self _))
 have HO1:=hid (show ((w2.setCell ⟨w.heap.size+3,3,none⟩ (.slice S1 (newL na nb).length s1)).setCell ⟨w.heap.size+3,6,none⟩ (.slice G1 (bU aA.name na nb).length g1)).ownsRow (w.heap.size+3+1) _ _ _ _ _ from bA (bA HO1.out (Nat.lt_succ_self _)) (Nat.lt_succ_self _))
 have HG1:=hid (show ((w2.setCell ⟨w.heap.size+3,3,none⟩ (.slice S1 (newL na nb).length s1)).setCell ⟨w.heap.size+3,6,none⟩ (.slice G1 (bU aA.name na nb).length g1)).ownsRow (w.heap.size+3+1) _ _ _ _ _ from bA (bA HG1.out (Nat.lt_succ_self _)) (Nat.lt_succ_self _))
 clear hs hg hb hk hk1 hk2 hd HC y2 z2
 have HC:=hid (wJ la lb al bl nl cl ml dl ((w2.setCell ⟨w.heap.size+3,3,none⟩ (.slice S1 (newL na nb).length s1)).setCell ⟨w.heap.size+3,6,none⟩ (.slice G1 (bU aA.name na nb).length g1)) (HA.out.l.below HK2.out.below |>.more HK2.out.below.size) HA.out.ll h3 (HB.out.l.below HK2.out.below |>.more HK2.out.below.size) HB.out.ll h6)
 have y3:((w2.setCell ⟨w.heap.size+3,3,none⟩ (.slice S1 (newL na nb).length s1)).setCell ⟨w.heap.size+3,6,none⟩ (.slice G1 (bU aA.name na nb).length g1)).cell? ⟨w.heap.size,3,none⟩=some (.slice al nl cl):=HK2.out.a.cell 3
 have z3:((w2.setCell ⟨w.heap.size+3,3,none⟩ (.slice S1 (newL na nb).length s1)).setCell ⟨w.heap.size+3,6,none⟩ (.slice G1 (bU aA.name na nb).length g1)).cell? ⟨w.heap.size+1,3,none⟩=some (.slice bl ml dl):=HK2.out.b.cell 3
 go_wp2_with fail
 refine Calls.mono HC.out ?_
 rintro e w3 ⟨S2,s2,G2,g2,rfl,hs,hg,hb⟩
 have hk:=HK2.out.kept hb
 have HO2:=hid (bS hs (show w.heap.size+3+1≤_ from by have:=HK2.out.d.lt; omega))
 have HG2:=hid (bS hg (show w.heap.size+3+1≤_ from by have:=HK2.out.d.lt; omega))
 have HO0:=hid (ay HO0.out hb)
 have HG0:=hid (ay HG0.out hb)
 have HO1:=hid (ay HO1.out hb)
 have HG1:=hid (ay HG1.out hb)
 have hd:=hk.d
 have hdl:=hd.lt
 have e1:w3.cell? ⟨w.heap.size+3,4,none⟩=some (.slice none 0 0):=hd.cell 4
 have e2:w3.cell? ⟨w.heap.size+3,7,none⟩=some (.slice none 0 0):=hd.cell 7
 have t1:w3.frozen? ⟨w.heap.size+3,4,none⟩=false:=hd.thaw 4
 have t2:w3.frozen? ⟨w.heap.size+3,7,none⟩=false:=hd.thaw 7
 have hk1:=oB.set hk (i:=4) (u:=.slice S2 (newL la lb).length s2) (show _=#[.int .i64 ra,.int .i64 rb,.slice S0 (newL ja jb).length s0,.slice S1 (newL na nb).length s1,.slice S2 (newL la lb).length s2,.slice G0 (bU aD.name ja jb).length g0,.slice G1 (bU aA.name na nb).length g1,.slice none 0 0] from rfl)
 have hk2:=oB.set hk1 (i:=7) (u:=.slice G2 (bU ak.job la lb).length g2) (show _=#[.int .i64 ra,.int .i64 rb,.slice S0 (newL ja jb).length s0,.slice S1 (newL na nb).length s1,.slice S2 (newL la lb).length s2,.slice G0 (bU aD.name ja jb).length g0,.slice G1 (bU aA.name na nb).length g1,.slice G2 (bU ak.job la lb).length g2] from rfl)
 have HK3:=hid hk2
 have HO0:=hid (show ((w3.setCell ⟨w.heap.size+3,4,none⟩ (.slice S2 (newL la lb).length s2)).setCell ⟨w.heap.size+3,7,none⟩ (.slice G2 (bU ak.job la lb).length g2)).ownsRow (w.heap.size+3+1) _ _ _ _ _ from bA (bA HO0.out (Nat.lt_succ_self _)) (Nat.lt_succ_self _))
 have HG0:=hid (show ((w3.setCell ⟨w.heap.size+3,4,none⟩ (.slice S2 (newL la lb).length s2)).setCell ⟨w.heap.size+3,7,none⟩ (.slice G2 (bU ak.job la lb).length g2)).ownsRow (w.heap.size+3+1) _ _ _ _ _ from bA (bA HG0.out (Nat.lt_succ_self _)) (Nat.lt_succ_self _))
 have HO1:=hid (show ((w3.setCell ⟨w.heap.size+3,4,none⟩ (.slice S2 (newL la lb).length s2)).setCell ⟨w.heap.size+3,7,none⟩ (.slice G2 (bU ak.job la lb).length g2)).ownsRow (w.heap.size+3+1) _ _ _ _ _ from bA (bA HO1.out (Nat.lt_succ_self _)) (Nat.lt_succ_self _))
 have HG1:=hid (show ((w3.setCell ⟨w.heap.size+3,4,none⟩ (.slice S2 (newL la lb).length s2)).setCell ⟨w.heap.size+3,7,none⟩ (.slice G2 (bU ak.job la lb).length g2)).ownsRow (w.heap.size+3+1) _ _ _ _ _ from bA (bA HG1.out (Nat.lt_succ_self _)) (Nat.lt_succ_self _))
 have HO2:=hid (show ((w3.setCell ⟨w.heap.size+3,4,none⟩ (.slice S2 (newL la lb).length s2)).setCell ⟨w.heap.size+3,7,none⟩ (.slice G2 (bU ak.job la lb).length g2)).ownsRow (w.heap.size+3+1) _ _ _ _ _ from bA (bA HO2.out (Nat.lt_succ_self _)) (Nat.lt_succ_self _))
 have HG2:=hid (show ((w3.setCell ⟨w.heap.size+3,4,none⟩ (.slice S2 (newL la lb).length s2)).setCell ⟨w.heap.size+3,7,none⟩ (.slice G2 (bU ak.job la lb).length g2)).ownsRow (w.heap.size+3+1) _ _ _ _ _ from bA (bA HG2.out (Nat.lt_succ_self _)) (Nat.lt_succ_self _))
 clear hs hg hb hk hk1 hk2 hd HC y3 z3
 have hrr:=HK3.out.r
 have hrl:=hrr.lt
 obtain⟨b0,b1,b2,b3,b4,b5,b6,b7⟩:=Blk.c8 (HK3.out.d)
 obtain⟨ur0,ur1,ur2,ur3,ur4,ur5,ur6,ur7⟩:=Blk.z8 (hrr)
 obtain⟨sr0,sr1,sr2,sr3,sr4,sr5,sr6,sr7⟩:=Blk.c8 (hrr)
 obtain⟨hR4,hG4⟩:=Blk.S8 (hrr) (.int .i64 ra) (.int .i64 rb) (.slice S0 (newL ja jb).length s0) (.slice S1 (newL na nb).length s1) (.slice S2 (newL la lb).length s2) (.slice G0 (bU aD.name ja jb).length g0) (.slice G1 (bU aA.name na nb).length g1) (.slice G2 (bU ak.job la lb).length g2)
 obtain⟨q0,q1,q2,q3,q4,q5,q6,q7⟩:=Blk.c8 hR4
 have aR:=hid (show Dk ⟨ra,ja,na,la⟩ ⟨rb,jb,nb,lb⟩ w (.returned (.agg #[.int .i64 ra,.int .i64 rb,.slice S0 (newL ja jb).length s0,.slice S1 (newL na nb).length s1,.slice S2 (newL la lb).length s2,.slice G0 (bU aD.name ja jb).length g0,.slice G1 (bU aA.name na nb).length g1,.slice G2 (bU ak.job la lb).length g2])) _ from ⟨⟨S0,(newL ja jb).length,s0,S1,(newL na nb).length,s1,S2,(newL la lb).length,s2,G0,(bU aD.name ja jb).length,g0,G1,(bU aA.name na nb).length,g1,G2,(bU ak.job la lb).length,g2⟩,rfl,⟨⟨w.heap.size+3+1,by omega,bT HO0.out hG4 (by omega)⟩,⟨w.heap.size+3+1,by omega,bT HO1.out hG4 (by omega)⟩,⟨w.heap.size+3+1,by omega,bT HO2.out hG4 (by omega)⟩,⟨w.heap.size+3+1,by omega,bT HG0.out hG4 (by omega)⟩,⟨w.heap.size+3+1,by omega,bT HG1.out hG4 (by omega)⟩,⟨w.heap.size+3+1,by omega,bT HG2.out hG4 (by omega)⟩,rfl,rfl,rfl,rfl,rfl,rfl⟩,dz HK3.out.below hG4 (by omega)⟩)
 clear hrr hR4 hG4 HO0 HO1 HO2 HG0 HG1 HG2 HK1 HK2 HK3 HA HB H0
 go_wp2
 refine bodyPost_ret (v:=.agg #[.int .i64 ra,.int .i64 rb,.slice S0 (newL ja jb).length s0,.slice S1 (newL na nb).length s1,.slice S2 (newL la lb).length s2,.slice G0 (bU aD.name ja jb).length g0,.slice G1 (bU aA.name na nb).length g1,.slice G2 (bU ak.job la lb).length g2]) (by simp [results,Tryz.results47,go_sem, *]) rfl ?_
 exact aR.out
end Go.Proofs.YtoeejfhdjmkpcaaGreatDoor
/- The walk of the reference's Between. -/
namespace Go.Proofs.YtoeejfhdjmkpcaaGreatDoor
open Go.Lib (hid)
open Go.RowKit
theorem oB.grew {w0 w w':World} {ca cb cd:Array Value} {v v':Value} (h:oB w0 w ca cb cd) (hg:cu w w' v v') (hv:∀ k,v.ownBlock=some k→w0.heap.size+4≤k):oB w0 w' ca cb cd:=
 have h4:w0.heap.size+4≤w.heap.size:=h.d.lt
 have hb:=hg.below (B:=w0.heap.size+4) h4 hv
 ⟨h.below.trans (hb.mono (by omega)),h.a.below hb (by omega),h.b.below hb (by omega),h.r.below hb (by omega),h.d.below hb (by omega)⟩
end Go.Proofs.YtoeejfhdjmkpcaaGreatDoor
/- A server in memory: its block, the rows of its state; what leaves the rows alone. -/
namespace Go.Proofs.YtoeejfhdjmkpcaaGreatDoor
open Go.Lib (hid)
open Go.RowKit
def iI (cs:Array Value):Prop:=∀ (i:Nat) (s:ByteArray),cs[i]? ≠ some (.string s)
theorem ku {cs:Array Value} (h:∀ v ∈ cs,∀ s,v ≠ .string s):iI cs:=fun _ s e=>h _ (Array.mem_of_getElem? e) s rfl
theorem pL (st:ah) (x:StA):iI (stC st x):=ku (by
 intro v hv s
 simp only [stC,List.mem_toArray,List.mem_cons,List.not_mem_nil,or_false] at hv
 rcases hv with rfl | rfl | rfl | rfl <;> simp)
def sV (st:ah) (x:StA) (now:Int):Array Value:=#[.int .i64 st.rev,.slice x.aj x.nj x.cj,.slice x.an x.nn x.cn,.slice x.al x.nl x.cl,.int .i64 now]
theorem lK (st:ah) (x:StA) (now:Int):iI (sV st x now):=ku (by
 intro v hv s
 simp only [sV,List.mem_toArray,List.mem_cons,List.not_mem_nil,or_false] at hv
 rcases hv with rfl | rfl | rfl | rfl | rfl <;> simp)
theorem iw (n m:Int):iI #[.int .i64 n,.int .i64 m]:=ku (by
 intro v hv s
 simp only [List.mem_toArray,List.mem_cons,List.not_mem_nil,or_false] at hv
 rcases hv with rfl | rfl <;> simp)
section
variable {w w':World} {B sz n g:Nat} {A:Option Addr} {xs:List Value} {t:TypeId} {cs:Array Value}
theorem aW.gG (h:aW w B sz A n xs) (hb:Blk w g t cs) (hc:iI cs) (h0:0<n→∃ s,xs[0]? = some (.string s)) (hg:w.grownBy w' (some g)):aW w' B sz A n xs:=
 ⟨h.len,fun hn=>by
  obtain⟨b,off,e,hB,hr⟩:=h.at_ hn
  obtain⟨s,hs⟩:=h0 hn
  refine⟨b,off,e,hB,fun j u hu=>hg.cell (hr j u hu) ?_⟩
  intro e1
  have e2:b=g:=by simpa using e1
  subst e2
  have h1:=hr 0 _ hs
  rw [Nat.add_zero,hb.cell off] at h1
  exact hc _ _ h1⟩
end
theorem qN {l:List aD} {n:Nat} (h:l.length=n) (hn:0<n):∃ s,(au aL l)[0]? = some (.string s):=by
 match l,h with
 | [],h=>simp at h; omega
 | a :: l,_=>exact⟨a.name,rfl⟩
theorem oK {l:List aA} {n:Nat} (h:l.length=n) (hn:0<n):∃ s,(au aC l)[0]? = some (.string s):=by
 match l,h with
 | [],h=>simp at h; omega
 | a :: l,_=>exact⟨a.name,rfl⟩
theorem mO {l:List ak} {n:Nat} (h:l.length=n) (hn:0<n):∃ s,(au av l)[0]? = some (.string s):=by
 match l,h with
 | [],h=>simp at h; omega
 | a :: l,_=>exact⟨a.job,rfl⟩
theorem StAt.gG {w w':World} {B g:Nat} {t:TypeId} {cs:Array Value} {st:ah} {x:StA} (h:StAt w B st x) (hb:Blk w g t cs) (hc:iI cs) (hg:w.grownBy w' (some g)):StAt w' B st x:=
 ⟨h.j.gG hb hc (qN h.lj) hg,h.n.gG hb hc (oK h.ln) hg,h.l.gG hb hc (mO h.ll) hg,h.lj,h.ln,h.ll,h.bj,h.bn,h.bl,h.oj,h.on_,h.ol⟩
theorem StAt.drew {w:World} {B:Nat} {st:ah} {x:StA} (h:StAt w B st x):StAt w.drew B st x:=
 ⟨h.j.drew,h.n.drew,h.l.drew,h.lj,h.ln,h.ll,h.bj,h.bn,h.bl,h.oj,h.on_,h.ol⟩
theorem StAt.rev {w:World} {B:Nat} {st:ah} {x:StA} (h:StAt w B st x) (r:Int):StAt w B ⟨r,st.jobs,st.nodes,st.leases⟩ x:=
 ⟨h.j,h.n,h.l,h.lj,h.ln,h.ll,h.bj,h.bn,h.bl,h.oj,h.on_,h.ol⟩
theorem StAt.upS {w w':World} {st:ah} {x:StA} (h:StAt w w.heap.size st x) (hb:Below w.heap.size w w'):StAt w' w'.heap.size st x:=(h.below hb).more hb.size
theorem kA {w:World} {B:Nat} {st:ah} {x:StA} (h:StAt w B st x) (hc:aG st=0):x.nj≤40∧x.nn≤40∧x.nl≤40:=by
 have h2:=(bO.1 hc).2.1
 unfold dW at h2
 simp only [Bool.and_eq_true,decide_eq_true_eq] at h2
 have:=h.lj; have:=h.ln; have:=h.ll
 omega
structure SrvAt (w:World) (T:TypeId) (B:Nat) (st:ah) (x:StA) (now:Int):Prop where
 blk:Blk w B T (sV st x now)
 at_:StAt w w.heap.size st x
 ok:aG st=0
 t:0≤now∧now≤1099511627776
theorem SrvAt.below {w w':World} {T:TypeId} {B:Nat} {st:ah} {x:StA} {now:Int} (h:SrvAt w T B st x now) (hb:Below w.heap.size w w'):SrvAt w' T B st x now:=
 ⟨h.blk.below hb h.blk.lt,h.at_.upS hb,h.ok,h.t⟩
theorem SrvAt.other {w w':World} {T T':TypeId} {B B':Nat} {st:ah} {x:StA} {now:Int} {cs:Array Value} (h:SrvAt w T B st x now) (hb:Blk w B' T' cs) (hc:iI cs) (hg:w.grownBy w' (some B')) (hne:B≠B'):SrvAt w' T B st x now:=
 ⟨aF hg h.blk hne,(h.at_.gG hb hc hg).more hg.size,h.ok,h.t⟩
def jP (T:TypeId) (B:Nat) (st:ah) (R:oC) (w:World) (e:Ending) (w':World):Prop:=
 ∃ (D:aX) (dx:fH) (x':StA),e = .returned (.tuple #[.agg #[.int .i64 R.e,.int .i64 R.st.rev],.agg (dC D dx),.bool R.ch])∧D=(if R.ch=true then eQ st R.st else ⟨0,0,[],[],[],[],[],[]⟩)∧dQ w' w'.heap.size D dx∧Blk w' B T (sV R.st x' R.now)∧StAt w' w'.heap.size R.st x'∧w.grownBy w' (some B)
end Go.Proofs.YtoeejfhdjmkpcaaGreatDoor
/- A frame that is written is read: plain. -/
namespace Go.Proofs.YtoeejfhdjmkpcaaGreatDoor
open Go.Lib (hid)
theorem Dm (v k:Nat) (p:List UInt8) (hv:1≤v∧v≤3) (hk:1≤k∧k≤4) (hp:p.length≤6000):gD (BA (gu v k p))=(⟨v,k,BA p⟩,(gu v k p).length,0):=by
 have ev:(UInt8.ofNat v).toNat=v:=by rw [UInt8.toNat_ofNat']; omega
 have ek:(UInt8.ofNat k).toNat=k:=by rw [UInt8.toNat_ofNat']; omega
 have e:gu v k p=66 :: 75 :: UInt8.ofNat v :: UInt8.ofNat k :: (bI p.length ++ (p ++ lL (lM v k p))):=by simp [gu,lM]
 have hs4:(lL (lM v k p)).length=4:=rfl
 have hB:(lM v k p).length=4+(bI p.length).length+p.length:=by simp [lM]; omega
 have hL:(gu v k p).length=8+(bI p.length).length+p.length:=by
  unfold gu; rw [List.length_append,hB,hs4]; omega
 have b0:aO (BA (gu v k p)) 0=66:=by unfold aO; rw [jr,e]; rfl
 have b1:aO (BA (gu v k p)) 1=75:=by unfold aO; rw [jr,e]; rfl
 have b2:aO (BA (gu v k p)) 2=v:=by unfold aO; rw [jr,e]; exact ev
 have b3:aO (BA (gu v k p)) 3=k:=by unfold aO; rw [jr,e]; exact ek
 have hd:jN (BA (gu v k p))=0:=by
  unfold jN
  rw [b0,b1,b2,b3,jQ,hL]
  rw [if_neg (by omega),if_neg (by omega),if_neg (by omega),if_neg (by omega),if_neg (by omega)]
 have hr:rdNum ((BA (gu v k p)).extract 4 (BA (gu v k p)).size)=(p.length,(bI p.length).length,0):=by
  rw [wK,e]
  exact oL p.length (by omega) (p ++ lL (lM v k p))
 have h1:(BA (gu v k p)).extract (4+(bI p.length).length+p.length) (8+(bI p.length).length+p.length)=BA (lL (lM v k p)):=by
  have:=zW (lM v k p) (lL (lM v k p)) []
  rw [hB,hs4,List.append_nil] at this
  rw [show 8+(bI p.length).length+p.length=4+(bI p.length).length+p.length+4 by omega]
  exact this
 have h2:(BA (gu v k p)).extract 0 (4+(bI p.length).length+p.length)=BA (lM v k p):=by
  rw [Fy _ _ (by omega),← hB]
  unfold gu
  rw [List.take_left]
 have h3:(BA (gu v k p)).extract (4+(bI p.length).length) (4+(bI p.length).length+p.length)=BA p:=by
  have:=zW ([66,75,UInt8.ofNat v,UInt8.ofNat k] ++ bI p.length) p (lL (lM v k p))
  rw [show ([66,75,UInt8.ofNat v,UInt8.ofNat k] ++ bI p.length).length=4+(bI p.length).length by simp; omega] at this
  rw [e]
  exact this
 rw [xZ hd hr (by omega) (by rw [jQ,hL]; omega) (by rw [h1,h2,jr,jr]),b2,b3,h3,hL]
theorem zX:gD ⟨#[]⟩=(.zero,0,3):=rfl
theorem Fz (v k:Nat) (p:List UInt8) (hv:1≤v∧v≤3) (hk:1≤k∧k≤4) (hp:p.length≤6000):Frs (BA (gu v k p)) [⟨v,k,BA p⟩] (gu v k p).length 3:=by
 have h:=Frs.step (Dm v k p hv hk hp) (by simp [gu,lM]) (Nat.le_of_eq (jQ _).symm) (fs:=[]) (m:=0) (e:=3) (by
  rw [wK,List.drop_of_length_le (Nat.le_refl _)]
  exact Frs.stop zX (by decide))
 simpa using h
end Go.Proofs.YtoeejfhdjmkpcaaGreatDoor
/- How many rows a state that may be has. -/
namespace Go.Proofs.YtoeejfhdjmkpcaaGreatDoor
open Go.Lib (hid)
open Go.RowKit
theorem x9 {st:ah} (h:aG st=0):st.jobs.length≤40∧st.nodes.length≤20∧st.leases.length≤40:=by
 have hz:dW st=true:=by
  cases hr:ranged st.rev 0 1099511627776 with
  | false=>rw [Dn hr] at h; exact absurd h (by decide)
  | true=>
   cases hs:dW st with
   | true=>rfl
   | false=>rw [pM hr hs] at h; exact absurd h (by decide)
 unfold dW at hz
 simp at hz
 omega
end Go.Proofs.YtoeejfhdjmkpcaaGreatDoor
/- The one request that the law's first look asks: plain. -/
namespace Go.Proofs.YtoeejfhdjmkpcaaGreatDoor
open Go.Lib (hid)
def yc:aD:=⟨⟨#[97]⟩,0,0,0,⟨#[]⟩⟩
def kV:aH:=⟨1,yc,aU,aI,⟨#[]⟩,0⟩
def FA:ah:=⟨1,[yc],[],[]⟩
theorem Bo:fF yc=0:=by decide +kernel
theorem yg:bK kV=0:=by
 have h1:ranged kV.kind 1 9=true:=by decide
 have h2:kB kV=kV:=rfl
 have h3:cN kV=0:=Bo
 unfold bK
 rw [if_neg (by rw [h1]; simp),if_neg (by simp [h2]),h3]
theorem FC:aG gW=0:=by decide +kernel
theorem FD:aG ⟨0,[yc],[],[]⟩=0:=by decide +kernel
theorem srvA:cW gW 0 (dA gW 0 kV)=⟨0,true,FA,0⟩:=by
 have e:doR gW 0 kV=(0,⟨0,[yc],[],[]⟩,0):=by
  unfold doR
  rw [if_pos (show kV.kind=1 from rfl)]
  have:iR gW kV.job=⟨0,[yc],[],[]⟩:=rfl
  rw [this,FD]
 unfold dA
 rw [if_pos yg,e]
 unfold cW
 rw [if_pos rfl,if_neg (by rintro⟨h,_⟩; cases h),if_neg (by decide)]
 rfl
def sC:List UInt8:=bI 1 ++ eU yc 3
def lN:List UInt8:=gu 3 3 sC
theorem frsA:Frs (BA lN) [⟨3,3,BA sC⟩] lN.length 3:=Fz 3 3 sC (by decide) (by decide) (by decide +kernel)
theorem BN:wL 3 3 (BA sC)=(BA lN,0):=by
 unfold wL
 rw [if_neg (by decide),if_neg (by decide +kernel)]
 rfl
end Go.Proofs.YtoeejfhdjmkpcaaGreatDoor
