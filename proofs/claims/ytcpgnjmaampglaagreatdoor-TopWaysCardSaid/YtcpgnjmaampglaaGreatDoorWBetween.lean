/- Of the proof of a statement: DDec, Between, Clone, Jnum. -/
import Derived.Deep.RegionWith
import Derived.Deep.Cut
import Derived.Deep.CutRange
import Derived.Shelf.Abstract
import Derived.BigRegion
import Derived.Test.YtcpgnjmaampglaaGreatDoorWDiffer
import Derived.Test.YtcpgnjmaampglaaGreatDoorWGone
import Derived.Test.YtcpgnjmaampglaaGreatDoorWSlEq
import Derived.Test.YtcpgnjmaampglaaGreatDoorWWDec
set_option linter.unusedVariables false
set_option linter.unusedSimpArgs false
set_option maxRecDepth 100000
set_option maxHeartbeats 8000000
/- The walk of delta.Decode. -/
namespace Go.Proofs.YtcpgnjmaampglaaGreatDoor
open Go.Lib (hid)
open Go.RowKit
open Go.Lib (hasPrefix trimPrefix atoiAll atoiSat)
def OW:eW:=⟨none,0,0,none,0,0,none,0,0,none,0,0,none,0,0,none,0,0⟩
theorem Ky (w:World) (B:Nat):dM w B nO OW:=
 ⟨aQ.nil,aQ.nil,aQ.nil,aQ.nil,aQ.nil,aQ.nil,rfl,rfl,rfl,rfl,rfl,rfl,by decide,by decide,by decide,by decide,by decide,by decide,(fun _ h=>by cases h),(fun _ h=>by cases h),(fun _ h=>by cases h),(fun _ h=>by cases h),(fun _ h=>by cases h),(fun _ h=>by cases h)⟩
structure rW (w:World) (g:Nat) (d:aK) (x:eW):Prop where
 j:∃ b,g<b∧w.ownsRow b 59 5 (.slice x.aj x.nj x.cj) x.nj (au aH d.jobs)
 n:∃ b,g<b∧w.ownsRow b 61 3 (.slice x.an x.nn x.cn) x.nn (au aI d.nodes)
 l:∃ b,g<b∧w.ownsRow b 63 3 (.slice x.al x.nl x.cl) x.nl (au aE d.leases)
 gj:∃ b,g<b∧w.ownsRow b 9 1 (.slice x.agj x.ngj x.cgj) x.ngj (au mN d.gj)
 gn:∃ b,g<b∧w.ownsRow b 9 1 (.slice x.agn x.ngn x.cgn) x.ngn (au mN d.gn)
 gl:∃ b,g<b∧w.ownsRow b 9 1 (.slice x.agl x.ngl x.cgl) x.ngl (au mN d.gl)
 lj:d.jobs.length=x.nj
 ln:d.nodes.length=x.nn
 ll:d.leases.length=x.nl
 lgj:d.gj.length=x.ngj
 lgn:d.gn.length=x.ngn
 lgl:d.gl.length=x.ngl
theorem uX {w w':World} {g sz n:Nat} {e:TypeId} {v:Value} {xs:List Value} (h:∃ b,g<b∧w.ownsRow b e sz v n xs) (hg:w.grownBy w' (some g)):∃ b,g<b∧w'.ownsRow b e sz v n xs:=by
 obtain⟨b,hb,ho⟩:=h; exact⟨b,hb,aD ho hg hb⟩
theorem rW.grow {w w':World} {g:Nat} {d:aK} {x:eW} (h:rW w g d x) (hg:w.grownBy w' (some g)):rW w' g d x:=
 ⟨uX h.j hg,uX h.n hg,uX h.l hg,uX h.gj hg,uX h.gn hg,uX h.gl hg,h.lj,h.ln,h.ll,h.lgj,h.lgn,h.lgl⟩
structure Ia (d:aK):Prop where
 j:d.jobs.length≤40
 n:d.nodes.length≤20
 l:d.leases.length≤40
 gj:d.gj.length≤40
 gn:d.gn.length≤20
 gl:d.gl.length≤40
 oj:nP d.jobs
 on_:kX d.nodes
 ol:ji d.leases
 ogj:l8 d.gj
 ogn:l8 d.gn
 ogl:l8 d.gl
theorem mC {w:World} {g sz n c:Nat} {A:Option Addr} {e:TypeId} {xs:List Value} (h:∃ b,g<b∧w.ownsRow b e sz (.slice A n c) n xs):aQ w w.heap.size sz A n xs:=by
 obtain⟨b,hb,ho⟩:=h; exact cD ho
theorem rW.at_ {w:World} {g:Nat} {d:aK} {x:eW} (h:rW w g d x) (z:Ia d):dM w w.heap.size d x:=
 ⟨mC h.j,mC h.n,mC h.l,mC h.gj,mC h.gn,mC h.gl,h.lj,h.ln,h.ll,h.lgj,h.lgn,h.lgl,
  by have:=z.j; have:=h.lj; omega,by have:=z.n; have:=h.ln; omega,by have:=z.l; have:=h.ll; omega,by have:=z.gj; have:=h.lgj; omega,by have:=z.gn; have:=h.lgn; omega,by have:=z.gl; have:=h.lgl; omega,
  z.oj,z.on_,z.ol,z.ogj,z.ogn,z.ogl⟩
def Kz (a b:ah) (w:World) (e:Ending) (w':World):Prop:=
 ∃ x:eW,e = .returned (.agg (dC (cF a b) x))∧rW w' w.heap.size (cF a b) x∧Below w.heap.size w w'
structure rT (w0 w:World) (ca cb cd:Array Value):Prop where
 below:Below w0.heap.size w0 w
 a:Blk w w0.heap.size 26 ca
 b:Blk w (w0.heap.size+1) 26 cb
 r:Blk w (w0.heap.size+2) 48 nQ
 d:Blk w (w0.heap.size+3) 48 cd
theorem rT.kept {w0 w w':World} {ca cb cd:Array Value} (h:rT w0 w ca cb cd) (hb:Below w.heap.size w w'):rT w0 w' ca cb cd:=
 ⟨h.below.trans (hb.mono h.below.size),h.a.below hb h.a.lt,h.b.below hb h.b.lt,h.r.below hb h.r.lt,h.d.below hb h.d.lt⟩
theorem rT.set {w0 w:World} {ca cb cd cd':Array Value} {i:Nat} {u:Value} (h:rT w0 w ca cb cd) (hc:cd.setIfInBounds i u=cd'):rT w0 (w.setCell ⟨w0.heap.size+3,i,none⟩ u) ca cb cd':=
 ⟨aJ h.below (aC w _ i u) (by omega),aA (aC w _ i u) h.a (by omega),aA (aC w _ i u) h.b (by omega),aA (aC w _ i u) h.r (by omega),Blk.eq (h.d.set i u) hc⟩
theorem Dm (w:World) (ca cb cc cd:Array Value) {ta tb tc td:TypeId}:Blk ((((w.alloc (.cells ca ta)).alloc (.cells cb tb)).alloc (.cells cc tc)).alloc (.cells cd td)) w.heap.size ta ca∧Blk ((((w.alloc (.cells ca ta)).alloc (.cells cb tb)).alloc (.cells cc tc)).alloc (.cells cd td)) (w.heap.size+1) tb cb ∧
 Blk ((((w.alloc (.cells ca ta)).alloc (.cells cb tb)).alloc (.cells cc tc)).alloc (.cells cd td)) (w.heap.size+2) tc cc∧Blk ((((w.alloc (.cells ca ta)).alloc (.cells cb tb)).alloc (.cells cc tc)).alloc (.cells cd td)) (w.heap.size+3) td cd∧Below w.heap.size w ((((w.alloc (.cells ca ta)).alloc (.cells cb tb)).alloc (.cells cc tc)).alloc (.cells cd td)):=by
 have h1:Blk (w.alloc (.cells ca ta)) w.heap.size ta ca:=heap_alloc_new w _
 have h2:=heap_alloc_new (w.alloc (.cells ca ta)) (.cells cb tb)
 rw [show (w.alloc (.cells ca ta)).heap.size=w.heap.size+1 by simp] at h2
 have h3:=heap_alloc_new ((w.alloc (.cells ca ta)).alloc (.cells cb tb)) (.cells cc tc)
 rw [show ((w.alloc (.cells ca ta)).alloc (.cells cb tb)).heap.size=w.heap.size+2 by simp] at h3
 have h4:=heap_alloc_new (((w.alloc (.cells ca ta)).alloc (.cells cb tb)).alloc (.cells cc tc)) (.cells cd td)
 rw [show (((w.alloc (.cells ca ta)).alloc (.cells cb tb)).alloc (.cells cc tc)).heap.size=w.heap.size+3 by simp] at h4
 exact⟨((h1.alloc _).alloc _).alloc _,((show Blk _ _ _ _ from h2).alloc _).alloc _,(show Blk _ _ _ _ from h3).alloc _,h4,((((Below.refl _ _).alloc (Nat.le_refl _) _).alloc (by simp) _).alloc (by simp; omega) _).alloc (by simp; omega) _⟩
theorem bA {w:World} {base sz n D i:Nat} {e:TypeId} {v u:Value} {xs:List Value} (ho:w.ownsRow base e sz v n xs) (hD:D<base):(w.setCell ⟨D,i,none⟩ u).ownsRow base e sz v n xs:=aD ho (aC w D i u) hD
theorem wQ (a b:ah) (x y:StA) (w:World) (hA:StAt w w.heap.size a x) (hB:StAt w w.heap.size b y) (h1:x.nj≤1000) (h2:x.nn≤1000) (h3:x.nl≤1000) (h4:y.nj≤1000) (h5:y.nn≤1000) (h6:y.nl≤1000) :
 Calls Tryz.prog 46 #[.agg (stC a x),.agg (stC b y)] w (Kz a b w):=by
 obtain⟨ra,ja,na,la⟩:=a
 obtain⟨aj,nj,cj,an,nn,cn,al,nl,cl⟩:=x
 obtain⟨rb,jb,nb,lb⟩:=b
 obtain⟨bj,mj,dj,bn,mn,dn,bl,ml,dl⟩:=y
 unfold stC
 dsimp only at *
 obtain⟨q1,q2,q3,q4,q5⟩:=Dm w #[.int .i64 ra,.slice aj nj cj,.slice an nn cn,.slice al nl cl] #[.int .i64 rb,.slice bj mj dj,.slice bn mn dn,.slice bl ml dl] nQ #[.int .i64 ra,.int .i64 rb,.slice none 0 0,.slice none 0 0,.slice none 0 0,.slice none 0 0,.slice none 0 0,.slice none 0 0] (ta:=26) (tb:=26) (tc:=48) (td:=48)
 have H0:=hid (show rT w ((((w.alloc (.cells #[.int .i64 ra,.slice aj nj cj,.slice an nn cn,.slice al nl cl] 26)).alloc (.cells #[.int .i64 rb,.slice bj mj dj,.slice bn mn dn,.slice bl ml dl] 26)).alloc (.cells nQ 48)).alloc (.cells #[.int .i64 ra,.int .i64 rb,.slice none 0 0,.slice none 0 0,.slice none 0 0,.slice none 0 0,.slice none 0 0,.slice none 0 0] 48)) _ _ _ from ⟨q5,q1,q2,q3,q4⟩)
 have HA:=hid hA
 have HB:=hid hB
 clear q1 q2 q3 q4 q5 hA hB
 go_enter Tryz.func46,Tryz.ntmps46
 have HC:=hid (pD.1 ja jb aj bj nj cj mj dj ((((w.alloc (.cells #[.int .i64 ra,.slice aj nj cj,.slice an nn cn,.slice al nl cl] 26)).alloc (.cells #[.int .i64 rb,.slice bj mj dj,.slice bn mn dn,.slice bl ml dl] 26)).alloc (.cells nQ 48)).alloc (.cells #[.int .i64 ra,.int .i64 rb,.slice none 0 0,.slice none 0 0,.slice none 0 0,.slice none 0 0,.slice none 0 0,.slice none 0 0] 48)) (HA.out.j.below H0.out.below |>.more H0.out.below.size) HA.out.lj h1 (HB.out.j.below H0.out.below |>.more H0.out.below.size) HB.out.lj h4)
 go_wp2_with fail
 refine Calls.mono HC.out ?_
 rintro e w1 ⟨S0,s0,G0,g0,rfl,hs,hg,hb⟩
 have hk:=H0.out.kept hb
 have HO0:=hid (bV hs (show w.heap.size+3+1≤_ from by have:=H0.out.d.lt; omega))
 have HG0:=hid (bV hg (show w.heap.size+3+1≤_ from by have:=H0.out.d.lt; omega))
 have hd:=hk.d
 have hdl:=hd.lt
 have e1:w1.cell? ⟨w.heap.size+3,2,none⟩=some (.slice none 0 0):=hd.cell 2
 have e2:w1.cell? ⟨w.heap.size+3,5,none⟩=some (.slice none 0 0):=hd.cell 5
 have t1:w1.frozen? ⟨w.heap.size+3,2,none⟩=false:=hd.thaw 2
 have t2:w1.frozen? ⟨w.heap.size+3,5,none⟩=false:=hd.thaw 5
 have hk1:=rT.set hk (i:=2) (u:=.slice S0 (newL ja jb).length s0) (show _=#[.int .i64 ra,.int .i64 rb,.slice S0 (newL ja jb).length s0,.slice none 0 0,.slice none 0 0,.slice none 0 0,.slice none 0 0,.slice none 0 0] from rfl)
 have hk2:=rT.set hk1 (i:=5) (u:=.slice G0 (bH aB.name ja jb).length g0) (show _=#[.int .i64 ra,.int .i64 rb,.slice S0 (newL ja jb).length s0,.slice none 0 0,.slice none 0 0,.slice G0 (bH aB.name ja jb).length g0,.slice none 0 0,.slice none 0 0] from rfl)
 have HK1:=hid hk2
 have HO0:=hid (show ((w1.setCell ⟨w.heap.size+3,2,none⟩ (.slice S0 (newL ja jb).length s0)).setCell ⟨w.heap.size+3,5,none⟩ (.slice G0 (bH aB.name ja jb).length g0)).ownsRow (w.heap.size+3+1) _ _ _ _ _ from bA (bA HO0.out (Nat.lt_succ_self _)) (Nat.lt_succ_self _))
 have HG0:=hid (show ((w1.setCell ⟨w.heap.size+3,2,none⟩ (.slice S0 (newL ja jb).length s0)).setCell ⟨w.heap.size+3,5,none⟩ (.slice G0 (bH aB.name ja jb).length g0)).ownsRow (w.heap.size+3+1) _ _ _ _ _ from bA (bA HG0.out (Nat.lt_succ_self _)) (Nat.lt_succ_self _))
 clear hs hg hb hk hk1 hk2 hd HC
 have HC:=hid (pD.2.1 na nb an bn nn cn mn dn ((w1.setCell ⟨w.heap.size+3,2,none⟩ (.slice S0 (newL ja jb).length s0)).setCell ⟨w.heap.size+3,5,none⟩ (.slice G0 (bH aB.name ja jb).length g0)) (HA.out.n.below HK1.out.below |>.more HK1.out.below.size) HA.out.ln h2 (HB.out.n.below HK1.out.below |>.more HK1.out.below.size) HB.out.ln h5)
 have y2:((w1.setCell ⟨w.heap.size+3,2,none⟩ (.slice S0 (newL ja jb).length s0)).setCell ⟨w.heap.size+3,5,none⟩ (.slice G0 (bH aB.name ja jb).length g0)).cell? ⟨w.heap.size,2,none⟩=some (.slice an nn cn):=HK1.out.a.cell 2
 have z2:((w1.setCell ⟨w.heap.size+3,2,none⟩ (.slice S0 (newL ja jb).length s0)).setCell ⟨w.heap.size+3,5,none⟩ (.slice G0 (bH aB.name ja jb).length g0)).cell? ⟨w.heap.size+1,2,none⟩=some (.slice bn mn dn):=HK1.out.b.cell 2
 go_wp2_with fail
 refine Calls.mono HC.out ?_
 rintro e w2 ⟨S1,s1,G1,g1,rfl,hs,hg,hb⟩
 have hk:=HK1.out.kept hb
 have HO1:=hid (bV hs (show w.heap.size+3+1≤_ from by have:=HK1.out.d.lt; omega))
 have HG1:=hid (bV hg (show w.heap.size+3+1≤_ from by have:=HK1.out.d.lt; omega))
 have HO0:=hid (aU HO0.out hb)
 have HG0:=hid (aU HG0.out hb)
 have hd:=hk.d
 have hdl:=hd.lt
 have e1:w2.cell? ⟨w.heap.size+3,3,none⟩=some (.slice none 0 0):=hd.cell 3
 have e2:w2.cell? ⟨w.heap.size+3,6,none⟩=some (.slice none 0 0):=hd.cell 6
 have t1:w2.frozen? ⟨w.heap.size+3,3,none⟩=false:=hd.thaw 3
 have t2:w2.frozen? ⟨w.heap.size+3,6,none⟩=false:=hd.thaw 6
 have hk1:=rT.set hk (i:=3) (u:=.slice S1 (newL na nb).length s1) (show _=#[.int .i64 ra,.int .i64 rb,.slice S0 (newL ja jb).length s0,.slice S1 (newL na nb).length s1,.slice none 0 0,.slice G0 (bH aB.name ja jb).length g0,.slice none 0 0,.slice none 0 0] from rfl)
 have hk2:=rT.set hk1 (i:=6) (u:=.slice G1 (bH av.name na nb).length g1) (show _=#[.int .i64 ra,.int .i64 rb,.slice S0 (newL ja jb).length s0,.slice S1 (newL na nb).length s1,.slice none 0 0,.slice G0 (bH aB.name ja jb).length g0,.slice G1 (bH av.name na nb).length g1,.slice none 0 0] from rfl)
 have HK2:=hid hk2
 have HO0:=hid (show ((w2.setCell ⟨w.heap.size+3,3,none⟩ (.slice S1 (newL na nb).length s1)).setCell ⟨w.heap.size+3,6,none⟩ (.slice G1 (bH av.name na nb).length g1)).ownsRow (w.heap.size+3+1) _ _ _ _ _ from bA (bA HO0.out (Nat.lt_succ_self _)) (Nat.lt_succ_self _))
 have HG0:=hid (show ((w2.setCell ⟨w.heap.size+3,3,none⟩ (.slice S1 (newL na nb).length s1)).setCell ⟨w.heap.size+3,6,none⟩ (.slice G1 (bH av.name na nb).length g1)).ownsRow (w.heap.size+3+1) _ _ _ _ _ from bA (bA HG0.out (Nat.lt_succ_self _)) (Nat.lt_succ_self _))
 have HO1:=hid (show ((w2.setCell ⟨w.heap.size+3,3,none⟩ (.slice S1 (newL na nb).length s1)).setCell ⟨w.heap.size+3,6,none⟩ (.slice G1 (bH av.name na nb).length g1)).ownsRow (w.heap.size+3+1) _ _ _ _ _ from bA (bA HO1.out (Nat.lt_succ_self _)) (Nat.lt_succ_self _))
 have HG1:=hid (show ((w2.setCell ⟨w.heap.size+3,3,none⟩ (.slice S1 (newL na nb).length s1)).setCell ⟨w.heap.size+3,6,none⟩ (.slice G1 (bH av.name na nb).length g1)).ownsRow (w.heap.size+3+1) _ _ _ _ _ from bA (bA HG1.out (Nat.lt_succ_self _)) (Nat.lt_succ_self _))
 clear hs hg hb hk hk1 hk2 hd HC y2 z2
 have HC:=hid (pD.2.2 la lb al bl nl cl ml dl ((w2.setCell ⟨w.heap.size+3,3,none⟩ (.slice S1 (newL na nb).length s1)).setCell ⟨w.heap.size+3,6,none⟩ (.slice G1 (bH av.name na nb).length g1)) (HA.out.l.below HK2.out.below |>.more HK2.out.below.size) HA.out.ll h3 (HB.out.l.below HK2.out.below |>.more HK2.out.below.size) HB.out.ll h6)
 have y3:((w2.setCell ⟨w.heap.size+3,3,none⟩ (.slice S1 (newL na nb).length s1)).setCell ⟨w.heap.size+3,6,none⟩ (.slice G1 (bH av.name na nb).length g1)).cell? ⟨w.heap.size,3,none⟩=some (.slice al nl cl):=HK2.out.a.cell 3
 have z3:((w2.setCell ⟨w.heap.size+3,3,none⟩ (.slice S1 (newL na nb).length s1)).setCell ⟨w.heap.size+3,6,none⟩ (.slice G1 (bH av.name na nb).length g1)).cell? ⟨w.heap.size+1,3,none⟩=some (.slice bl ml dl):=HK2.out.b.cell 3
 go_wp2_with fail
 refine Calls.mono HC.out ?_
 rintro e w3 ⟨S2,s2,G2,g2,rfl,hs,hg,hb⟩
 have hk:=HK2.out.kept hb
 have HO2:=hid (bV hs (show w.heap.size+3+1≤_ from by have:=HK2.out.d.lt; omega))
 have HG2:=hid (bV hg (show w.heap.size+3+1≤_ from by have:=HK2.out.d.lt; omega))
 have HO0:=hid (aU HO0.out hb)
 have HG0:=hid (aU HG0.out hb)
 have HO1:=hid (aU HO1.out hb)
 have HG1:=hid (aU HG1.out hb)
 have hd:=hk.d
 have hdl:=hd.lt
 have e1:w3.cell? ⟨w.heap.size+3,4,none⟩=some (.slice none 0 0):=hd.cell 4
 have e2:w3.cell? ⟨w.heap.size+3,7,none⟩=some (.slice none 0 0):=hd.cell 7
 have t1:w3.frozen? ⟨w.heap.size+3,4,none⟩=false:=hd.thaw 4
 have t2:w3.frozen? ⟨w.heap.size+3,7,none⟩=false:=hd.thaw 7
 have hk1:=rT.set hk (i:=4) (u:=.slice S2 (newL la lb).length s2) (show _=#[.int .i64 ra,.int .i64 rb,.slice S0 (newL ja jb).length s0,.slice S1 (newL na nb).length s1,.slice S2 (newL la lb).length s2,.slice G0 (bH aB.name ja jb).length g0,.slice G1 (bH av.name na nb).length g1,.slice none 0 0] from rfl)
 have hk2:=rT.set hk1 (i:=7) (u:=.slice G2 (bH ak.job la lb).length g2) (show _=#[.int .i64 ra,.int .i64 rb,.slice S0 (newL ja jb).length s0,.slice S1 (newL na nb).length s1,.slice S2 (newL la lb).length s2,.slice G0 (bH aB.name ja jb).length g0,.slice G1 (bH av.name na nb).length g1,.slice G2 (bH ak.job la lb).length g2] from rfl)
 have HK3:=hid hk2
 have HO0:=hid (show ((w3.setCell ⟨w.heap.size+3,4,none⟩ (.slice S2 (newL la lb).length s2)).setCell ⟨w.heap.size+3,7,none⟩ (.slice G2 (bH ak.job la lb).length g2)).ownsRow (w.heap.size+3+1) _ _ _ _ _ from bA (bA HO0.out (Nat.lt_succ_self _)) (Nat.lt_succ_self _))
 have HG0:=hid (show ((w3.setCell ⟨w.heap.size+3,4,none⟩ (.slice S2 (newL la lb).length s2)).setCell ⟨w.heap.size+3,7,none⟩ (.slice G2 (bH ak.job la lb).length g2)).ownsRow (w.heap.size+3+1) _ _ _ _ _ from bA (bA HG0.out (Nat.lt_succ_self _)) (Nat.lt_succ_self _))
 have HO1:=hid (show ((w3.setCell ⟨w.heap.size+3,4,none⟩ (.slice S2 (newL la lb).length s2)).setCell ⟨w.heap.size+3,7,none⟩ (.slice G2 (bH ak.job la lb).length g2)).ownsRow (w.heap.size+3+1) _ _ _ _ _ from bA (bA HO1.out (Nat.lt_succ_self _)) (Nat.lt_succ_self _))
 have HG1:=hid (show ((w3.setCell ⟨w.heap.size+3,4,none⟩ (.slice S2 (newL la lb).length s2)).setCell ⟨w.heap.size+3,7,none⟩ (.slice G2 (bH ak.job la lb).length g2)).ownsRow (w.heap.size+3+1) _ _ _ _ _ from bA (bA HG1.out (Nat.lt_succ_self _)) (Nat.lt_succ_self _))
 have HO2:=hid (show ((w3.setCell ⟨w.heap.size+3,4,none⟩ (.slice S2 (newL la lb).length s2)).setCell ⟨w.heap.size+3,7,none⟩ (.slice G2 (bH ak.job la lb).length g2)).ownsRow (w.heap.size+3+1) _ _ _ _ _ from bA (bA HO2.out (Nat.lt_succ_self _)) (Nat.lt_succ_self _))
 have HG2:=hid (show ((w3.setCell ⟨w.heap.size+3,4,none⟩ (.slice S2 (newL la lb).length s2)).setCell ⟨w.heap.size+3,7,none⟩ (.slice G2 (bH ak.job la lb).length g2)).ownsRow (w.heap.size+3+1) _ _ _ _ _ from bA (bA HG2.out (Nat.lt_succ_self _)) (Nat.lt_succ_self _))
 clear hs hg hb hk hk1 hk2 hd HC y3 z3
 have hrr:=HK3.out.r
 have hrl:=hrr.lt
 obtain⟨b0,b1,b2,b3,b4,b5,b6,b7⟩:=Blk.c8 (HK3.out.d)
 obtain⟨ur0,ur1,ur2,ur3,ur4,ur5,ur6,ur7⟩:=Blk.z8 (hrr)
 obtain⟨sr0,sr1,sr2,sr3,sr4,sr5,sr6,sr7⟩:=Blk.c8 (hrr)
 obtain⟨hR4,hG4⟩:=Blk.S8 (hrr) (.int .i64 ra) (.int .i64 rb) (.slice S0 (newL ja jb).length s0) (.slice S1 (newL na nb).length s1) (.slice S2 (newL la lb).length s2) (.slice G0 (bH aB.name ja jb).length g0) (.slice G1 (bH av.name na nb).length g1) (.slice G2 (bH ak.job la lb).length g2)
 obtain⟨q0,q1,q2,q3,q4,q5,q6,q7⟩:=Blk.c8 hR4
 have cX:=hid (show Kz ⟨ra,ja,na,la⟩ ⟨rb,jb,nb,lb⟩ w (.returned (.agg #[.int .i64 ra,.int .i64 rb,.slice S0 (newL ja jb).length s0,.slice S1 (newL na nb).length s1,.slice S2 (newL la lb).length s2,.slice G0 (bH aB.name ja jb).length g0,.slice G1 (bH av.name na nb).length g1,.slice G2 (bH ak.job la lb).length g2])) _ from ⟨⟨S0,(newL ja jb).length,s0,S1,(newL na nb).length,s1,S2,(newL la lb).length,s2,G0,(bH aB.name ja jb).length,g0,G1,(bH av.name na nb).length,g1,G2,(bH ak.job la lb).length,g2⟩,rfl,⟨⟨w.heap.size+3+1,by omega,aD HO0.out hG4 (by omega)⟩,⟨w.heap.size+3+1,by omega,aD HO1.out hG4 (by omega)⟩,⟨w.heap.size+3+1,by omega,aD HO2.out hG4 (by omega)⟩,⟨w.heap.size+3+1,by omega,aD HG0.out hG4 (by omega)⟩,⟨w.heap.size+3+1,by omega,aD HG1.out hG4 (by omega)⟩,⟨w.heap.size+3+1,by omega,aD HG2.out hG4 (by omega)⟩,rfl,rfl,rfl,rfl,rfl,rfl⟩,aJ HK3.out.below hG4 (by omega)⟩)
 clear hrr hR4 hG4 HO0 HO1 HO2 HG0 HG1 HG2 HK1 HK2 HK3 HA HB H0
 go_wp2
 refine bodyPost_ret (v:=.agg #[.int .i64 ra,.int .i64 rb,.slice S0 (newL ja jb).length s0,.slice S1 (newL na nb).length s1,.slice S2 (newL la lb).length s2,.slice G0 (bH aB.name ja jb).length g0,.slice G1 (bH av.name na nb).length g1,.slice G2 (bH ak.job la lb).length g2]) (by simp [results,Tryz.results46,go_sem, *]) rfl ?_
 exact cX.out
def uY {α:Type} (T:TypeId) (sz:Nat) (enc:α→List Value) (xs:List α) (w:World) (e:Ending) (w':World):Prop:=
 ∃ A' c',e = .returned (.slice A' xs.length c')∧w'.ownsRow w.heap.size T sz (.slice A' xs.length c') xs.length (au enc xs)∧Below w.heap.size w w'
theorem uY.Pq {α:Type} {T:TypeId} {sz n:Nat} {enc:α→List Value} {xs:List α} {w w':World} {v:Value} (hl:xs.length=n) (ho:w'.ownsRow w.heap.size T sz v n (au enc xs)) (hb:Below w.heap.size w w'):uY T sz enc xs w (.returned v) w':=by
 subst hl
 rcases ho.2 with ⟨rfl,h0⟩ | ⟨g,cap,cur,rfl,_⟩
 · rw [h0] at ho
   exact⟨none,0,by rw [h0],by rw [h0]; exact ho,hb⟩
 · exact⟨some ⟨g,0,none⟩,cap,rfl,ho,hb⟩
theorem aQ.adds {w:World} {B sz n:Nat} {ad:Addr} {xs:List Value} (h:aQ w B sz (some ad) n xs):∀ j u,xs[j]? = some u→w.cell? (ad.add j)=some u:=by
 intro j u hu
 have hn:0<n:=by
  rcases Nat.eq_zero_or_pos n with h0 | h0
  · subst h0
    have:xs=[]:=List.eq_nil_of_length_eq_zero (by rw [h.len]; omega)
    subst this; cases hu
  · exact h0
 obtain⟨b,off,e,hB,hr⟩:=h.at_ hn
 injection e with e
 subst e
 have:=hr j u hu
 unfold Addr.add
 split
 · rename_i hj; subst hj; simpa using this
 · exact this
theorem sC {w:World} {a:Addr} {v:Value} (o:Obj) (h:w.cell? a=some v):(w.alloc o).cell? a=some v:=by
 have hlt:a.block<w.heap.size:=by
  rcases Nat.lt_or_ge a.block w.heap.size with h' | h'
  · exact h'
  · simp [World.cell?,Array.getElem?_eq_none h'] at h
 rw [← h]
 have:=((Below.refl w.heap.size w).alloc (Nat.le_refl _) o).block a.block hlt
 unfold World.cell?
 rw [this]
theorem qx :
 (∀ (xs:List aB) (A:Option Addr) (n c:Nat) (w:World) (hx:aQ w w.heap.size 5 A n (au aH xs)) (hl:xs.length=n) (hn:n≤1000),Calls Tryz.prog 160 #[.slice A n c] w (uY 59 5 aH xs w)) ∧
 (∀ (xs:List av) (A:Option Addr) (n c:Nat) (w:World) (hx:aQ w w.heap.size 3 A n (au aI xs)) (hl:xs.length=n) (hn:n≤1000),Calls Tryz.prog 161 #[.slice A n c] w (uY 61 3 aI xs w)) ∧
 (∀ (xs:List ak) (A:Option Addr) (n c:Nat) (w:World) (hx:aQ w w.heap.size 3 A n (au aE xs)) (hl:xs.length=n) (hn:n≤1000),Calls Tryz.prog 162 #[.slice A n c] w (uY 63 3 aE xs w)):=by
 refine⟨@fun xs A n c w hx hl hn=>(fun(jM0:Unit)=>?_) (),@fun xs A n c w hx hl hn=>(fun(jM1:Unit)=>?_) (),@fun xs A n c w hx hl hn=>(fun(jM2:Unit)=>?_) ()⟩<;>(
 first|(guard_hyp jM0;have qe:∀ (w:World) (a:Option Addr) (n c n' c':Nat),(binOp .eql 22 (.slice a n c) (.slice none n' c')).run Tryz.prog w = .ok (.bool a.isNone) w:=fun w a n c n' c'=>Lib.run_eql_slice_nil w _ _ a n c n' c' Tryz.underlying22)|(guard_hyp jM1;have qe:∀ (w:World) (a:Option Addr) (n c n' c':Nat),(binOp .eql 23 (.slice a n c) (.slice none n' c')).run Tryz.prog w = .ok (.bool a.isNone) w:=fun w a n c n' c'=>Lib.run_eql_slice_nil w _ _ a n c n' c' Tryz.underlying23)|have qe:∀ (w:World) (a:Option Addr) (n c n' c':Nat),(binOp .eql 24 (.slice a n c) (.slice none n' c')).run Tryz.prog w = .ok (.bool a.isNone) w:=fun w a n c n' c'=>Lib.run_eql_slice_nil w _ _ a n c n' c' Tryz.underlying24
 first|(guard_hyp jM0;obtain⟨i0,hi,hz0,hz1,hz2⟩:=info_parts oo)|(guard_hyp jM1;obtain⟨i0,hi,hz0,hz1,hz2⟩:=info_parts mD)|obtain⟨i0,hi,hz0,hz1,hz2⟩:=info_parts kD
 cases A with
 | none=>
  have h0:n=0:=by
   rcases Nat.eq_zero_or_pos n with h | h
   · exact h
   · obtain⟨_,_,e,_⟩:=hx.at_ h; cases e
  subst h0
  have hxs:xs=[]:=List.eq_nil_of_length_eq_zero hl
  subst hxs
  clear hx hl
  first|(guard_hyp jM0;go_enter Tryz.func160,Tryz.ntmps160)|(guard_hyp jM1;go_enter Tryz.func161,Tryz.ntmps161)|go_enter Tryz.func162,Tryz.ntmps162
  go_wp2
  go_ret
  exact⟨none,0,rfl,World.ownsRow_nil _ _ _ _,Below.refl _ _⟩
 | some ad=>
  have hadd:=hx.adds
  first|(guard_hyp jM0;have hlen:(au aH xs).length=n*5:=hx.len)|(guard_hyp jM1;have hlen:(au aI xs).length=n*3:=hx.len)|have hlen:(au aE xs).length=n*3:=hx.len
  have H:=hid hadd
  clear hx hadd
  first|(guard_hyp jM0;go_enter Tryz.func160,Tryz.ntmps160)|(guard_hyp jM1;go_enter Tryz.func161,Tryz.ntmps161)|go_enter Tryz.func162,Tryz.ntmps162
  first
   |(
    guard_hyp jM0
    go_wp2_with (at_builtin; refine wpList_append_own_at _ rfl _ _ 22 rfl w.heap.size 59 i0 (.agg #[.string ⟨#[]⟩,.int .i64 0,.int .i64 0,.int .i64 0,.string ⟨#[]⟩]) 5 56 Tryz.underlying22 hi hz0 hz1 hz2 rfl (by decide) (.slice (some ⟨w.heap.size,0,none⟩) 0 0) 0 [] rfl (World.ownsRow_made w #[] 0 (Nat.le_refl _) (Nat.zero_le _) rfl) ad n c (au aH xs) rfl hlen (fun j u hu=>by have hadd:=H.out; exact sC _ (hadd j u hu)) (fun u hu=>by obtain⟨a,_,ha⟩:=List.mem_flatMap.1 hu; exact kE a u ha) (by unfold maxLen; omega) (by omega) (by simp) ?_; intro v' w1 hown hgrow hnil hblk))
   |(
    guard_hyp jM1
    go_wp2_with (at_builtin; refine wpList_append_own_at _ rfl _ _ 23 rfl w.heap.size 61 i0 (.agg #[.string ⟨#[]⟩,.int .i64 0,.string ⟨#[]⟩]) 3 40 Tryz.underlying23 hi hz0 hz1 hz2 rfl (by decide) (.slice (some ⟨w.heap.size,0,none⟩) 0 0) 0 [] rfl (World.ownsRow_made w #[] 0 (Nat.le_refl _) (Nat.zero_le _) rfl) ad n c (au aI xs) rfl hlen (fun j u hu=>by have hadd:=H.out; exact sC _ (hadd j u hu)) (fun u hu=>by obtain⟨a,_,ha⟩:=List.mem_flatMap.1 hu; exact jv a u ha) (by unfold maxLen; omega) (by omega) (by simp) ?_; intro v' w1 hown hgrow hnil hblk))
   |(
    guard_hyp jM2
    go_wp2_with (at_builtin; refine wpList_append_own_at _ rfl _ _ 24 rfl w.heap.size 63 i0 (.agg #[.string ⟨#[]⟩,.string ⟨#[]⟩,.int .i64 0]) 3 40 Tryz.underlying24 hi hz0 hz1 hz2 rfl (by decide) (.slice (some ⟨w.heap.size,0,none⟩) 0 0) 0 [] rfl (World.ownsRow_made w #[] 0 (Nat.le_refl _) (Nat.zero_le _) rfl) ad n c (au aE xs) rfl hlen (fun j u hu=>by have hadd:=H.out; exact sC _ (hadd j u hu)) (fun u hu=>by obtain⟨a,_,ha⟩:=List.mem_flatMap.1 hu; exact iA a u ha) (by unfold maxLen; omega) (by omega) (by simp) ?_; intro v' w1 hown hgrow hnil hblk))
  rw [Nat.zero_add,List.nil_append] at hown
  have hfin:=hid (uY.Pq hl hown (((Below.refl _ w).alloc (Nat.le_refl _) _).grown hgrow (by simp) (by intro k hk; simp [Value.ownBlock] at hk; omega)))
  clear hown hgrow hnil hblk
  go_wp2
  go_ret
  exact hfin.out)
section
variable {l:List UInt8} {b:Bool} {k:Nat} {v:Int}
theorem IQ (h:l.takeWhile lE=l.take k∧l.dropWhile lE=l.drop k) (ha:atoiAll (l.take k) = .ok v):bC (l,b)=(v,l.drop k,b):=by unfold bC; simp only [h.1,h.2,ha]
theorem AO (h:l.takeWhile lE=l.take k∧l.dropWhile lE=l.drop k) (ha:atoiAll (l.take k)=atoiAll []):bC (l,b)=(0,l.drop k,true):=by unfold bC; simp only [h.1,h.2]; rw [ha]; rfl
theorem Cb (h:l.takeWhile lE=l.take k∧l.dropWhile lE=l.drop k) (ha:atoiAll (l.take k) = .range):bC (l,b)=(atoiSat (l.take k),l.drop k,true):=by unfold bC; simp only [h.1,h.2,ha]
end
theorem Dn (c:UInt8):lE c=true↔c.toNat=45∨(48≤c.toNat∧c.toNat≤57):=by
 unfold lE
 simp only [Bool.or_eq_true,beq_iff_eq,Bool.and_eq_true,decide_eq_true_eq]
 rw [UInt8.le_iff_toNat_le,UInt8.le_iff_toNat_le,← UInt8.toNat_inj]
 exact Iff.rfl
theorem OX {l:List UInt8} {k:Nat} (h:k<l.length):∃ (h':k<(BA l).size),((BA l)[k]'h').toNat=(l[k]'h).toNat:=⟨by rw [cT]; exact h,rfl⟩
def Pr (l:List UInt8) (n:Value):Prop:=∃ k:Nat,k≤l.length∧n = .int .i64 k∧∀ i,i<k→∀ c,l[i]? = some c→lE c=true
theorem qy (g:Nat) (σ:JS) (w:World) (h:fK w g σ) :
 Calls Tryz.prog 39 #[.pointer (some ⟨g,0,none⟩)] w (qz g (bC σ).2 (.int .i64 (bC σ).1) w):=by
 obtain⟨l,b⟩:=σ
 have y0:w.cell? ⟨g,0,none⟩=some (.string (BA l)):=Blk.cell h.at_ 0
 have hsz:(BA l).size=l.length:=cT l
 have hlen:l.length≤60000:=h.len
 have Hh:=hid h
 have HF:=hid (fun (W:World) (σ':JS) (v:Int) (hn:bC (l,b)=(v,σ')) (hj:AP W g σ') (hg:w.grownBy W (some g)) (hs:σ'.1.length≤60000)=>(show qz g (bC (l,b)).2 (.int .i64 (bC (l,b)).1) w (.returned (.int .i64 v)) W from by rw [hn]; exact⟨rfl,⟨hj,h.err.grow hg,hs⟩,hg⟩))
 clear h
 go_enter Tryz.func39,Tryz.ntmps39
 go_wp2
 go_loop [3] (fun n=>Pr l n) (fun n=>l.length - (intOf n).toNat)
 case atStart=>exact⟨0,by omega,rfl,fun i hi=>by omega⟩
 case round=>
  obtain⟨k,hk,rfl,hpre⟩:=hrel
  have Hpre:=hid hpre
  clear hpre
  by_cases hkn:k<l.length∧∀ c,l[k]? = some c→lE c=true
  · obtain⟨hkl,hc⟩:=hkn
    obtain⟨h',hbe⟩:=OX hkl
    have Ps:=(Dn _).1 (hc _ (List.getElem?_eq_getElem hkl))
    have OY:=hid (show ∀ i,i<k+1→∀ c,l[i]? = some c→lE c=true from fun i hi c hc'=>by
     by_cases e:i=k
     · subst e; exact hc c hc'
     · exact Hpre.out i (by omega) c hc')
    obtain⟨c,hcc⟩:∃ c:Nat,(BA l)[k].toNat=c:=⟨_,rfl⟩
    have Hi:=l9 h' hcc
    rw [← hbe,hcc] at Ps
    clear hc hbe hcc
    by_cases e45:c=45
    · subst e45
      clear Ps
      go_wp2
      exact⟨⟨k+1,by omega,by go_num,OY.out⟩,by simp only [intOf]; omega⟩
    · have e1:((c:Int) == 45)=false:=by simp; omega
      have e2:48≤c∧c≤57:=by omega
      obtain⟨e2,e3⟩:=e2
      clear Ps
      go_wp2
      exact⟨⟨k+1,by omega,by go_num,OY.out⟩,by simp only [intOf]; omega⟩
  · have hT:=hid (tK (p:=lE) l k hk Hpre.out (fun c hc=>by
     cases hn:lE c with
     | false=>rfl
     | true=>
      exfalso
      apply hkn
      obtain⟨hkl,hce⟩:=List.getElem?_eq_some_iff.1 hc
      exact⟨hkl,fun c' hc'=>by rw [hc] at hc'; injection hc' with hc'; rw [← hc']; exact hn⟩))
    have hx1:(BA l).extract 0 k=BA (l.take k):=Cc l k hk
    have hx2:(BA l).extract k (BA l).size=BA (l.drop k):=sD l k
    have htl:(l.take k).length≤60000:=by rw [List.length_take]; omega
    have hdl:(l.drop k).length≤60000:=by rw [List.length_drop]; omega
    have HA:=hid (KA (l.take k) htl w g Hh.out.err)
    have Hx1:=hid hx1
    have Hx2:=hid hx2
    clear hx1 hx2
    have fin:∀ (v:Int) (E:Value) (w1:World),Below w.heap.size w w1→((E = .nilIface∧atoiAll (l.take k) = .ok v)∨(∃ t p,E = .iface t p∧atoiAll (l.take k)=atoiAll []∧v=0)∨(∃ t p,E = .iface t p∧atoiAll (l.take k) = .range∧v=atoiSat (l.take k))) →
     ∃ W:Bool,bC (l,b)=(v,l.drop k,W)∧((E = .nilIface∧W=b)∨(∃ t p,E = .iface t p)∧W=true):=by
     intro v E w1 _ hE
     rcases hE with ⟨rfl,ha⟩ | ⟨t,p,rfl,ha,rfl⟩ | ⟨t,p,rfl,ha,rfl⟩
     · exact⟨b,IQ hT.out ha,.inl ⟨rfl,rfl⟩⟩
     · exact⟨true,AO hT.out ha,.inr ⟨⟨t,p,rfl⟩,rfl⟩⟩
     · exact⟨true,Cb hT.out ha,.inr ⟨⟨t,p,rfl⟩,rfl⟩⟩
    have Fin_:=hid fin
    clear fin
    have hend:(k=l.length∧((k:Int)<(l.length:Int))=False)∨∃ (h':k<(BA l).size),¬ ((BA l)[k].toNat=45∨(48≤(BA l)[k].toNat∧(BA l)[k].toNat≤57)):=by
     by_cases hkl:k<l.length
     · obtain⟨h',hbe⟩:=OX hkl
       refine .inr ⟨h',fun hn=>hkn ⟨hkl,fun c hc=>?_⟩⟩
       rw [List.getElem?_eq_getElem hkl] at hc
       injection hc with hc
       rw [hbe,hc] at hn
       exact (Dn c).2 hn
     · exact .inl ⟨by omega,by simp; omega⟩
    clear hkn
    have OZ:(k=l.length)∨∃ c:Nat,(k<l.length∧(∀ W,(Instr.index 9 (.string (BA l)) (.int .i64 (k:Int))).run Tryz.prog W = .ok (.int .u8 (c:Int)) W)∧((c:Int) == 45)=false∧(c<48∨57<c)):=by
     rcases hend with ⟨rfl,_⟩ | ⟨h',hno⟩
     · exact .inl rfl
     · exact .inr ⟨(BA l)[k].toNat,by omega,l9 h' rfl,by simp; omega,by omega⟩
    clear hend
    have QK:(l.length≤k)∨(∃ c:Nat,(k<l.length∧(∀ W,(Instr.index 9 (.string (BA l)) (.int .i64 (k:Int))).run Tryz.prog W = .ok (.int .u8 (c:Int)) W)∧((c:Int) == 45)=false∧c<48))∨(∃ c:Nat,(k<l.length∧(∀ W,(Instr.index 9 (.string (BA l)) (.int .i64 (k:Int))).run Tryz.prog W = .ok (.int .u8 (c:Int)) W)∧((c:Int) == 45)=false∧48≤c∧57<c)):=by
     rcases OZ with h1 | ⟨c,h1,h2,h3,h4⟩
     · exact .inl (by omega)
     · by_cases h5:c<48
       · exact .inr (.inl ⟨c,h1,h2,h3,h5⟩)
       · exact .inr (.inr ⟨c,h1,h2,h3,by omega,by omega⟩)
    clear OZ
    rcases QK with hkl | ⟨c,hkl,Hi,e1,e2⟩ | ⟨c,hkl,Hi,e1,e2,e3⟩
    all_goals
     go_wp2_with fail
     rw [Hx1.out]
     refine Calls.mono HA.out ?_
     rintro e w1 ⟨v,E,rfl,hb,hE⟩
     obtain⟨W,hn,hW⟩:=Fin_.out v E w1 hb hE
     have hJ1:AP w1 g (l,b):=Blk.below Hh.out.at_ hb Hh.out.at_.lt
     have hJ2:AP ((w1.setCell ⟨g,0,none⟩ (.string (BA (l.drop k)))).setCell ⟨g,1,none⟩ (.bool W)) g (l.drop k,W):=Blk.eq (Blk.set (Blk.set hJ1 0 _) 1 _) (by simp)
     have HE:=hid (HF.out _ _ _ hn hJ2 (aO (aO (aG g hb) 0 (.string (BA (l.drop k)))) 1 (.bool W)) hdl)
     rw [← Hx2.out,hsz] at HE
     have x0:w1.cell? ⟨g,0,none⟩=some (.string (BA l)):=Blk.cell hJ1 0
     have x1:w1.cell? ⟨g,1,none⟩=some (.bool b):=Blk.cell hJ1 1
     have z0:w1.frozen? ⟨g,0,none⟩=false:=Blk.thaw hJ1 0
     have z1:w1.frozen? ⟨g,1,none⟩=false:=Blk.thaw hJ1 1
     have hgl:=Blk.lt hJ1
     clear hJ1 hJ2 hn hb hE y0
     cases b <;> rcases hW with ⟨rfl,rfl⟩ | ⟨⟨t,p,rfl⟩,rfl⟩
     all_goals
      go_wp2_with fail
      go_region
      go_wp2
      go_ret
      exact HE.out.drew
end Go.Proofs.YtcpgnjmaampglaaGreatDoor
