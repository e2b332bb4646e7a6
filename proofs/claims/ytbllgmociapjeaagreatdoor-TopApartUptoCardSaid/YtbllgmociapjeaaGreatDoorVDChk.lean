/- Of the proof of a statement: DChk. -/
import Derived.Test.YtbllgmociapjeaaGreatDoorVGone
set_option linter.unusedVariables false
set_option linter.unusedSimpArgs false
set_option maxRecDepth 100000
set_option maxHeartbeats 8000000
/- A delta in memory; the walk of delta.Check. -/
namespace Go.Proofs.YtbllgmociapjeaaGreatDoor
open Go.Lib (hid)
open List (foldl_cons foldl_nil setIfInBounds_toArray set_cons_succ set_cons_zero)
open Go.RowKit
structure fP where
 aj:Option Addr
 nj:Nat
 cj:Nat
 an:Option Addr
 nn:Nat
 cn:Nat
 al:Option Addr
 nl:Nat
 cl:Nat
 agj:Option Addr
 ngj:Nat
 cgj:Nat
 agn:Option Addr
 ngn:Nat
 cgn:Nat
 agl:Option Addr
 ngl:Nat
 cgl:Nat
def dC (d:aW) (x:fP):Array Value:=#[.int .i64 d.from_,.int .i64 d.to_,.slice x.aj x.nj x.cj,.slice x.an x.nn x.cn,.slice x.al x.nl x.cl,.slice x.agj x.ngj x.cgj,.slice x.agn x.ngn x.cgn,.slice x.agl x.ngl x.cgl]
structure eF (w:World) (B:Nat) (d:aW) (x:fP):Prop where
 j:aU w B 5 x.aj x.nj (au aI d.jobs)
 n:aU w B 3 x.an x.nn (au aB d.nodes)
 l:aU w B 3 x.al x.nl (au av d.leases)
 gj:aU w B 1 x.agj x.ngj (au mD d.gj)
 gn:aU w B 1 x.agn x.ngn (au mD d.gn)
 gl:aU w B 1 x.agl x.ngl (au mD d.gl)
 lj:d.jobs.length=x.nj
 ln:d.nodes.length=x.nn
 ll:d.leases.length=x.nl
 lgj:d.gj.length=x.ngj
 lgn:d.gn.length=x.ngn
 lgl:d.gl.length=x.ngl
 bj:x.nj≤9223372036854775807
 bn:x.nn≤9223372036854775807
 bl:x.nl≤9223372036854775807
 bgj:x.ngj≤9223372036854775807
 bgn:x.ngn≤9223372036854775807
 bgl:x.ngl≤9223372036854775807
 oj:mB d.jobs
 on_:kN d.nodes
 ol:jv d.leases
 ogj:kP d.gj
 ogn:kP d.gn
 ogl:kP d.gl
theorem eF.below {w w':World} {B:Nat} {d:aW} {x:fP} (h:eF w B d x) (hb:Below B w w'):eF w' B d x:=
 { h with j:=h.j.below hb,n:=h.n.below hb,l:=h.l.below hb,gj:=h.gj.below hb,gn:=h.gn.below hb,gl:=h.gl.below hb }
theorem eF.more {w:World} {B B':Nat} {d:aW} {x:fP} (h:eF w B d x) (hB:B≤B'):eF w B' d x:=
 { h with j:=h.j.more hB,n:=h.n.more hB,l:=h.l.more hB,gj:=h.gj.more hB,gn:=h.gn.more hB,gl:=h.gl.more hB }
theorem eF.up {w w':World} {d:aW} {x:fP} (h:eF w w.heap.size d x) (hb:Below w.heap.size w w'):eF w' w'.heap.size d x:=(h.below hb).more hb.size
def dV (S:Nat) (x:fP) (e0 e1 e2 e3 e4 e5:Int):Nat→Value→World→Prop
 | 0,u,_=>u = .pointer (some ⟨S,2,none⟩)
 | 1,u,_=>u = .slice x.aj x.nj x.cj
 | 2,u,_=>u = .int .i64 e0
 | 3,u,_=>u = .pointer (some ⟨S,3,none⟩)
 | 4,u,_=>u = .slice x.an x.nn x.cn
 | 5,u,_=>u = .int .i64 e1
 | 6,u,_=>u = .pointer (some ⟨S,4,none⟩)
 | 7,u,_=>u = .slice x.al x.nl x.cl
 | 8,u,_=>u = .int .i64 e2
 | 9,u,_=>u = .pointer (some ⟨S,5,none⟩)
 | 10,u,_=>u = .slice x.agj x.ngj x.cgj
 | 11,u,_=>u = .pointer (some ⟨S,2,none⟩)
 | 12,u,_=>u = .slice x.aj x.nj x.cj
 | 13,u,_=>u = .int .i64 e3
 | 14,u,_=>u = .pointer (some ⟨S,6,none⟩)
 | 15,u,_=>u = .slice x.agn x.ngn x.cgn
 | 16,u,_=>u = .pointer (some ⟨S,3,none⟩)
 | 17,u,_=>u = .slice x.an x.nn x.cn
 | 18,u,_=>u = .int .i64 e4
 | 19,u,_=>u = .pointer (some ⟨S,7,none⟩)
 | 20,u,_=>u = .slice x.agl x.ngl x.cgl
 | 21,u,_=>u = .pointer (some ⟨S,4,none⟩)
 | 22,u,_=>u = .slice x.al x.nl x.cl
 | 23,u,_=>u = .int .i64 e5
 | 24,u,w=>∃ b,u = .slice (some ⟨b,0,none⟩) 6 6∧b<w.heap.size∧fL w b 0 [.int .i64 e0,.int .i64 e1,.int .i64 e2,.int .i64 e3,.int .i64 e4,.int .i64 e5]
 | 25,u,_=>u = .int .i64 6
 | _,u,_=>u = .int .i64 0
theorem DG (S:Nat) (x:fP) (e0 e1 e2 e3 e4 e5:Int) (i:Nat) (u:Value) (w w':World) (h:dV S x e0 e1 e2 e3 e4 e5 i u w) (hw:Ext w w'):dV S x e0 e1 e2 e3 e4 e5 i u w':=by
 unfold dV at *
 split at h
 case h_25=>obtain⟨b,e,hb,h0⟩:=h; exact⟨b,e,Nat.lt_of_lt_of_le hb hw.size,h0.below hw hb⟩
 all_goals exact h
def uI (d:aW) (w:World) (e:Ending) (w':World):Prop:=e = .returned (.int .i64 (gJ d))∧Below w.heap.size w w'
theorem uI.mk' {d:aW} {w w':World} {E:Int} (h:gJ d=E) (hb:Below w.heap.size w w'):uI d w (.returned (.int .i64 E)) w':=⟨by rw [h],hb⟩
theorem yK {d:aW} (h:lI d=false):gJ d=1:=by unfold gJ; rw [if_pos h]
theorem uT {d:aW} (h:lI d=true) (h2:mE d=false):gJ d=2:=by unfold gJ; rw [if_neg (by rw [h]; simp),if_pos h2]
theorem CZ {d:aW} (h:lI d=true) (h2:mE d=true):gJ d=iO (xM d):=by unfold gJ; rw [if_neg (by rw [h]; simp),if_neg (by rw [h2]; simp)]
def mx (a b:Int):Int:=if a<b then b else a
theorem Fw (ats:Array TypeId) (t:TypeId) (a b:Int) (W:World):(Builtin.max_ ats t #[.int .i64 a,.int .i64 b]).run Tryz.prog W = .ok (.int .i64 (mx a b)) W:=rfl
theorem Fx (ats:Array TypeId) (t:TypeId) (a b c d:Int) (W:World):(Builtin.max_ ats t #[.int .i64 a,.int .i64 b,.int .i64 c,.int .i64 d]).run Tryz.prog W = .ok (.int .i64 (mx (mx (mx a b) c) d)) W:=rfl
theorem tG {a b n:Int}:n<mx a b↔n<a∨n<b:=by unfold mx; split <;> omega
theorem Bl (d:aW) (x:fP) (w:World) (hD:eF w w.heap.size d x) (hT:Tabs w) (hf1 : -9223372036854775808≤d.from_) (hf2:d.from_≤9223372036854775807) :
 Calls Tryz.prog 173 #[.agg (dC d x)] w (uI d w):=by
 have hb1:Below w.heap.size w (w.alloc (.cells (dC d x) 113)):=(Below.refl _ _).alloc (Nat.le_refl _) _
 have hB1:Blk (w.alloc (.cells (dC d x) 113)) w.heap.size 113 (dC d x):=heap_alloc_new w _
 have HD:=hid (hD.up hb1)
 have HT:=hid (hT.below hb1)
 have Hb1:=hid hb1
 have HB1:=hid hB1
 have hfin:=hid (fun (E:Int) (h:gJ d=E) w'=>uI.mk' (w:=w) (w':=w') h)
 have hlj:=hD.lj
 have hln:=hD.ln
 have hll:=hD.ll
 have hlgj:=hD.lgj
 have hlgn:=hD.lgn
 have hlgl:=hD.lgl
 have hbj:=hD.bj
 have hbn:=hD.bn
 have hbl:=hD.bl
 have hbgj:=hD.bgj
 have hbgn:=hD.bgn
 have hbgl:=hD.bgl
 clear hb1 hB1 hD hT
 unfold dC at *
 go_enter Tryz.func173,Tryz.ntmps173
 go_wp2_with fail
 refine Calls.mono (nW _ _ _ _) ?_
 rintro e w0 ⟨rfl,rfl⟩
 cases hr:ranged d.from_ 0 1099511627776
 · have hend:=hid (hfin.out 1 (yK (by unfold lI; rw [hr]; rfl)) _ Hb1.out)
   go_wp2
   go_ret
   exact hend.out
 have hr1:=aL.1 hr
 go_wp2_with fail
 refine Calls.mono (nW _ _ _ _) ?_
 rintro e w0 ⟨rfl,rfl⟩
 cases hr2:ranged d.to_ (d.from_+1) 1099511627776
 · have hend:=hid (hfin.out 1 (yK (by
    have:=gT.1 hr2
    unfold lI
    rw [hr]
    by_cases h:d.from_<d.to_
    · rw [decide_eq_true h,decide_eq_false (by omega)]; rfl
    · rw [decide_eq_false h]; rfl)) _ Hb1.out)
   go_wp2
   go_ret
   exact hend.out
 have hr3:=aL.1 hr2
 have Fy:=hid (show lI d=true by unfold lI; rw [hr,decide_eq_true (by omega),decide_eq_true (by omega)]; rfl)
 clear hr hr2
 have hm2:=fun ats t a b W=>Fw ats t a b W
 have hm4:=fun ats t a b c d W=>Fx ats t a b c d W
 by_cases s1:x.nj≤40∧x.nl≤40∧x.ngj≤40∧x.ngl≤40
 rotate_left
 · have hend:=hid (hfin.out 2 (uT Fy.out (by unfold mE; rw [hlj,hll,hlgj,hlgl]; by_cases q1:x.nj≤40 <;> by_cases q2:x.nl≤40 <;> by_cases q3:x.ngj≤40 <;> by_cases q4:x.ngl≤40 <;> simp [q1,q2,q3,q4] <;> omega)) _ Hb1.out)
   have d1:decide ((40:Int)<mx (mx (mx (x.nj:Int) (x.nl:Int)) (x.ngj:Int)) (x.ngl:Int))=true:=decide_eq_true (by rw [tG,tG,tG]; omega)
   go_wp2
   go_ret
   exact hend.out
 have d1:decide ((40:Int)<mx (mx (mx (x.nj:Int) (x.nl:Int)) (x.ngj:Int)) (x.ngl:Int))=false:=decide_eq_false (by rw [tG,tG,tG]; omega)
 by_cases s2:x.nn≤20∧x.ngn≤20
 rotate_left
 · have hend:=hid (hfin.out 2 (uT Fy.out (by unfold mE; rw [hln,hlgn]; by_cases q1:x.nn≤20 <;> by_cases q2:x.ngn≤20 <;> simp [q1,q2] <;> omega)) _ Hb1.out)
   have d2:decide ((20:Int)<mx (x.nn:Int) (x.ngn:Int))=true:=decide_eq_true (by rw [tG]; omega)
   go_wp2
   go_ret
   exact hend.out
 have d2:decide ((20:Int)<mx (x.nn:Int) (x.ngn:Int))=false:=decide_eq_false (by rw [tG]; omega)
 have Kc:=hid (CZ Fy.out (show mE d=true by unfold mE; rw [hlj,hll,hlgj,hlgl,hln,hlgn]; simp; omega))
 go_wp2_with fail
 clear d1 d2 hm2 hm4 s1 s2
 generalize hw0:w.alloc (.cells #[.int .i64 d.from_,.int .i64 d.to_,.slice x.aj x.nj x.cj,.slice x.an x.nn x.cn,.slice x.al x.nl x.cl,.slice x.agj x.ngj x.cgj,.slice x.agn x.ngn x.cgn,.slice x.agl x.ngl x.cgl] 113)=w0 at HD HT Hb1 HB1 ⊢
 clear hw0
 have g2:=HB1.out.cell 2
 have g3:=HB1.out.cell 3
 have g4:=HB1.out.cell 4
 have g5:=HB1.out.cell 5
 have g6:=HB1.out.cell 6
 have g7:=HB1.out.cell 7
 simp only [List.getElem?_toArray,List.getElem?_cons_succ,List.getElem?_cons_zero] at g2 g3 g4 g5 g6 g7
 obtain⟨e0,he0⟩:∃ e,bT fB aC.name d.jobs=e:=⟨_,rfl⟩
 have HE0:=hid he0
 obtain⟨e1,he1⟩:∃ e,bT dO aA.name d.nodes=e:=⟨_,rfl⟩
 have HE1:=hid he1
 obtain⟨e2,he2⟩:∃ e,bT lsE ak.job d.leases=e:=⟨_,rfl⟩
 have HE2:=hid he2
 obtain⟨e3,he3⟩:∃ e,nJ (fun s=>(dA d.jobs s).isSome) d.gj=e:=⟨_,rfl⟩
 have HE3:=hid he3
 obtain⟨e4,he4⟩:∃ e,nJ (fun s=>(dh d.nodes s).isSome) d.gn=e:=⟨_,rfl⟩
 have HE4:=hid he4
 obtain⟨e5,he5⟩:∃ e,nJ (fun s=>(eB d.leases s).isSome) d.gl=e:=⟨_,rfl⟩
 have HE5:=hid he5
 have zU:=hid (show gJ d=iO [e0,e1,e2,e3,e4,e5] by rw [Kc.out]; unfold xM; rw [he0,he1,he2,he3,he4,he5])
 clear he0 he1 he2 he3 he4 he5 Kc
 refine kJ (n:=78) (by kernel_rfl) (dV w.heap.size x e0 e1 e2 e3 e4 e5) (by decide +kernel) rfl (DG _ _ _ _ _ _ _ _) ?_ ?_
 · refine⟨?_,?_,?_,?_,?_,?_,?_,?_,?_,?_,?_,?_,?_,?_,?_,?_,?_,?_,?_,?_,?_,?_,?_,?_,?_,?_,?_,trivial⟩
   all_goals (intro a wx hle hkeep fF; refine⟨rfl,?_⟩)
   · have h1:=hkeep 1 _ rfl (by decide +kernel)
     simp [go_sem,Oper.wp,execOp,Act.eval,h1]
     exact⟨_,rfl,Below.refl _ _,rfl⟩
   · obtain⟨u1,h1,r1⟩:=fF 0 _ 44 rfl rfl (by decide +kernel)
     replace r1:u1=_:=r1
     subst r1
     have hc:=eX g2 hle
     simp [go_sem,Oper.wp,execOp,Act.eval,h1,hc]
     exact⟨_,rfl,Below.refl _ _,rfl⟩
   · obtain⟨u1,h1,r1⟩:=fF 1 _ 45 rfl rfl (by decide +kernel)
     replace r1:u1=_:=r1
     subst r1
     simp [go_sem,Oper.wp,execOp,Act.eval,h1]
     have hD:=(HD.out.below hle).more hle.size
     have hT:=HT.out.below hle
     refine (tH d.jobs x.aj x.nj x.cj wx (hD.j) hD.lj hD.bj hD.oj hT).mono ?_
     rintro e w' ⟨rfl,hb⟩
     exact⟨_,rfl,hb,congrArg (Value.int .i64) HE0.out⟩
   · have h1:=hkeep 1 _ rfl (by decide +kernel)
     simp [go_sem,Oper.wp,execOp,Act.eval,h1]
     exact⟨_,rfl,Below.refl _ _,rfl⟩
   · obtain⟨u1,h1,r1⟩:=fF 3 _ 47 rfl rfl (by decide +kernel)
     replace r1:u1=_:=r1
     subst r1
     have hc:=eX g3 hle
     simp [go_sem,Oper.wp,execOp,Act.eval,h1,hc]
     exact⟨_,rfl,Below.refl _ _,rfl⟩
   · obtain⟨u1,h1,r1⟩:=fF 4 _ 48 rfl rfl (by decide +kernel)
     replace r1:u1=_:=r1
     subst r1
     simp [go_sem,Oper.wp,execOp,Act.eval,h1]
     have hD:=(HD.out.below hle).more hle.size
     have hT:=HT.out.below hle
     refine (qN d.nodes x.an x.nn x.cn wx (hD.n) hD.ln hD.bn hD.on_ hT).mono ?_
     rintro e w' ⟨rfl,hb⟩
     exact⟨_,rfl,hb,congrArg (Value.int .i64) HE1.out⟩
   · have h1:=hkeep 1 _ rfl (by decide +kernel)
     simp [go_sem,Oper.wp,execOp,Act.eval,h1]
     exact⟨_,rfl,Below.refl _ _,rfl⟩
   · obtain⟨u1,h1,r1⟩:=fF 6 _ 50 rfl rfl (by decide +kernel)
     replace r1:u1=_:=r1
     subst r1
     have hc:=eX g4 hle
     simp [go_sem,Oper.wp,execOp,Act.eval,h1,hc]
     exact⟨_,rfl,Below.refl _ _,rfl⟩
   · obtain⟨u1,h1,r1⟩:=fF 7 _ 51 rfl rfl (by decide +kernel)
     replace r1:u1=_:=r1
     subst r1
     simp [go_sem,Oper.wp,execOp,Act.eval,h1]
     have hD:=(HD.out.below hle).more hle.size
     have hT:=HT.out.below hle
     refine (uU d.leases x.al x.nl x.cl wx (hD.l) hD.ll hD.bl hD.ol hT).mono ?_
     rintro e w' ⟨rfl,hb⟩
     exact⟨_,rfl,hb,congrArg (Value.int .i64) HE2.out⟩
   · have h1:=hkeep 1 _ rfl (by decide +kernel)
     simp [go_sem,Oper.wp,execOp,Act.eval,h1]
     exact⟨_,rfl,Below.refl _ _,rfl⟩
   · obtain⟨u1,h1,r1⟩:=fF 9 _ 53 rfl rfl (by decide +kernel)
     replace r1:u1=_:=r1
     subst r1
     have hc:=eX g5 hle
     simp [go_sem,Oper.wp,execOp,Act.eval,h1,hc]
     exact⟨_,rfl,Below.refl _ _,rfl⟩
   · have h1:=hkeep 1 _ rfl (by decide +kernel)
     simp [go_sem,Oper.wp,execOp,Act.eval,h1]
     exact⟨_,rfl,Below.refl _ _,rfl⟩
   · obtain⟨u1,h1,r1⟩:=fF 11 _ 55 rfl rfl (by decide +kernel)
     replace r1:u1=_:=r1
     subst r1
     have hc:=eX g2 hle
     simp [go_sem,Oper.wp,execOp,Act.eval,h1,hc]
     exact⟨_,rfl,Below.refl _ _,rfl⟩
   · obtain⟨u1,h1,r1⟩:=fF 10 _ 54 rfl rfl (by decide +kernel)
     replace r1:u1=_:=r1
     subst r1
     obtain⟨u2,h2,rfl⟩:=fF 12 _ 56 rfl rfl (by decide +kernel)
     simp [go_sem,Oper.wp,execOp,Act.eval,h1,h2]
     have hD:=(HD.out.below hle).more hle.size
     have hT:=HT.out.below hle
     refine (zV d.gj d.jobs x.agj x.aj x.ngj x.cgj x.nj x.cj wx hD.gj hD.lgj hD.bgj hD.ogj hD.j hD.lj hD.bj hT).mono ?_
     rintro e w' ⟨rfl,hb⟩
     exact⟨_,rfl,hb,congrArg (Value.int .i64) HE3.out⟩
   · have h1:=hkeep 1 _ rfl (by decide +kernel)
     simp [go_sem,Oper.wp,execOp,Act.eval,h1]
     exact⟨_,rfl,Below.refl _ _,rfl⟩
   · obtain⟨u1,h1,r1⟩:=fF 14 _ 58 rfl rfl (by decide +kernel)
     replace r1:u1=_:=r1
     subst r1
     have hc:=eX g6 hle
     simp [go_sem,Oper.wp,execOp,Act.eval,h1,hc]
     exact⟨_,rfl,Below.refl _ _,rfl⟩
   · have h1:=hkeep 1 _ rfl (by decide +kernel)
     simp [go_sem,Oper.wp,execOp,Act.eval,h1]
     exact⟨_,rfl,Below.refl _ _,rfl⟩
   · obtain⟨u1,h1,r1⟩:=fF 16 _ 60 rfl rfl (by decide +kernel)
     replace r1:u1=_:=r1
     subst r1
     have hc:=eX g3 hle
     simp [go_sem,Oper.wp,execOp,Act.eval,h1,hc]
     exact⟨_,rfl,Below.refl _ _,rfl⟩
   · obtain⟨u1,h1,r1⟩:=fF 15 _ 59 rfl rfl (by decide +kernel)
     replace r1:u1=_:=r1
     subst r1
     obtain⟨u2,h2,rfl⟩:=fF 17 _ 61 rfl rfl (by decide +kernel)
     simp [go_sem,Oper.wp,execOp,Act.eval,h1,h2]
     have hD:=(HD.out.below hle).more hle.size
     have hT:=HT.out.below hle
     refine (yL d.gn d.nodes x.agn x.an x.ngn x.cgn x.nn x.cn wx hD.gn hD.lgn hD.bgn hD.ogn hD.n hD.ln hD.bn hT).mono ?_
     rintro e w' ⟨rfl,hb⟩
     exact⟨_,rfl,hb,congrArg (Value.int .i64) HE4.out⟩
   · have h1:=hkeep 1 _ rfl (by decide +kernel)
     simp [go_sem,Oper.wp,execOp,Act.eval,h1]
     exact⟨_,rfl,Below.refl _ _,rfl⟩
   · obtain⟨u1,h1,r1⟩:=fF 19 _ 63 rfl rfl (by decide +kernel)
     replace r1:u1=_:=r1
     subst r1
     have hc:=eX g7 hle
     simp [go_sem,Oper.wp,execOp,Act.eval,h1,hc]
     exact⟨_,rfl,Below.refl _ _,rfl⟩
   · have h1:=hkeep 1 _ rfl (by decide +kernel)
     simp [go_sem,Oper.wp,execOp,Act.eval,h1]
     exact⟨_,rfl,Below.refl _ _,rfl⟩
   · obtain⟨u1,h1,r1⟩:=fF 21 _ 65 rfl rfl (by decide +kernel)
     replace r1:u1=_:=r1
     subst r1
     have hc:=eX g4 hle
     simp [go_sem,Oper.wp,execOp,Act.eval,h1,hc]
     exact⟨_,rfl,Below.refl _ _,rfl⟩
   · obtain⟨u1,h1,r1⟩:=fF 20 _ 64 rfl rfl (by decide +kernel)
     replace r1:u1=_:=r1
     subst r1
     obtain⟨u2,h2,rfl⟩:=fF 22 _ 66 rfl rfl (by decide +kernel)
     simp [go_sem,Oper.wp,execOp,Act.eval,h1,h2]
     have hD:=(HD.out.below hle).more hle.size
     have hT:=HT.out.below hle
     refine (w9 d.gl d.leases x.agl x.al x.ngl x.cgl x.nl x.cl wx hD.gl hD.lgl hD.bgl hD.ogl hD.l hD.ll hD.bl hT).mono ?_
     rintro e w' ⟨rfl,hb⟩
     exact⟨_,rfl,hb,congrArg (Value.int .i64) HE5.out⟩
   · obtain⟨u1,h1,r1⟩:=fF 2 _ 46 rfl rfl (by decide +kernel)
     replace r1:u1=_:=r1
     subst r1
     obtain⟨u2,h2,rfl⟩:=fF 5 _ 49 rfl rfl (by decide +kernel)
     obtain⟨u3,h3,rfl⟩:=fF 8 _ 52 rfl rfl (by decide +kernel)
     obtain⟨u4,h4,rfl⟩:=fF 13 _ 57 rfl rfl (by decide +kernel)
     obtain⟨u5,h5,rfl⟩:=fF 18 _ 62 rfl rfl (by decide +kernel)
     obtain⟨u6,h6,rfl⟩:=fF 23 _ 67 rfl rfl (by decide +kernel)
     simp [go_sem,Oper.wp,execOp,Act.eval,h1,h2,h3,h4,h5,h6]
     exact⟨_,rfl,(Below.refl _ _).alloc (Nat.le_refl _) _,wx.heap.size,rfl,by simp,fL.new wx _ _⟩
   · obtain⟨u1,h1,b,e1,-,-⟩:=fF 24 _ 68 rfl rfl (by decide +kernel)
     subst e1
     simp [go_sem,Oper.wp,execOp,Act.eval,h1]
     exact⟨_,rfl,Below.refl _ _,rfl⟩
   · simp [go_sem,Oper.wp,execOp,Act.eval]
     exact⟨_,rfl,Below.refl _ _,rfl⟩
 · intro a wx hd
   obtain⟨f,hfe,hf⟩:=hd.frame' [44,45,46,47,48,49,50,51,52,53,54,55,56,57,58,59,60,61,62,63,64,65,66,67,68,69,70] rfl
   obtain⟨b,r68,hbl,hrow⟩:∃ b,f 68=_∧_:=hf 24 _ 68 rfl rfl
   have r69:f 69=_:=hf 25 _ 69 rfl rfl
   have r70:f 70=_:=hf 26 _ 70 rfl rfl
   have Hle:=hid (Hb1.out.trans (hd.le.mono Hb1.out.size))
   clear hd hf
   subst hfe
   simp only [foldl_cons,foldl_nil,setIfInBounds_toArray,set_cons_succ,set_cons_zero,r68,r69,r70]
   clear r68 r69 r70
   obtain⟨es,hes⟩:∃ es,es=[e0,e1,e2,e3,e4,e5]:=⟨_,rfl⟩
   have hrow2:fL wx b 0 (es.map (Value.int .i64)):=by rw [hes]; exact hrow
   have hlen:es.length=6:=by rw [hes]; rfl
   have eM:=hid hrow2
   have HA:=hid (show gJ d=iO es by rw [hes]; exact zU.out)
   clear hrow hrow2 hes zU HE0 HE1 HE2 HE3 HE4 HE5 g2 g3 g4 g5 g6 g7
   go_wp2_with fail
   go_loop [2,4,70] (fun _ _ i=>∃ k:Nat,k≤6∧i = .int .i64 k∧iO (es.drop k)=iO es) (fun _ _ i=>6 - (intOf i).toNat)
   case atStart=>exact⟨0,by omega,rfl,rfl⟩
   case round=>
    obtain⟨k,hk,rfl,hfe⟩:=hrel
    have Hfe:=hid hfe
    clear hfe
    by_cases hlt:k<6
    · obtain⟨e,he⟩:∃ e,es[k]? = some e:=⟨_,List.getElem?_eq_getElem (by omega)⟩
      have c0:wx.cell? ⟨b,0+k,none⟩=some (.int .i64 e):=eM.out k _ (by rw [List.getElem?_map,he]; rfl)
      rw [Nat.zero_add] at c0
      have hdc:=hid (drop_cons he)
      clear he
      by_cases h0:e=0
      · have hn:=hid (show iO (es.drop (k+1))=iO es by rw [← Hfe.out,hdc.out,tI h0])
        subst h0
        go_wp2
        go_round
        case rel=>exact⟨k+1,by omega,by go_num,hn.out⟩
        case measure=>simp [intOf]; omega
      · have hend:=hid (hfin.out e (by rw [HA.out,← Hfe.out,hdc.out,tJ h0]) _ Hle.out)
        have e1':(e == 0)=false:=beq_eq_false_iff_ne.2 h0
        have e2':(e != 0)=true:=bne_iff_ne.2 h0
        go_wp2
        go_ret
        exact hend.out
    · have hend:=hid (hfin.out 0 (by rw [HA.out,← Hfe.out,List.drop_of_length_le (by omega)]; rfl) _ Hle.out)
      go_wp2
      go_ret
      exact hend.out
end Go.Proofs.YtbllgmociapjeaaGreatDoor
