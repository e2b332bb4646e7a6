/- Of the proof of a statement: DChk. -/
import Derived.Test.YtoeejfhdjmkpcaaGreatDoorTGone
import Derived.Test.YtoeejfhdjmkpcaaGreatDoorTRowsC
set_option linter.unusedVariables false
set_option linter.unusedSimpArgs false
set_option maxRecDepth 100000
set_option maxHeartbeats 8000000
/- A delta in memory; the walk of delta.Check. -/
namespace Go.Proofs.YtoeejfhdjmkpcaaGreatDoor
open Go.Lib (hid)
open List (foldl_cons foldl_nil setIfInBounds_toArray set_cons_succ set_cons_zero)
open Go.RowKit
structure fH where
 aj:Option Addr
 nj:Nat
 cj:Nat
 an:Option Addr
 nn:Nat
 cn:Nat
 al:Option Addr
 nl:Nat
 cl:Nat
 agj:Option Addr
 ngj:Nat
 cgj:Nat
 agn:Option Addr
 ngn:Nat
 cgn:Nat
 agl:Option Addr
 ngl:Nat
 cgl:Nat
def dC (d:aX) (x:fH):Array Value:=#[.int .i64 d.from_,.int .i64 d.to_,.slice x.aj x.nj x.cj,.slice x.an x.nn x.cn,.slice x.al x.nl x.cl,.slice x.agj x.ngj x.cgj,.slice x.agn x.ngn x.cgn,.slice x.agl x.ngl x.cgl]
structure dQ (w:World) (B:Nat) (d:aX) (x:fH):Prop where
 j:aW w B 5 x.aj x.nj (au aL d.jobs)
 n:aW w B 3 x.an x.nn (au aC d.nodes)
 l:aW w B 3 x.al x.nl (au av d.leases)
 gj:aW w B 1 x.agj x.ngj (au lC d.gj)
 gn:aW w B 1 x.agn x.ngn (au lC d.gn)
 gl:aW w B 1 x.agl x.ngl (au lC d.gl)
 lj:d.jobs.length=x.nj
 ln:d.nodes.length=x.nn
 ll:d.leases.length=x.nl
 lgj:d.gj.length=x.ngj
 lgn:d.gn.length=x.ngn
 lgl:d.gl.length=x.ngl
 bj:x.nj≤9223372036854775807
 bn:x.nn≤9223372036854775807
 bl:x.nl≤9223372036854775807
 bgj:x.ngj≤9223372036854775807
 bgn:x.ngn≤9223372036854775807
 bgl:x.ngl≤9223372036854775807
 oj:lB d.jobs
 on_:jR d.nodes
 ol:iS d.leases
 ogj:jT d.gj
 ogn:jT d.gn
 ogl:jT d.gl
theorem dQ.below {w w':World} {B:Nat} {d:aX} {x:fH} (h:dQ w B d x) (hb:Below B w w'):dQ w' B d x:=
 { h with j:=h.j.below hb,n:=h.n.below hb,l:=h.l.below hb,gj:=h.gj.below hb,gn:=h.gn.below hb,gl:=h.gl.below hb }
theorem dQ.more {w:World} {B B':Nat} {d:aX} {x:fH} (h:dQ w B d x) (hB:B≤B'):dQ w B' d x:=
 { h with j:=h.j.more hB,n:=h.n.more hB,l:=h.l.more hB,gj:=h.gj.more hB,gn:=h.gn.more hB,gl:=h.gl.more hB }
theorem dQ.up {w w':World} {d:aX} {x:fH} (h:dQ w w.heap.size d x) (hb:Below w.heap.size w w'):dQ w' w'.heap.size d x:=(h.below hb).more hb.size
def dV (S:Nat) (x:fH) (e0 e1 e2 e3 e4 e5:Int):Nat→Value→World→Prop
 | 0,u,_=>u = .pointer (some ⟨S,2,none⟩)
 | 1,u,_=>u = .slice x.aj x.nj x.cj
 | 2,u,_=>u = .int .i64 e0
 | 3,u,_=>u = .pointer (some ⟨S,3,none⟩)
 | 4,u,_=>u = .slice x.an x.nn x.cn
 | 5,u,_=>u = .int .i64 e1
 | 6,u,_=>u = .pointer (some ⟨S,4,none⟩)
 | 7,u,_=>u = .slice x.al x.nl x.cl
 | 8,u,_=>u = .int .i64 e2
 | 9,u,_=>u = .pointer (some ⟨S,5,none⟩)
 | 10,u,_=>u = .slice x.agj x.ngj x.cgj
 | 11,u,_=>u = .pointer (some ⟨S,2,none⟩)
 | 12,u,_=>u = .slice x.aj x.nj x.cj
 | 13,u,_=>u = .int .i64 e3
 | 14,u,_=>u = .pointer (some ⟨S,6,none⟩)
 | 15,u,_=>u = .slice x.agn x.ngn x.cgn
 | 16,u,_=>u = .pointer (some ⟨S,3,none⟩)
 | 17,u,_=>u = .slice x.an x.nn x.cn
 | 18,u,_=>u = .int .i64 e4
 | 19,u,_=>u = .pointer (some ⟨S,7,none⟩)
 | 20,u,_=>u = .slice x.agl x.ngl x.cgl
 | 21,u,_=>u = .pointer (some ⟨S,4,none⟩)
 | 22,u,_=>u = .slice x.al x.nl x.cl
 | 23,u,_=>u = .int .i64 e5
 | 24,u,w=>∃ b,u = .slice (some ⟨b,0,none⟩) 6 6∧b<w.heap.size∧fD w b 0 [.int .i64 e0,.int .i64 e1,.int .i64 e2,.int .i64 e3,.int .i64 e4,.int .i64 e5]
 | 25,u,_=>u = .int .i64 6
 | _,u,_=>u = .int .i64 0
theorem BT (S:Nat) (x:fH) (e0 e1 e2 e3 e4 e5:Int) (i:Nat) (u:Value) (w w':World) (h:dV S x e0 e1 e2 e3 e4 e5 i u w) (hw:Ext w w'):dV S x e0 e1 e2 e3 e4 e5 i u w':=by
 unfold dV at *
 split at h
 case h_25=>obtain⟨b,e,hb,h0⟩:=h; exact⟨b,e,Nat.lt_of_lt_of_le hb hw.size,h0.below hw hb⟩
 all_goals exact h
def tF (d:aX) (w:World) (e:Ending) (w':World):Prop:=e = .returned (.int .i64 (gA d))∧Below w.heap.size w w'
theorem tF.mk' {d:aX} {w w':World} {E:Int} (h:gA d=E) (hb:Below w.heap.size w w'):tF d w (.returned (.int .i64 E)) w':=⟨by rw [h],hb⟩
theorem wS {d:aX} (h:kF d=false):gA d=1:=by unfold gA; rw [if_pos h]
theorem tG {d:aX} (h:kF d=true) (h2:lD d=false):gA d=2:=by unfold gA; rw [if_neg (by rw [h]; simp),if_pos h2]
theorem Bq {d:aX} (h:kF d=true) (h2:lD d=true):gA d=iy (vN d):=by unfold gA; rw [if_neg (by rw [h]; simp),if_neg (by rw [h2]; simp)]
def mx (a b:Int):Int:=if a<b then b else a
theorem Dx (ats:Array TypeId) (t:TypeId) (a b:Int) (W:World):(Builtin.max_ ats t #[.int .i64 a,.int .i64 b]).run Tryz.prog W = .ok (.int .i64 (mx a b)) W:=rfl
theorem Dy (ats:Array TypeId) (t:TypeId) (a b c d:Int) (W:World):(Builtin.max_ ats t #[.int .i64 a,.int .i64 b,.int .i64 c,.int .i64 d]).run Tryz.prog W = .ok (.int .i64 (mx (mx (mx a b) c) d)) W:=rfl
theorem rO {a b n:Int}:n<mx a b↔n<a∨n<b:=by unfold mx; split <;> omega
theorem Ag (d:aX) (x:fH) (w:World) (hD:dQ w w.heap.size d x) (hT:Tabs w) (hf1 : -9223372036854775808≤d.from_) (hf2:d.from_≤9223372036854775807) :
 Calls Tryz.prog 58 #[.agg (dC d x)] w (tF d w):=by
 have hb1:Below w.heap.size w (w.alloc (.cells (dC d x) 45)):=(Below.refl _ _).alloc (Nat.le_refl _) _
 have hB1:Blk (w.alloc (.cells (dC d x) 45)) w.heap.size 45 (dC d x):=heap_alloc_new w _
 have HD:=hid (hD.up hb1)
 have HT:=hid (hT.below hb1)
 have Hb1:=hid hb1
 have HB1:=hid hB1
 have hfin:=hid (fun (E:Int) (h:gA d=E) w'=>tF.mk' (w:=w) (w':=w') h)
 have hlj:=hD.lj
 have hln:=hD.ln
 have hll:=hD.ll
 have hlgj:=hD.lgj
 have hlgn:=hD.lgn
 have hlgl:=hD.lgl
 have hbj:=hD.bj
 have hbn:=hD.bn
 have hbl:=hD.bl
 have hbgj:=hD.bgj
 have hbgn:=hD.bgn
 have hbgl:=hD.bgl
 clear hb1 hB1 hD hT
 unfold dC at *
 go_enter Tryz.func58,Tryz.ntmps58
 go_wp2_with fail
 refine Calls.mono (mT _ _ _ _) ?_
 rintro e w0 ⟨rfl,rfl⟩
 cases hr:ranged d.from_ 0 1099511627776
 · have hend:=hid (hfin.out 1 (wS (by unfold kF; rw [hr]; rfl)) _ Hb1.out)
   go_wp2
   go_ret
   exact hend.out
 have hr1:=bB.1 hr
 go_wp2_with fail
 refine Calls.mono (mT _ _ _ _) ?_
 rintro e w0 ⟨rfl,rfl⟩
 cases hr2:ranged d.to_ (d.from_+1) 1099511627776
 · have hend:=hid (hfin.out 1 (wS (by
    have:=gK.1 hr2
    unfold kF
    rw [hr]
    by_cases h:d.from_<d.to_
    · rw [decide_eq_true h,decide_eq_false (by omega)]; rfl
    · rw [decide_eq_false h]; rfl)) _ Hb1.out)
   go_wp2
   go_ret
   exact hend.out
 have hr3:=bB.1 hr2
 have Dz:=hid (show kF d=true by unfold kF; rw [hr,decide_eq_true (by omega),decide_eq_true (by omega)]; rfl)
 clear hr hr2
 have hm2:=fun ats t a b W=>Dx ats t a b W
 have hm4:=fun ats t a b c d W=>Dy ats t a b c d W
 by_cases s1:x.nj≤40∧x.nl≤40∧x.ngj≤40∧x.ngl≤40
 rotate_left
 · have hend:=hid (hfin.out 2 (tG Dz.out (by unfold lD; rw [hlj,hll,hlgj,hlgl]; by_cases q1:x.nj≤40 <;> by_cases q2:x.nl≤40 <;> by_cases q3:x.ngj≤40 <;> by_cases q4:x.ngl≤40 <;> simp [q1,q2,q3,q4] <;> omega)) _ Hb1.out)
   have d1:decide ((40:Int)<mx (mx (mx (x.nj:Int) (x.nl:Int)) (x.ngj:Int)) (x.ngl:Int))=true:=decide_eq_true (by rw [rO,rO,rO]; omega)
   go_wp2
   go_ret
   exact hend.out
 have d1:decide ((40:Int)<mx (mx (mx (x.nj:Int) (x.nl:Int)) (x.ngj:Int)) (x.ngl:Int))=false:=decide_eq_false (by rw [rO,rO,rO]; omega)
 by_cases s2:x.nn≤20∧x.ngn≤20
 rotate_left
 · have hend:=hid (hfin.out 2 (tG Dz.out (by unfold lD; rw [hln,hlgn]; by_cases q1:x.nn≤20 <;> by_cases q2:x.ngn≤20 <;> simp [q1,q2] <;> omega)) _ Hb1.out)
   have d2:decide ((20:Int)<mx (x.nn:Int) (x.ngn:Int))=true:=decide_eq_true (by rw [rO]; omega)
   go_wp2
   go_ret
   exact hend.out
 have d2:decide ((20:Int)<mx (x.nn:Int) (x.ngn:Int))=false:=decide_eq_false (by rw [rO]; omega)
 have GT:=hid (Bq Dz.out (show lD d=true by unfold lD; rw [hlj,hll,hlgj,hlgl,hln,hlgn]; simp; omega))
 go_wp2_with fail
 clear d1 d2 hm2 hm4 s1 s2
 generalize hw0:w.alloc (.cells #[.int .i64 d.from_,.int .i64 d.to_,.slice x.aj x.nj x.cj,.slice x.an x.nn x.cn,.slice x.al x.nl x.cl,.slice x.agj x.ngj x.cgj,.slice x.agn x.ngn x.cgn,.slice x.agl x.ngl x.cgl] 45)=w0 at HD HT Hb1 HB1 ⊢
 clear hw0
 have g2:=HB1.out.cell 2
 have g3:=HB1.out.cell 3
 have g4:=HB1.out.cell 4
 have g5:=HB1.out.cell 5
 have g6:=HB1.out.cell 6
 have g7:=HB1.out.cell 7
 simp only [List.getElem?_toArray,List.getElem?_cons_succ,List.getElem?_cons_zero] at g2 g3 g4 g5 g6 g7
 obtain⟨e0,he0⟩:∃ e,cE fF aD.name d.jobs=e:=⟨_,rfl⟩
 have HE0:=hid he0
 obtain⟨e1,he1⟩:∃ e,cE eP aA.name d.nodes=e:=⟨_,rfl⟩
 have HE1:=hid he1
 obtain⟨e2,he2⟩:∃ e,cE lsE ak.job d.leases=e:=⟨_,rfl⟩
 have HE2:=hid he2
 obtain⟨e3,he3⟩:∃ e,mI (fun s=>(cP d.jobs s).isSome) d.gj=e:=⟨_,rfl⟩
 have HE3:=hid he3
 obtain⟨e4,he4⟩:∃ e,mI (fun s=>(cL d.nodes s).isSome) d.gn=e:=⟨_,rfl⟩
 have HE4:=hid he4
 obtain⟨e5,he5⟩:∃ e,mI (fun s=>(cU d.leases s).isSome) d.gl=e:=⟨_,rfl⟩
 have HE5:=hid he5
 have yE:=hid (show gA d=iy [e0,e1,e2,e3,e4,e5] by rw [GT.out]; unfold vN; rw [he0,he1,he2,he3,he4,he5])
 clear he0 he1 he2 he3 he4 he5 GT
 refine jL (n:=78) (by kernel_rfl) (dV w.heap.size x e0 e1 e2 e3 e4 e5) (by decide +kernel) rfl (BT _ _ _ _ _ _ _ _) ?_ ?_
 · refine⟨?_,?_,?_,?_,?_,?_,?_,?_,?_,?_,?_,?_,?_,?_,?_,?_,?_,?_,?_,?_,?_,?_,?_,?_,?_,?_,?_,trivial⟩
   all_goals (intro a wx hle hkeep eT; refine⟨rfl,?_⟩)
   · have h1:=hkeep 1 _ rfl (by decide +kernel)
     simp [go_sem,Oper.wp,execOp,Act.eval,h1]
     exact⟨_,rfl,Below.refl _ _,rfl⟩
   · obtain⟨u1,h1,r1⟩:=eT 0 _ 44 rfl rfl (by decide +kernel)
     replace r1:u1=_:=r1
     subst r1
     have hc:=eG g2 hle
     simp [go_sem,Oper.wp,execOp,Act.eval,h1,hc]
     exact⟨_,rfl,Below.refl _ _,rfl⟩
   · obtain⟨u1,h1,r1⟩:=eT 1 _ 45 rfl rfl (by decide +kernel)
     replace r1:u1=_:=r1
     subst r1
     simp [go_sem,Oper.wp,execOp,Act.eval,h1]
     have hD:=(HD.out.below hle).more hle.size
     have hT:=HT.out.below hle
     refine (rP d.jobs x.aj x.nj x.cj wx (hD.j) hD.lj hD.bj hD.oj hT).mono ?_
     rintro e w' ⟨rfl,hb⟩
     exact⟨_,rfl,hb,congrArg (Value.int .i64) HE0.out⟩
   · have h1:=hkeep 1 _ rfl (by decide +kernel)
     simp [go_sem,Oper.wp,execOp,Act.eval,h1]
     exact⟨_,rfl,Below.refl _ _,rfl⟩
   · obtain⟨u1,h1,r1⟩:=eT 3 _ 47 rfl rfl (by decide +kernel)
     replace r1:u1=_:=r1
     subst r1
     have hc:=eG g3 hle
     simp [go_sem,Oper.wp,execOp,Act.eval,h1,hc]
     exact⟨_,rfl,Below.refl _ _,rfl⟩
   · obtain⟨u1,h1,r1⟩:=eT 4 _ 48 rfl rfl (by decide +kernel)
     replace r1:u1=_:=r1
     subst r1
     simp [go_sem,Oper.wp,execOp,Act.eval,h1]
     have hD:=(HD.out.below hle).more hle.size
     have hT:=HT.out.below hle
     refine (pP d.nodes x.an x.nn x.cn wx (hD.n) hD.ln hD.bn hD.on_ hT).mono ?_
     rintro e w' ⟨rfl,hb⟩
     exact⟨_,rfl,hb,congrArg (Value.int .i64) HE1.out⟩
   · have h1:=hkeep 1 _ rfl (by decide +kernel)
     simp [go_sem,Oper.wp,execOp,Act.eval,h1]
     exact⟨_,rfl,Below.refl _ _,rfl⟩
   · obtain⟨u1,h1,r1⟩:=eT 6 _ 50 rfl rfl (by decide +kernel)
     replace r1:u1=_:=r1
     subst r1
     have hc:=eG g4 hle
     simp [go_sem,Oper.wp,execOp,Act.eval,h1,hc]
     exact⟨_,rfl,Below.refl _ _,rfl⟩
   · obtain⟨u1,h1,r1⟩:=eT 7 _ 51 rfl rfl (by decide +kernel)
     replace r1:u1=_:=r1
     subst r1
     simp [go_sem,Oper.wp,execOp,Act.eval,h1]
     have hD:=(HD.out.below hle).more hle.size
     have hT:=HT.out.below hle
     refine (tH d.leases x.al x.nl x.cl wx (hD.l) hD.ll hD.bl hD.ol hT).mono ?_
     rintro e w' ⟨rfl,hb⟩
     exact⟨_,rfl,hb,congrArg (Value.int .i64) HE2.out⟩
   · have h1:=hkeep 1 _ rfl (by decide +kernel)
     simp [go_sem,Oper.wp,execOp,Act.eval,h1]
     exact⟨_,rfl,Below.refl _ _,rfl⟩
   · obtain⟨u1,h1,r1⟩:=eT 9 _ 53 rfl rfl (by decide +kernel)
     replace r1:u1=_:=r1
     subst r1
     have hc:=eG g5 hle
     simp [go_sem,Oper.wp,execOp,Act.eval,h1,hc]
     exact⟨_,rfl,Below.refl _ _,rfl⟩
   · have h1:=hkeep 1 _ rfl (by decide +kernel)
     simp [go_sem,Oper.wp,execOp,Act.eval,h1]
     exact⟨_,rfl,Below.refl _ _,rfl⟩
   · obtain⟨u1,h1,r1⟩:=eT 11 _ 55 rfl rfl (by decide +kernel)
     replace r1:u1=_:=r1
     subst r1
     have hc:=eG g2 hle
     simp [go_sem,Oper.wp,execOp,Act.eval,h1,hc]
     exact⟨_,rfl,Below.refl _ _,rfl⟩
   · obtain⟨u1,h1,r1⟩:=eT 10 _ 54 rfl rfl (by decide +kernel)
     replace r1:u1=_:=r1
     subst r1
     obtain⟨u2,h2,rfl⟩:=eT 12 _ 56 rfl rfl (by decide +kernel)
     simp [go_sem,Oper.wp,execOp,Act.eval,h1,h2]
     have hD:=(HD.out.below hle).more hle.size
     have hT:=HT.out.below hle
     refine (yF d.gj d.jobs x.agj x.aj x.ngj x.cgj x.nj x.cj wx hD.gj hD.lgj hD.bgj hD.ogj hD.j hD.lj hD.bj hT).mono ?_
     rintro e w' ⟨rfl,hb⟩
     exact⟨_,rfl,hb,congrArg (Value.int .i64) HE3.out⟩
   · have h1:=hkeep 1 _ rfl (by decide +kernel)
     simp [go_sem,Oper.wp,execOp,Act.eval,h1]
     exact⟨_,rfl,Below.refl _ _,rfl⟩
   · obtain⟨u1,h1,r1⟩:=eT 14 _ 58 rfl rfl (by decide +kernel)
     replace r1:u1=_:=r1
     subst r1
     have hc:=eG g6 hle
     simp [go_sem,Oper.wp,execOp,Act.eval,h1,hc]
     exact⟨_,rfl,Below.refl _ _,rfl⟩
   · have h1:=hkeep 1 _ rfl (by decide +kernel)
     simp [go_sem,Oper.wp,execOp,Act.eval,h1]
     exact⟨_,rfl,Below.refl _ _,rfl⟩
   · obtain⟨u1,h1,r1⟩:=eT 16 _ 60 rfl rfl (by decide +kernel)
     replace r1:u1=_:=r1
     subst r1
     have hc:=eG g3 hle
     simp [go_sem,Oper.wp,execOp,Act.eval,h1,hc]
     exact⟨_,rfl,Below.refl _ _,rfl⟩
   · obtain⟨u1,h1,r1⟩:=eT 15 _ 59 rfl rfl (by decide +kernel)
     replace r1:u1=_:=r1
     subst r1
     obtain⟨u2,h2,rfl⟩:=eT 17 _ 61 rfl rfl (by decide +kernel)
     simp [go_sem,Oper.wp,execOp,Act.eval,h1,h2]
     have hD:=(HD.out.below hle).more hle.size
     have hT:=HT.out.below hle
     refine (wT d.gn d.nodes x.agn x.an x.ngn x.cgn x.nn x.cn wx hD.gn hD.lgn hD.bgn hD.ogn hD.n hD.ln hD.bn hT).mono ?_
     rintro e w' ⟨rfl,hb⟩
     exact⟨_,rfl,hb,congrArg (Value.int .i64) HE4.out⟩
   · have h1:=hkeep 1 _ rfl (by decide +kernel)
     simp [go_sem,Oper.wp,execOp,Act.eval,h1]
     exact⟨_,rfl,Below.refl _ _,rfl⟩
   · obtain⟨u1,h1,r1⟩:=eT 19 _ 63 rfl rfl (by decide +kernel)
     replace r1:u1=_:=r1
     subst r1
     have hc:=eG g7 hle
     simp [go_sem,Oper.wp,execOp,Act.eval,h1,hc]
     exact⟨_,rfl,Below.refl _ _,rfl⟩
   · have h1:=hkeep 1 _ rfl (by decide +kernel)
     simp [go_sem,Oper.wp,execOp,Act.eval,h1]
     exact⟨_,rfl,Below.refl _ _,rfl⟩
   · obtain⟨u1,h1,r1⟩:=eT 21 _ 65 rfl rfl (by decide +kernel)
     replace r1:u1=_:=r1
     subst r1
     have hc:=eG g4 hle
     simp [go_sem,Oper.wp,execOp,Act.eval,h1,hc]
     exact⟨_,rfl,Below.refl _ _,rfl⟩
   · obtain⟨u1,h1,r1⟩:=eT 20 _ 64 rfl rfl (by decide +kernel)
     replace r1:u1=_:=r1
     subst r1
     obtain⟨u2,h2,rfl⟩:=eT 22 _ 66 rfl rfl (by decide +kernel)
     simp [go_sem,Oper.wp,execOp,Act.eval,h1,h2]
     have hD:=(HD.out.below hle).more hle.size
     have hT:=HT.out.below hle
     refine (vk d.gl d.leases x.agl x.al x.ngl x.cgl x.nl x.cl wx hD.gl hD.lgl hD.bgl hD.ogl hD.l hD.ll hD.bl hT).mono ?_
     rintro e w' ⟨rfl,hb⟩
     exact⟨_,rfl,hb,congrArg (Value.int .i64) HE5.out⟩
   · obtain⟨u1,h1,r1⟩:=eT 2 _ 46 rfl rfl (by decide +kernel)
     replace r1:u1=_:=r1
     subst r1
     obtain⟨u2,h2,rfl⟩:=eT 5 _ 49 rfl rfl (by decide +kernel)
     obtain⟨u3,h3,rfl⟩:=eT 8 _ 52 rfl rfl (by decide +kernel)
     obtain⟨u4,h4,rfl⟩:=eT 13 _ 57 rfl rfl (by decide +kernel)
     obtain⟨u5,h5,rfl⟩:=eT 18 _ 62 rfl rfl (by decide +kernel)
     obtain⟨u6,h6,rfl⟩:=eT 23 _ 67 rfl rfl (by decide +kernel)
     simp [go_sem,Oper.wp,execOp,Act.eval,h1,h2,h3,h4,h5,h6]
     exact⟨_,rfl,(Below.refl _ _).alloc (Nat.le_refl _) _,wx.heap.size,rfl,by simp,fD.new wx _ _⟩
   · obtain⟨u1,h1,b,e1,-,-⟩:=eT 24 _ 68 rfl rfl (by decide +kernel)
     subst e1
     simp [go_sem,Oper.wp,execOp,Act.eval,h1]
     exact⟨_,rfl,Below.refl _ _,rfl⟩
   · simp [go_sem,Oper.wp,execOp,Act.eval]
     exact⟨_,rfl,Below.refl _ _,rfl⟩
 · intro a wx hd
   obtain⟨f,hfe,hf⟩:=hd.frame' [44,45,46,47,48,49,50,51,52,53,54,55,56,57,58,59,60,61,62,63,64,65,66,67,68,69,70] rfl
   obtain⟨b,r68,hbl,hrow⟩:∃ b,f 68=_∧_:=hf 24 _ 68 rfl rfl
   have r69:f 69=_:=hf 25 _ 69 rfl rfl
   have r70:f 70=_:=hf 26 _ 70 rfl rfl
   have Hle:=hid (Hb1.out.trans (hd.le.mono Hb1.out.size))
   clear hd hf
   subst hfe
   simp only [foldl_cons,foldl_nil,setIfInBounds_toArray,set_cons_succ,set_cons_zero,r68,r69,r70]
   clear r68 r69 r70
   obtain⟨es,hes⟩:∃ es,es=[e0,e1,e2,e3,e4,e5]:=⟨_,rfl⟩
   have hrow2:fD wx b 0 (es.map (Value.int .i64)):=by rw [hes]; exact hrow
   have hlen:es.length=6:=by rw [hes]; rfl
   have dX:=hid hrow2
   have HA:=hid (show gA d=iy es by rw [hes]; exact yE.out)
   clear hrow hrow2 hes yE HE0 HE1 HE2 HE3 HE4 HE5 g2 g3 g4 g5 g6 g7
   go_wp2_with fail
   go_loop [2,4,70] (fun _ _ i=>∃ k:Nat,k≤6∧i = .int .i64 k∧iy (es.drop k)=iy es) (fun _ _ i=>6 - (intOf i).toNat)
   case atStart=>exact⟨0,by omega,rfl,rfl⟩
   case round=>
    obtain⟨k,hk,rfl,hfe⟩:=hrel
    have Hfe:=hid hfe
    clear hfe
    by_cases hlt:k<6
    · obtain⟨e,he⟩:∃ e,es[k]? = some e:=⟨_,List.getElem?_eq_getElem (by omega)⟩
      have c0:wx.cell? ⟨b,0+k,none⟩=some (.int .i64 e):=dX.out k _ (by rw [List.getElem?_map,he]; rfl)
      rw [Nat.zero_add] at c0
      have hdc:=hid (drop_cons he)
      clear he
      by_cases h0:e=0
      · have hn:=hid (show iy (es.drop (k+1))=iy es by rw [← Hfe.out,hdc.out,rQ h0])
        subst h0
        go_wp2
        go_round
        case rel=>exact⟨k+1,by omega,by go_num,hn.out⟩
        case measure=>simp [intOf]; omega
      · have hend:=hid (hfin.out e (by rw [HA.out,← Hfe.out,hdc.out,rR h0]) _ Hle.out)
        have e1':(e == 0)=false:=beq_eq_false_iff_ne.2 h0
        have e2':(e != 0)=true:=bne_iff_ne.2 h0
        go_wp2
        go_ret
        exact hend.out
    · have hend:=hid (hfin.out 0 (by rw [HA.out,← Hfe.out,List.drop_of_length_le (by omega)]; rfl) _ Hle.out)
      go_wp2
      go_ret
      exact hend.out
end Go.Proofs.YtoeejfhdjmkpcaaGreatDoor
