/- Of the proof of a statement: DDec, FrmEncP, PlEnc, PlBack. -/
import Derived.Deep.RegionWith
import Derived.Deep.Cut
import Derived.Deep.CutRange
import Derived.Deep.DeepCutAuto
import Derived.Test.YtoeejfhdjmkpcaaGreatDoorTRPhQ
import Derived.Test.YtoeejfhdjmkpcaaGreatDoorTRcC
set_option linter.unusedVariables false
set_option linter.unusedSimpArgs false
set_option maxRecDepth 100000
set_option maxHeartbeats 8000000
/- The walk of delta.Decode. -/
namespace Go.Proofs.YtoeejfhdjmkpcaaGreatDoor
open Go.Lib (hid)
open Go.RowKit
structure pK (w:World) (g:Nat) (d:aX) (x:fH):Prop where
 j:∃ b,g<b∧w.ownsRow b 34 5 (.slice x.aj x.nj x.cj) x.nj (au aL d.jobs)
 n:∃ b,g<b∧w.ownsRow b 36 3 (.slice x.an x.nn x.cn) x.nn (au aC d.nodes)
 l:∃ b,g<b∧w.ownsRow b 38 3 (.slice x.al x.nl x.cl) x.nl (au av d.leases)
 gj:∃ b,g<b∧w.ownsRow b 9 1 (.slice x.agj x.ngj x.cgj) x.ngj (au lC d.gj)
 gn:∃ b,g<b∧w.ownsRow b 9 1 (.slice x.agn x.ngn x.cgn) x.ngn (au lC d.gn)
 gl:∃ b,g<b∧w.ownsRow b 9 1 (.slice x.agl x.ngl x.cgl) x.ngl (au lC d.gl)
 lj:d.jobs.length=x.nj
 ln:d.nodes.length=x.nn
 ll:d.leases.length=x.nl
 lgj:d.gj.length=x.ngj
 lgn:d.gn.length=x.ngn
 lgl:d.gl.length=x.ngl
theorem qZ {w w':World} {g sz n:Nat} {e:TypeId} {v:Value} {xs:List Value} (h:∃ b,g<b∧w.ownsRow b e sz v n xs) (hg:w.grownBy w' (some g)):∃ b,g<b∧w'.ownsRow b e sz v n xs:=by
 obtain⟨b,hb,ho⟩:=h; exact⟨b,hb,bT ho hg hb⟩
theorem pK.grow {w w':World} {g:Nat} {d:aX} {x:fH} (h:pK w g d x) (hg:w.grownBy w' (some g)):pK w' g d x:=
 ⟨qZ h.j hg,qZ h.n hg,qZ h.l hg,qZ h.gj hg,qZ h.gn hg,qZ h.gl hg,h.lj,h.ln,h.ll,h.lgj,h.lgn,h.lgl⟩
structure Bp (d:aX):Prop where
 j:d.jobs.length≤40
 n:d.nodes.length≤20
 l:d.leases.length≤40
 gj:d.gj.length≤40
 gn:d.gn.length≤20
 gl:d.gl.length≤40
 oj:lB d.jobs
 on_:jR d.nodes
 ol:iS d.leases
 ogj:jT d.gj
 ogn:jT d.gn
 ogl:jT d.gl
theorem j5 {w:World} {g sz n c:Nat} {A:Option Addr} {e:TypeId} {xs:List Value} (h:∃ b,g<b∧w.ownsRow b e sz (.slice A n c) n xs):aW w w.heap.size sz A n xs:=by
 obtain⟨b,hb,ho⟩:=h; exact cS ho
theorem pK.at_ {w:World} {g:Nat} {d:aX} {x:fH} (h:pK w g d x) (z:Bp d):dQ w w.heap.size d x:=
 ⟨j5 h.j,j5 h.n,j5 h.l,j5 h.gj,j5 h.gn,j5 h.gl,h.lj,h.ln,h.ll,h.lgj,h.lgn,h.lgl,
  by have:=z.j; have:=h.lj; omega,by have:=z.n; have:=h.ln; omega,by have:=z.l; have:=h.ll; omega,by have:=z.gj; have:=h.lgj; omega,by have:=z.gn; have:=h.lgn; omega,by have:=z.gl; have:=h.lgl; omega,
  z.oj,z.on_,z.ol,z.ogj,z.ogn,z.ogl⟩
end Go.Proofs.YtoeejfhdjmkpcaaGreatDoor
/- The walk of frame.Encode. -/
namespace Go.Proofs.YtoeejfhdjmkpcaaGreatDoor
open Go.Lib (hid)
open Go.RowKit
def FU (g:Nat) (v k:Int) (p:ByteArray):Nat→Value→World→Prop
 | 0,u,_=>u = .pointer (some ⟨g,0,none⟩)
 | 1,u,_=>u = .int .i64 v
 | 2,u,_=>u = .int .u8 v
 | 3,u,_=>u = .pointer (some ⟨g,1,none⟩)
 | 4,u,_=>u = .int .i64 k
 | 5,u,_=>u = .int .u8 k
 | 6,u,w=>∃ b,u = .slice (some ⟨b,0,none⟩) 2 2∧w.cell? ⟨b,0,none⟩=some (.int .u8 v)∧w.cell? ⟨b,1,none⟩=some (.int .u8 k)
 | 7,u,_=>u = .string ⟨#[UInt8.ofNat v.toNat,UInt8.ofNat k.toNat]⟩
 | 8,u,_=>u = .string (⟨#[66,75]⟩ ++ ⟨#[UInt8.ofNat v.toNat,UInt8.ofNat k.toNat]⟩)
 | 9,u,_=>u = .pointer (some ⟨g,2,none⟩)
 | 10,u,_=>u = .string p
 | 11,u,_=>u = .int .i64 p.size
 | 12,u,_=>u = .int .u64 p.size
 | 13,u,_=>u = .string ⟨(bI p.size).toArray⟩
 | 14,u,_=>u = .string (⟨#[66,75]⟩ ++ ⟨#[UInt8.ofNat v.toNat,UInt8.ofNat k.toNat]⟩ ++ ⟨(bI p.size).toArray⟩)
 | 15,u,_=>u = .pointer (some ⟨g,2,none⟩)
 | 16,u,_=>u = .string p
 | _,u,_=>u = .string (⟨#[66,75]⟩ ++ ⟨#[UInt8.ofNat v.toNat,UInt8.ofNat k.toNat]⟩ ++ ⟨(bI p.size).toArray⟩ ++ p)
theorem yQ (g:Nat) (v k:Int) (p:ByteArray) (i:Nat) (u:Value) (w w':World) (h:FU g v k p i u w) (hw:Ext w w'):FU g v k p i u w':=by
 unfold FU at *
 split at h
 case h_7=>obtain⟨b,e,h0,h1⟩:=h; exact⟨b,e,eG h0 hw,eG h1 hw⟩
 all_goals exact h
theorem By (v k:Int) (p:ByteArray) (w:World) :
 Calls Tryz.prog 57 #[.agg #[.int .i64 v,.int .i64 k,.string p]] w (iV v k p w):=by
 by_cases hv:v<1∨3<v
 · have aV:=hid (fun (w':World)=>iV.arg (v:=v) (k:=k) (p:=p) (w:=w) (w':=w') (by omega))
   have HV:=hid hv
   clear hv
   go_enter Tryz.func57,Tryz.ntmps57
   go_wp2_with (go_at_call 52; refine (pZ _ HV.out _).mono ?_; rintro e w' ⟨rfl,rfl⟩)
   go_ret2
   exact aV.out _ ((Below.refl _ _).alloc (Nat.le_refl _) _)
 have hv1:1≤v:=by omega
 have hv2:v≤3:=by omega
 clear hv
 by_cases hk:k<1∨4<k
 · have aV:=hid (fun (w':World)=>iV.arg (v:=v) (k:=k) (p:=p) (w:=w) (w':=w') (by omega))
   have HK:=hid hk
   clear hk
   go_enter Tryz.func57,Tryz.ntmps57
   go_wp2_with (first | (go_at_call 52; refine (jw _ hv1 hv2 _).mono ?_; rintro e w' ⟨rfl,rfl⟩) | (go_at_call 53; refine (vR _ HK.out _).mono ?_; rintro e w' ⟨rfl,rfl⟩))
   go_ret2
   exact aV.out _ ((Below.refl _ _).alloc (Nat.le_refl _) _)
 have hk1:1≤k:=by omega
 have hk2:k≤4:=by omega
 clear hk
 by_cases hp:6000<p.size
 · have aV:=hid (fun (w':World)=>iV.large (v:=v) (k:=k) (p:=p) (w:=w) (w':=w') (by omega) hp)
   go_enter Tryz.func57,Tryz.ntmps57
   go_wp2_with (first | (go_at_call 52; refine (jw _ hv1 hv2 _).mono ?_; rintro e w' ⟨rfl,rfl⟩) | (go_at_call 53; refine (o7 _ hk1 hk2 _).mono ?_; rintro e w' ⟨rfl,rfl⟩))
   go_ret2
   exact aV.out _ ((Below.refl _ _).alloc (Nat.le_refl _) _)
 have hv8:v=(((UInt8.ofNat v.toNat).toNat:Nat):Int):=by rw [UInt8.toNat_ofNat']; omega
 have hk8:k=(((UInt8.ofNat k.toNat).toNat:Nat):Int):=by rw [UInt8.toNat_ofNat']; omega
 have I6:∀ (W:World) (g:Nat),W.cell? ⟨g,0,none⟩=some (.int .u8 v)→W.cell? ⟨g,1,none⟩=some (.int .u8 k)→(convert 129 9 (.slice (some ⟨g,0,none⟩) 2 2)).run Tryz.prog W = .ok (.string ⟨#[UInt8.ofNat v.toNat,UInt8.ofNat k.toNat]⟩) W:=by
  intro W g h0 h1
  exact I7 W g (by rw [← hv8]; exact h0) (by rw [← hk8]; exact h1)
 clear hv8 hk8
 have wv:IntKind.u8.wrap v=v:=by rw [IntKind.wrap_u8']; omega
 have wk:IntKind.u8.wrap k=k:=by rw [IntKind.wrap_u8']; omega
 have wp:IntKind.u64.wrap (p.size:Int)=p.size:=by rw [IntKind.wrap_u64]; omega
 have hl:=(dB p.size).2
 have c1:¬ 9223372036854775807<4+(bI p.size).length:=by omega
 have c2:¬ 9223372036854775807<4+(bI p.size).length+p.size:=by omega
 have Hlen:=hid (D0 v.toNat k.toNat p.data.toList)
 have aV:=hid (fun (s:ByteArray) (w':World)=>iV.ok (v:=v) (k:=k) (p:=p) (w:=w) (w':=w') (s:=s) (by omega) hp)
 clear hl
 go_enter Tryz.func57,Tryz.ntmps57
 go_upto_region 5 with (first | (go_at_call 52; refine (jw _ hv1 hv2 _).mono ?_; rintro e w' ⟨rfl,rfl⟩) | (go_at_call 53; refine (o7 _ hk1 hk2 _).mono ?_; rintro e w' ⟨rfl,rfl⟩))
 go_cut [4] (fun s wx=>∃ S:ByteArray,s = .string S∧S.data.toList=lM v.toNat k.toNat p.data.toList∧Below w.heap.size w wx)
 case first=>
  generalize hw0:w.alloc (.cells #[.int .i64 v,.int .i64 k,.string p] 53)=w0
  have hb0:Below w.heap.size w w0:=by rw [← hw0]; exact (Below.refl _ _).alloc (Nat.le_refl _) _
  have g0:w0.cell? ⟨w.heap.size,0,none⟩=some (.int .i64 v):=by rw [← hw0]; simp [go_sem]
  have g1:w0.cell? ⟨w.heap.size,1,none⟩=some (.int .i64 k):=by rw [← hw0]; simp [go_sem]
  have g2:w0.cell? ⟨w.heap.size,2,none⟩=some (.string p):=by rw [← hw0]; simp [go_sem]
  have hg:w.heap.size<w0.heap.size:=by rw [← hw0]; simp
  clear hw0
  refine jL (n:=43) (by kernel_rfl) (FU w.heap.size v k p) (by decide +kernel) rfl (yQ _ _ _ _) ?_ ?_
  · refine⟨?_,?_,?_,?_,?_,?_,?_,?_,?_,?_,?_,?_,?_,?_,?_,?_,?_,?_,?_,trivial⟩
    all_goals (intro a wx hle hkeep eT; refine⟨rfl,?_⟩)
    · have h1:=hkeep 1 _ rfl (by decide +kernel)
      simp [go_sem,Oper.wp,execOp,Act.eval,h1]
      exact⟨_,rfl,Below.refl _ _,rfl⟩
    · obtain⟨u1,h1,r1⟩:=eT 0 _ 21 rfl rfl (by decide +kernel)
      replace r1:u1=_:=r1
      subst r1
      have hc:=eG g0 hle
      simp [go_sem,Oper.wp,execOp,Act.eval,h1,hc]
      exact⟨_,rfl,Below.refl _ _,rfl⟩
    · obtain⟨u1,h1,r1⟩:=eT 1 _ 22 rfl rfl (by decide +kernel)
      replace r1:u1=_:=r1
      subst r1
      simp [go_sem,Oper.wp,execOp,Act.eval,h1,wv]
      exact⟨_,rfl,Below.refl _ _,rfl⟩
    · have h1:=hkeep 1 _ rfl (by decide +kernel)
      simp [go_sem,Oper.wp,execOp,Act.eval,h1]
      exact⟨_,rfl,Below.refl _ _,rfl⟩
    · obtain⟨u1,h1,r1⟩:=eT 3 _ 24 rfl rfl (by decide +kernel)
      replace r1:u1=_:=r1
      subst r1
      have hc:=eG g1 hle
      simp [go_sem,Oper.wp,execOp,Act.eval,h1,hc]
      exact⟨_,rfl,Below.refl _ _,rfl⟩
    · obtain⟨u1,h1,r1⟩:=eT 4 _ 25 rfl rfl (by decide +kernel)
      replace r1:u1=_:=r1
      subst r1
      simp [go_sem,Oper.wp,execOp,Act.eval,h1,wk]
      exact⟨_,rfl,Below.refl _ _,rfl⟩
    · obtain⟨u1,h1,r1⟩:=eT 2 _ 23 rfl rfl (by decide +kernel)
      replace r1:u1=_:=r1
      subst r1
      obtain⟨u2,h2,r2⟩:=eT 5 _ 26 rfl rfl (by decide +kernel)
      replace r2:u2=_:=r2
      subst r2
      simp [go_sem,Oper.wp,execOp,Act.eval,h1,h2]
      exact⟨_,rfl,(Below.refl _ _).alloc (Nat.le_refl _) _,wx.heap.size,rfl,by simp [go_sem],by simp [go_sem]⟩
    · obtain⟨u1,h1,b,e1,x0,x1⟩:=eT 6 _ 27 rfl rfl (by decide +kernel)
      subst e1
      have hr:=I6 wx b x0 x1
      simp [go_sem,Oper.wp,execOp,Act.eval,h1,hr]
      exact⟨_,rfl,Below.refl _ _,rfl⟩
    · obtain⟨u1,h1,r1⟩:=eT 7 _ 28 rfl rfl (by decide +kernel)
      replace r1:u1=_:=r1
      subst r1
      simp [go_sem,Oper.wp,execOp,Act.eval,h1]
      exact⟨_,rfl,Below.refl _ _,rfl⟩
    · have h1:=hkeep 1 _ rfl (by decide +kernel)
      simp [go_sem,Oper.wp,execOp,Act.eval,h1]
      exact⟨_,rfl,Below.refl _ _,rfl⟩
    · obtain⟨u1,h1,r1⟩:=eT 9 _ 30 rfl rfl (by decide +kernel)
      replace r1:u1=_:=r1
      subst r1
      have hc:=eG g2 hle
      simp [go_sem,Oper.wp,execOp,Act.eval,h1,hc]
      exact⟨_,rfl,Below.refl _ _,rfl⟩
    · obtain⟨u1,h1,r1⟩:=eT 10 _ 31 rfl rfl (by decide +kernel)
      replace r1:u1=_:=r1
      subst r1
      simp [go_sem,Oper.wp,execOp,Act.eval,h1]
      exact⟨_,rfl,Below.refl _ _,rfl⟩
    · obtain⟨u1,h1,r1⟩:=eT 11 _ 32 rfl rfl (by decide +kernel)
      replace r1:u1=_:=r1
      subst r1
      simp [go_sem,Oper.wp,execOp,Act.eval,h1,wp]
      exact⟨_,rfl,Below.refl _ _,rfl⟩
    · obtain⟨u1,h1,r1⟩:=eT 12 _ 33 rfl rfl (by decide +kernel)
      replace r1:u1=_:=r1
      subst r1
      simp [go_sem,Oper.wp,execOp,Act.eval,h1]
      refine (tX _ _ (by omega) (by omega)).mono ?_
      rintro e w' ⟨rfl,hb⟩
      exact⟨_,rfl,hb,rfl⟩
    · obtain⟨u1,h1,r1⟩:=eT 8 _ 29 rfl rfl (by decide +kernel)
      replace r1:u1=_:=r1
      subst r1
      obtain⟨u2,h2,r2⟩:=eT 13 _ 34 rfl rfl (by decide +kernel)
      replace r2:u2=_:=r2
      subst r2
      simp [go_sem,Oper.wp,execOp,Act.eval,h1,h2,c1]
      exact⟨_,rfl,Below.refl _ _,rfl⟩
    · have h1:=hkeep 1 _ rfl (by decide +kernel)
      simp [go_sem,Oper.wp,execOp,Act.eval,h1]
      exact⟨_,rfl,Below.refl _ _,rfl⟩
    · obtain⟨u1,h1,r1⟩:=eT 15 _ 36 rfl rfl (by decide +kernel)
      replace r1:u1=_:=r1
      subst r1
      have hc:=eG g2 hle
      simp [go_sem,Oper.wp,execOp,Act.eval,h1,hc]
      exact⟨_,rfl,Below.refl _ _,rfl⟩
    · obtain⟨u1,h1,r1⟩:=eT 14 _ 35 rfl rfl (by decide +kernel)
      replace r1:u1=_:=r1
      subst r1
      obtain⟨u2,h2,r2⟩:=eT 16 _ 37 rfl rfl (by decide +kernel)
      replace r2:u2=_:=r2
      subst r2
      simp [go_sem,Oper.wp,execOp,Act.eval,h1,h2,c2]
      exact⟨_,rfl,Below.refl _ _,rfl⟩
    · obtain⟨u1,h1,r1⟩:=eT 17 _ 38 rfl rfl (by decide +kernel)
      replace r1:u1=_:=r1
      subst r1
      simp [go_sem,Oper.wp,execOp,Act.eval,h1]
      exact⟨_,rfl,Below.refl _ _,rfl⟩
  · intro a wx hd
    obtain⟨f,hfe,hf⟩:=hd.frame' [21,22,23,24,25,26,27,28,29,30,31,32,33,34,35,36,37,38,4] rfl
    have r4:f 4=_:=hf 18 _ 4 rfl rfl
    have hle:=hd.le
    clear hd hf
    subst hfe
    simp only [List.foldl_cons,List.foldl_nil,List.setIfInBounds_toArray,List.set_cons_succ,List.set_cons_zero,r4]
    clear r4
    go_wp2_with fail
    go_meet
    exact⟨_,rfl,by
     simp only [ByteArray.toList_data_append,lM]
     have e:p.data.toList.length=p.size:=by rw [Array.length_toList]; rfl
     rw [e]; simp,hb0.trans (hle.mono hb0.size)⟩
 case rest=>
  obtain⟨S,rfl,hS,hb1⟩:=hcut
  have HS:=hid hS
  have hSz:S.size≤6015:=by
   have h1:=Hlen.out
   rw [← HS.out] at h1
   have e:p.data.toList.length=p.size:=by rw [Array.length_toList]; rfl
   have e2:S.data.toList.length=S.size:=by rw [Array.length_toList]; rfl
   omega
  clear hS Hlen
  go_wp2_with fail
  refine Calls.mono (yP S _ (by omega)) ?_
  rintro e w2 ⟨rfl,hb2⟩
  have hb:=hb1.trans (hb2.mono hb1.size)
  clear hb1 hb2
  have hl4:(lL S.data.toList).length≤4:=Nat.le_refl 4
  have aR:=hid (aV.out (S ++ ⟨(lL S.data.toList).toArray⟩) w2 (by rw [ByteArray.toList_data_append,HS.out]; rfl) hb)
  clear aV hb
  go_wp2
  go_ret2
  exact aR.out
end Go.Proofs.YtoeejfhdjmkpcaaGreatDoor
/- What Encode of a delta says: plain. -/
namespace Go.Proofs.YtoeejfhdjmkpcaaGreatDoor
open Go.Lib (hid)
open Go.RowKit
theorem tY:∀ {l:List Int},iy l=0→∀ e ∈ l,e=0
 | [],_,e,he=>by cases he
 | x :: l,h,e,he=>by
  by_cases hx:x=0
  · rw [rQ hx] at h
    rcases List.mem_cons.1 he with rfl | he
    · exact hx
    · exact tY h e he
  · rw [rR hx] at h; exact absurd h hx
def mV (d:aX):List UInt8:=bI d.from_.toNat ++ bI (d.to_ - d.from_).toNat ++ jI (fun x=>eU x 3) d.jobs ++ jI (fun x=>gV x 3) d.nodes ++ jI gX d.leases ++ jI fV d.gj ++ jI fV d.gn ++ jI fV d.gl
def lT (d:aX):ByteArray × Int:=if gA d=0 then (if 6000<(mV d).length then (⟨#[]⟩,2) else (⟨(mV d).toArray⟩,0)) else (⟨#[]⟩,gA d)
def kG (d:aX) (w:World) (e:Ending) (w':World):Prop:=e = .returned (.tuple #[.string (lT d).1,.int .i64 (lT d).2])∧Below w.heap.size w w'
theorem kG.bad {d:aX} {w w':World} {E:Int} (h:gA d=E) (hE:E≠0) (hb:Below w.heap.size w w'):kG d w (.returned (.tuple #[.string ⟨#[]⟩,.int .i64 E])) w':=by
 refine⟨?_,hb⟩; unfold lT; rw [if_neg (by rw [h]; exact hE),h]
theorem kG.large {d:aX} {w w':World} (h:gA d=0) (hL:6000<(mV d).length) (hb:Below w.heap.size w w'):kG d w (.returned (.tuple #[.string ⟨#[]⟩,.int .i64 2])) w':=by
 refine⟨?_,hb⟩; unfold lT; rw [if_pos h,if_pos hL]
theorem kG.ok {d:aX} {w w':World} {s:ByteArray} (h:gA d=0) (hL:¬ 6000<(mV d).length) (hs:s=⟨(mV d).toArray⟩) (hb:Below w.heap.size w w'):kG d w (.returned (.tuple #[.string s,.int .i64 0])) w':=by
 refine⟨?_,hb⟩; unfold lT; rw [if_pos h,if_neg hL,hs]
structure I8 (d:aX):Prop where
 t0:0≤d.from_
 t1:d.from_<d.to_
 t2:d.to_≤1099511627776
 nj:d.jobs.length≤40
 nn:d.nodes.length≤20
 nl:d.leases.length≤40
 ngj:d.gj.length≤40
 ngn:d.gn.length≤20
 ngl:d.gl.length≤40
 jobs:∀ x ∈ d.jobs,u7 x
 nodes:∀ x ∈ d.nodes,tZ x
 leases:∀ x ∈ d.leases,wY x
theorem I4 {d:aX} (h:gA d=0):I8 d:=by
 have ht:kF d=true:=by
  cases hh:kF d
  · rw [wS hh] at h; exact absurd h (by decide)
  · rfl
 have hs:lD d=true:=by
  cases hh:lD d
  · rw [tG ht hh] at h; exact absurd h (by decide)
  · rfl
 rw [Bq ht hs] at h
 have hall:=tY h
 unfold kF at ht
 unfold lD at hs
 simp only [Bool.and_eq_true,decide_eq_true_eq,bB] at ht hs
 have hj:=(kM (E:=fF) (key:=aD.name) none d.jobs (hall _ (by simp [vN,cE]))).1
 have hn:=(kM (E:=eP) (key:=aA.name) none d.nodes (hall _ (by simp [vN,cE]))).1
 have hl:=(kM (E:=lsE) (key:=ak.job) none d.leases (hall _ (by simp [vN,cE]))).1
 exact⟨by omega,by omega,by omega,by omega,by omega,by omega,by omega,by omega,by omega,fun x hx=>FV (hj x hx).1,fun x hx=>D3 (hn x hx).1,fun x hx=>Ce (hl x hx).1⟩
end Go.Proofs.YtoeejfhdjmkpcaaGreatDoor
/- What is written is read: plain. -/
namespace Go.Proofs.YtoeejfhdjmkpcaaGreatDoor
open Go.Lib (hid)
open Go.Lib (validD)
theorem Bz {s:ByteArray} {i:Nat} {c:UInt8} {r:List UInt8} (h:s.data.toList.drop i=c :: r):∃ h:i<s.size,s[i]=c∧s.data.toList.drop (i+1)=r:=by
 have hl:i<s.data.toList.length:=by
  have:=congrArg List.length h
  rw [List.length_drop,List.length_cons] at this
  omega
 rw [List.drop_eq_getElem_cons hl] at h
 injection h with h1 h2
 rw [mQ] at hl
 exact⟨hl,by rw [← h1]; simp [ByteArray.getElem_eq_getElem_data],h2⟩
theorem yR (s:ByteArray) (r:List UInt8):∀ (f i acc n:Nat),f+i=10→(i=0∨0<n)→n*128 ^ i<18446744073709551616→∀ g,n<128 ^ (g+1)→s.data.toList.drop i=lU g n ++ r→rdB s f i acc=(acc+n*128 ^ i,i+(lU g n).length,0)
 | 0,i,acc,n,hf,h0,hn,g,hg,hd=>by
  exfalso
  have:i=10:=by omega
  subst this
  rcases h0 with h0 | h0
  · omega
  · have:1*128 ^ 10≤n*128 ^ 10:=Nat.mul_le_mul_right _ h0
    omega
 | f+1,i,acc,n,hf,h0,hn,g,hg,hd=>by
  by_cases h1:n<128
  · rw [jk h1] at hd ⊢
    obtain⟨hi,hc,_⟩:=Bz hd
    have hcn:s[i].toNat=n:=by rw [hc,UInt8.toNat_ofNat']; omega
    have h9:i=9→n≤1:=by
     intro e
     subst e
     rcases Nat.lt_or_ge 1 n with h2 | h2
     · have:2*128 ^ 9≤n*128 ^ 9:=Nat.mul_le_mul_right _ h2
       omega
     · exact h2
    rw [rdB,dif_pos hi,hcn,if_neg (by omega),if_pos h1,Nat.mod_eq_of_lt h1]
    rfl
  · obtain⟨g',rfl⟩:∃ g',g=g'+1:=by
     cases g with
     | zero=>exact absurd (by simpa using hg) h1
     | succ g'=>exact⟨g',rfl⟩
    have e:lU (g'+1) n=UInt8.ofNat (n % 128+128) :: lU g' (n / 128):=by rw [lU,if_neg h1]
    rw [e] at hd ⊢
    obtain⟨hi,hc,hd'⟩:=Bz hd
    have hcn:s[i].toNat=n % 128+128:=by rw [hc,UInt8.toNat_ofNat']; omega
    have h9:i≠9:=by
     rintro rfl
     have:128*128 ^ 9≤n*128 ^ 9:=Nat.mul_le_mul_right _ (by omega)
     omega
    have hdiv:n / 128*128 ^ (i+1)+n % 128*128 ^ i=n*128 ^ i:=by
     have:=Nat.div_add_mod n 128
     rw [Nat.pow_succ,Nat.mul_comm (128 ^ i) 128,← Nat.mul_assoc,← Nat.add_mul,Nat.mul_comm (n / 128) 128,this]
    rw [rdB,dif_pos hi,hcn,if_neg (by omega),if_neg (by omega),yR s r f (i+1) _ (n / 128) (by omega) (.inr (by omega)) (by omega) g' (by
     rw [Nat.pow_succ] at hg
     exact Nat.div_lt_of_lt_mul (by rw [Nat.mul_comm]; exact hg)) hd']
    have e2:(n % 128+128) % 128=n % 128:=by omega
    rw [e2,List.length_cons]
    refine Prod.ext ?_ (Prod.ext ?_ rfl)
    · show acc+n % 128*128 ^ i+n / 128*128 ^ (i+1)=acc+n*128 ^ i
      omega
    · show i+1+(lU g' (n / 128)).length=i+((lU g' (n / 128)).length+1)
      omega
theorem oL (n:Nat) (hn:n<18446744073709551616) (r:List UInt8):rdNum (BA (bI n ++ r))=(n,(bI n).length,0):=by
 have:=yR (BA (bI n ++ r)) r 10 0 0 n rfl (.inl rfl) (by simpa using hn) 10 (by omega) rfl
 rw [show lU 10 n=bI n from rfl] at this
 simpa [rdNum] using this
theorem nZ (n:Nat) (hn:n≤4611686018427387904) (r:List UInt8):dH (BA (bI n ++ r)) = .ok n (BA r):=by
 rw [wO (oL n (by omega) r) (by omega),wK,List.drop_left]
theorem FW {s:ByteArray} (h:gU s=true):fV s=bI s.size ++ s.data.toList:=by
 unfold gU at h
 simp only [Bool.and_eq_true,decide_eq_true_eq] at h
 unfold fV p8
 rw [if_neg (by omega),if_pos h.2,o8 (by omega)]
 simp [ByteArray.data_append]
theorem zW (a b c:List UInt8):(BA (a ++ (b ++ c))).extract a.length (a.length+b.length)=BA b:=by
 rw [← wR ((BA (a ++ (b ++ c))).extract a.length (a.length+b.length))]
 congr 1
 rw [ByteArray.data_extract,Array.toList_extract,List.extract_eq_take_drop,jr,List.drop_left,Nat.add_sub_cancel_left,List.take_left]
theorem uf {s:ByteArray} (h:gU s=true) (r:List UInt8):eF (BA (fV s ++ r)) = .ok s (BA r):=by
 have h':=h
 unfold gU at h'
 simp only [Bool.and_eq_true,decide_eq_true_eq] at h'
 rw [FW h,List.append_assoc]
 have hr:=oL s.size (by omega) (s.data.toList ++ r)
 have hm:=zW (bI s.size) s.data.toList r
 rw [mQ] at hm
 have hx:(BA (bI s.size ++ (s.data.toList ++ r))).extract (bI s.size).length ((bI s.size).length+s.size)=s:=hm
 rw [tq (wP hr (by omega) (by rw [jQ,List.length_append,List.length_append,mQ]; omega) (by rw [hx]; exact h'.2)),hx,wK]
 congr 2
 rw [← List.append_assoc,show (bI s.size).length+s.size=(bI s.size ++ s.data.toList).length by rw [List.length_append,mQ],List.drop_left]
theorem FX (n:Int):iT (lV n)=n:=by
 unfold lV iT
 split
 · rw [if_pos (by omega)]; omega
 · rw [if_neg (by omega)]; omega
theorem D4 {s:ByteArray} (h:bQ s=true):gU s=true:=by
 unfold bQ at h
 simp only [Bool.and_eq_true] at h
 exact h.2
theorem Cf {x:aD} (h:fF x=0) (r:List UInt8):mP 3 (BA (eU x 3 ++ r)) = .ok x (BA r):=by
 obtain⟨h1,h2,h3,h4,h5⟩:=iJ h
 have e:eU x 3 ++ r=fV x.name ++ (bI (lV x.prio).toNat ++ (bI x.need.toNat ++ (bI x.tries.toNat ++ (fV x.tag ++ r)))):=by simp [eU]
 have hz0:0≤lV x.prio∧lV x.prio≤2000:=by unfold lV; split <;> omega
 rw [e]
 unfold mP
 rw [uf (D4 h1),RR.bind_ok,nZ _ (by omega),RR.bind_ok,nZ _ (by omega),RR.bind_ok,if_pos (by decide),nZ _ (by omega),RR.bind_ok,if_pos (by decide),uf h2,RR.bind_ok]
 rw [Int.toNat_of_nonneg hz0.1,FX,Int.toNat_of_nonneg h4.1,Int.toNat_of_nonneg h5.1]
end Go.Proofs.YtoeejfhdjmkpcaaGreatDoor
