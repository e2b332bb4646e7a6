/- Of the proof of a statement: DDec, FrmEnc, FrmEncP, PlEnc. -/
import Derived.Deep.RegionWith
import Derived.Deep.Cut
import Derived.Deep.CutRange
import Derived.Deep.RegionHeld3
import Derived.Deep.DeepCutAuto
import Derived.Test.YtbllgmociapjeaaGreatDoorVClone
import Derived.Test.YtbllgmociapjeaaGreatDoorVRPhQ
set_option linter.unusedVariables false
set_option linter.unusedSimpArgs false
set_option maxRecDepth 100000
set_option maxHeartbeats 8000000
/- The walk of delta.Decode. -/
namespace Go.Proofs.YtbllgmociapjeaaGreatDoor
open Go.Lib (hid)
open Go.RowKit
structure qK (w:World) (g:Nat) (d:aW) (x:fP):Prop where
 j:∃ b,g<b∧w.ownsRow b 32 5 (.slice x.aj x.nj x.cj) x.nj (au aI d.jobs)
 n:∃ b,g<b∧w.ownsRow b 34 3 (.slice x.an x.nn x.cn) x.nn (au aB d.nodes)
 l:∃ b,g<b∧w.ownsRow b 36 3 (.slice x.al x.nl x.cl) x.nl (au av d.leases)
 gj:∃ b,g<b∧w.ownsRow b 9 1 (.slice x.agj x.ngj x.cgj) x.ngj (au mD d.gj)
 gn:∃ b,g<b∧w.ownsRow b 9 1 (.slice x.agn x.ngn x.cgn) x.ngn (au mD d.gn)
 gl:∃ b,g<b∧w.ownsRow b 9 1 (.slice x.agl x.ngl x.cgl) x.ngl (au mD d.gl)
 lj:d.jobs.length=x.nj
 ln:d.nodes.length=x.nn
 ll:d.leases.length=x.nl
 lgj:d.gj.length=x.ngj
 lgn:d.gn.length=x.ngn
 lgl:d.gl.length=x.ngl
theorem sF {w w':World} {g sz n:Nat} {e:TypeId} {v:Value} {xs:List Value} (h:∃ b,g<b∧w.ownsRow b e sz v n xs) (hg:w.grownBy w' (some g)):∃ b,g<b∧w'.ownsRow b e sz v n xs:=by
 obtain⟨b,hb,ho⟩:=h; exact⟨b,hb,bV ho hg hb⟩
theorem qK.grow {w w':World} {g:Nat} {d:aW} {x:fP} (h:qK w g d x) (hg:w.grownBy w' (some g)):qK w' g d x:=
 ⟨sF h.j hg,sF h.n hg,sF h.l hg,sF h.gj hg,sF h.gn hg,sF h.gl hg,h.lj,h.ln,h.ll,h.lgj,h.lgn,h.lgl⟩
structure C7 (d:aW):Prop where
 j:d.jobs.length≤40
 n:d.nodes.length≤20
 l:d.leases.length≤40
 gj:d.gj.length≤40
 gn:d.gn.length≤20
 gl:d.gl.length≤40
 oj:mB d.jobs
 on_:kN d.nodes
 ol:jv d.leases
 ogj:kP d.gj
 ogn:kP d.gn
 ogl:kP d.gl
theorem kV {w:World} {g sz n c:Nat} {A:Option Addr} {e:TypeId} {xs:List Value} (h:∃ b,g<b∧w.ownsRow b e sz (.slice A n c) n xs):aU w w.heap.size sz A n xs:=by
 obtain⟨b,hb,ho⟩:=h; exact cO ho
theorem qK.at_ {w:World} {g:Nat} {d:aW} {x:fP} (h:qK w g d x) (z:C7 d):eF w w.heap.size d x:=
 ⟨kV h.j,kV h.n,kV h.l,kV h.gj,kV h.gn,kV h.gl,h.lj,h.ln,h.ll,h.lgj,h.lgn,h.lgl,
  by have:=z.j; have:=h.lj; omega,by have:=z.n; have:=h.ln; omega,by have:=z.l; have:=h.ll; omega,by have:=z.gj; have:=h.lgj; omega,by have:=z.gn; have:=h.lgn; omega,by have:=z.gl; have:=h.lgl; omega,
  z.oj,z.on_,z.ol,z.ogj,z.ogn,z.ogl⟩
end Go.Proofs.YtbllgmociapjeaaGreatDoor
/- The walks of frame.Encode and FrameEncode. -/
namespace Go.Proofs.YtbllgmociapjeaaGreatDoor
open Go.Lib (hid)
open Go.RowKit
theorem vv (n lo hi:Int) (h1:lo≤n) (h2:n≤hi) (w:World):Calls Tryz.prog 52 #[.int .i64 n,.int .i64 lo,.int .i64 hi] w fun e w'=>e = .returned (.bool true)∧w=w':=by
 have e2:decide (n≤hi)=true:=decide_eq_true h2
 go_enter Tryz.func52,Tryz.ntmps52
 go_wp2
 go_ret
 exact⟨rfl,rfl⟩
theorem xO (n lo hi:Int) (h:n<lo∨hi<n) (w:World):Calls Tryz.prog 52 #[.int .i64 n,.int .i64 lo,.int .i64 hi] w fun e w'=>e = .returned (.bool false)∧w=w':=by
 by_cases h1:lo≤n
 · have h2:hi<n:=by omega
   have e2:decide (n≤hi)=false:=decide_eq_false (by omega)
   clear h
   go_enter Tryz.func52,Tryz.ntmps52
   go_wp2
   go_ret
   exact⟨rfl,rfl⟩
 · have e1:decide (lo≤n)=false:=decide_eq_false h1
   clear h
   go_enter Tryz.func52,Tryz.ntmps52
   go_wp2
   go_ret
   exact⟨rfl,rfl⟩
theorem jX (n:Int) (h1:1≤n) (h2:n≤3) (w:World):Calls Tryz.prog 22 #[.int .i64 n] w fun e w'=>e = .returned (.bool true)∧w=w':=by
 go_enter Tryz.func22,Tryz.ntmps22
 go_wp2_with (go_at_call 52; refine (vv _ _ _ h1 h2 _).mono ?_; rintro e w' ⟨rfl,rfl⟩)
 go_ret
 exact⟨rfl,rfl⟩
theorem qX (n:Int) (h:n<1∨3<n) (w:World):Calls Tryz.prog 22 #[.int .i64 n] w fun e w'=>e = .returned (.bool false)∧w=w':=by
 have H:=hid h
 clear h
 go_enter Tryz.func22,Tryz.ntmps22
 go_wp2_with (go_at_call 52; refine (xO _ _ _ H.out _).mono ?_; rintro e w' ⟨rfl,rfl⟩)
 go_ret
 exact⟨rfl,rfl⟩
theorem qg (n:Int) (h1:1≤n) (h2:n≤4) (w:World):Calls Tryz.prog 23 #[.int .i64 n] w fun e w'=>e = .returned (.bool true)∧w=w':=by
 go_enter Tryz.func23,Tryz.ntmps23
 go_wp2_with (go_at_call 52; refine (vv _ _ _ h1 h2 _).mono ?_; rintro e w' ⟨rfl,rfl⟩)
 go_ret
 exact⟨rfl,rfl⟩
theorem xN (n:Int) (h:n<1∨4<n) (w:World):Calls Tryz.prog 23 #[.int .i64 n] w fun e w'=>e = .returned (.bool false)∧w=w':=by
 have H:=hid h
 clear h
 go_enter Tryz.func23,Tryz.ntmps23
 go_wp2_with (go_at_call 52; refine (xO _ _ _ H.out _).mono ?_; rintro e w' ⟨rfl,rfl⟩)
 go_ret
 exact⟨rfl,rfl⟩
theorem Ae (s:ByteArray) (w:World) (hs:s.size≤9223372036854775807):Calls Tryz.prog 25 #[.string s] w fun e w'=>e = .returned (.string ⟨(mJ s.data.toList).toArray⟩)∧Below w.heap.size w w':=by
 have hlt:=DX s.data.toList
 go_enter Tryz.func25,Tryz.ntmps25
 go_wp2_with fail
 refine Calls.mono (I0 s w hs) ?_
 rintro e w1 ⟨rfl,hb⟩
 have Hn:=hid (show mJ s.data.toList=[UInt8.ofNat (jA s.data.toList / 16777216),UInt8.ofNat (jA s.data.toList / 65536),UInt8.ofNat (jA s.data.toList / 256),UInt8.ofNat (jA s.data.toList)] from rfl)
 generalize jA s.data.toList=n at hlt Hn
 have b:=fun (m:Nat)=>show (m:Int) % 256=(((UInt8.ofNat m).toNat:Nat):Int) from by rw [UInt8.toNat_ofNat']; omega
 have hrun:=vw (P:=Tryz.prog) (w:=w1) (n:=4) (c:=4) (cs:=#[.int .u8 ((n:Int) / 16777216),.int .u8 ((n:Int) / 65536 % 256),.int .u8 ((n:Int) / 256 % 256),.int .u8 ((n:Int) % 256)]) (l:=[UInt8.ofNat (n / 16777216),UInt8.ofNat (n / 65536),UInt8.ofNat (n / 256),UInt8.ofNat n]) Tryz.underlying84 Tryz.underlying5 Tryz.underlying9 (by
  simp only [bf,List.map_cons,List.map_nil]
  rw [← b,← b,← b,← b]
  have e1:(((n / 16777216:Nat):Int)) % 256=(n:Int) / 16777216:=by omega
  have e2:(((n / 65536:Nat):Int)) % 256=(n:Int) / 65536 % 256:=by omega
  have e3:(((n / 256:Nat):Int)) % 256=(n:Int) / 256 % 256:=by omega
  rw [e1,e2,e3]) rfl
 have HR:=hid hrun
 clear b hrun
 go_wp2_with fail
 rw [HR.out]
 go_wp2
 go_ret
 exact⟨I1 (by rw [Hn.out]),hb.alloc hb.size _⟩
def pJ (v k:Int) (p:ByteArray):ByteArray × Int:=
 if v<1∨3<v∨k<1∨4<k then (⟨#[]⟩,1) else if 6000<p.size then (⟨#[]⟩,2) else (⟨(cR v.toNat k.toNat p.data.toList).toArray⟩,0)
def iL (v k:Int) (p:ByteArray) (w:World) (e:Ending) (w':World):Prop:=e = .returned (.tuple #[.string (pJ v k p).1,.int .i64 (pJ v k p).2])∧Below w.heap.size w w'
theorem iL.arg {v k:Int} {p:ByteArray} {w w':World} (h:v<1∨3<v∨k<1∨4<k) (hb:Below w.heap.size w w'):iL v k p w (.returned (.tuple #[.string ⟨#[]⟩,.int .i64 1])) w':=⟨by unfold pJ; rw [if_pos h],hb⟩
theorem iL.large {v k:Int} {p:ByteArray} {w w':World} (h:¬ (v<1∨3<v∨k<1∨4<k)) (h2:6000<p.size) (hb:Below w.heap.size w w'):iL v k p w (.returned (.tuple #[.string ⟨#[]⟩,.int .i64 2])) w':=⟨by unfold pJ; rw [if_neg h,if_pos h2],hb⟩
theorem iL.ok {v k:Int} {p:ByteArray} {w w':World} {s:ByteArray} (h:¬ (v<1∨3<v∨k<1∨4<k)) (h2:¬ 6000<p.size) (hs:s.data.toList=cR v.toNat k.toNat p.data.toList) (hb:Below w.heap.size w w'):iL v k p w (.returned (.tuple #[.string s,.int .i64 0])) w':=
 ⟨by unfold pJ; rw [if_neg h,if_neg h2,← hs],hb⟩
end Go.Proofs.YtbllgmociapjeaaGreatDoor
/- The walk of frame.Encode. -/
namespace Go.Proofs.YtbllgmociapjeaaGreatDoor
open Go.Lib (hid)
open Go.RowKit
def I2 (g:Nat) (v k:Int) (p:ByteArray):Nat→Value→World→Prop
 | 0,u,_=>u = .pointer (some ⟨g,0,none⟩)
 | 1,u,_=>u = .int .i64 v
 | 2,u,_=>u = .int .u8 v
 | 3,u,_=>u = .pointer (some ⟨g,1,none⟩)
 | 4,u,_=>u = .int .i64 k
 | 5,u,_=>u = .int .u8 k
 | 6,u,w=>∃ b,u = .slice (some ⟨b,0,none⟩) 2 2∧w.cell? ⟨b,0,none⟩=some (.int .u8 v)∧w.cell? ⟨b,1,none⟩=some (.int .u8 k)
 | 7,u,_=>u = .string ⟨#[UInt8.ofNat v.toNat,UInt8.ofNat k.toNat]⟩
 | 8,u,_=>u = .string (⟨#[66,75]⟩ ++ ⟨#[UInt8.ofNat v.toNat,UInt8.ofNat k.toNat]⟩)
 | 9,u,_=>u = .pointer (some ⟨g,2,none⟩)
 | 10,u,_=>u = .string p
 | 11,u,_=>u = .int .i64 p.size
 | 12,u,_=>u = .int .u64 p.size
 | 13,u,_=>u = .string ⟨(aO p.size).toArray⟩
 | 14,u,_=>u = .string (⟨#[66,75]⟩ ++ ⟨#[UInt8.ofNat v.toNat,UInt8.ofNat k.toNat]⟩ ++ ⟨(aO p.size).toArray⟩)
 | 15,u,_=>u = .pointer (some ⟨g,2,none⟩)
 | 16,u,_=>u = .string p
 | _,u,_=>u = .string (⟨#[66,75]⟩ ++ ⟨#[UInt8.ofNat v.toNat,UInt8.ofNat k.toNat]⟩ ++ ⟨(aO p.size).toArray⟩ ++ p)
theorem Ag (g:Nat) (v k:Int) (p:ByteArray) (i:Nat) (u:Value) (w w':World) (h:I2 g v k p i u w) (hw:Ext w w'):I2 g v k p i u w':=by
 unfold I2 at *
 split at h
 case h_7=>obtain⟨b,e,h0,h1⟩:=h; exact⟨b,e,eX h0 hw,eX h1 hw⟩
 all_goals exact h
theorem yF (v k:Int) (p:ByteArray) (w:World) :
 Calls Tryz.prog 27 #[.agg #[.int .i64 v,.int .i64 k,.string p]] w (iL v k p w):=by
 by_cases hv:v<1∨3<v
 · have bI:=hid (fun (w':World)=>iL.arg (v:=v) (k:=k) (p:=p) (w:=w) (w':=w') (by omega))
   have HV:=hid hv
   clear hv
   go_enter Tryz.func27,Tryz.ntmps27
   go_wp2_with (go_at_call 22; refine (qX _ HV.out _).mono ?_; rintro e w' ⟨rfl,rfl⟩)
   go_ret2
   exact bI.out _ ((Below.refl _ _).alloc (Nat.le_refl _) _)
 have hv1:1≤v:=by omega
 have hv2:v≤3:=by omega
 clear hv
 by_cases hk:k<1∨4<k
 · have bI:=hid (fun (w':World)=>iL.arg (v:=v) (k:=k) (p:=p) (w:=w) (w':=w') (by omega))
   have HK:=hid hk
   clear hk
   go_enter Tryz.func27,Tryz.ntmps27
   go_wp2_with (first | (go_at_call 22; refine (jX _ hv1 hv2 _).mono ?_; rintro e w' ⟨rfl,rfl⟩) | (go_at_call 23; refine (xN _ HK.out _).mono ?_; rintro e w' ⟨rfl,rfl⟩))
   go_ret2
   exact bI.out _ ((Below.refl _ _).alloc (Nat.le_refl _) _)
 have hk1:1≤k:=by omega
 have hk2:k≤4:=by omega
 clear hk
 by_cases hp:6000<p.size
 · have bI:=hid (fun (w':World)=>iL.large (v:=v) (k:=k) (p:=p) (w:=w) (w':=w') (by omega) hp)
   go_enter Tryz.func27,Tryz.ntmps27
   go_wp2_with (first | (go_at_call 22; refine (jX _ hv1 hv2 _).mono ?_; rintro e w' ⟨rfl,rfl⟩) | (go_at_call 23; refine (qg _ hk1 hk2 _).mono ?_; rintro e w' ⟨rfl,rfl⟩))
   go_ret2
   exact bI.out _ ((Below.refl _ _).alloc (Nat.le_refl _) _)
 have hv8:v=(((UInt8.ofNat v.toNat).toNat:Nat):Int):=by rw [UInt8.toNat_ofNat']; omega
 have hk8:k=(((UInt8.ofNat k.toNat).toNat:Nat):Int):=by rw [UInt8.toNat_ofNat']; omega
 have LC:∀ (W:World) (g:Nat),W.cell? ⟨g,0,none⟩=some (.int .u8 v)→W.cell? ⟨g,1,none⟩=some (.int .u8 k)→(convert 84 9 (.slice (some ⟨g,0,none⟩) 2 2)).run Tryz.prog W = .ok (.string ⟨#[UInt8.ofNat v.toNat,UInt8.ofNat k.toNat]⟩) W:=by
  intro W g h0 h1
  exact LD W g (by rw [← hv8]; exact h0) (by rw [← hk8]; exact h1)
 clear hv8 hk8
 have wv:IntKind.u8.wrap v=v:=by rw [IntKind.wrap_u8']; omega
 have wk:IntKind.u8.wrap k=k:=by rw [IntKind.wrap_u8']; omega
 have wp:IntKind.u64.wrap (p.size:Int)=p.size:=by rw [IntKind.wrap_u64]; omega
 have hl:=(cH p.size).2
 have c1:¬ 9223372036854775807<4+(aO p.size).length:=by omega
 have c2:¬ 9223372036854775807<4+(aO p.size).length+p.size:=by omega
 have Hlen:=hid (FV v.toNat k.toNat p.data.toList)
 have bI:=hid (fun (s:ByteArray) (w':World)=>iL.ok (v:=v) (k:=k) (p:=p) (w:=w) (w':=w') (s:=s) (by omega) hp)
 clear hl
 go_enter Tryz.func27,Tryz.ntmps27
 go_upto_region 5 with (first | (go_at_call 22; refine (jX _ hv1 hv2 _).mono ?_; rintro e w' ⟨rfl,rfl⟩) | (go_at_call 23; refine (qg _ hk1 hk2 _).mono ?_; rintro e w' ⟨rfl,rfl⟩))
 go_cut [4] (fun s wx=>∃ S:ByteArray,s = .string S∧S.data.toList=mK v.toNat k.toNat p.data.toList∧Below w.heap.size w wx)
 case first=>
  generalize hw0:w.alloc (.cells #[.int .i64 v,.int .i64 k,.string p] 40)=w0
  have hb0:Below w.heap.size w w0:=by rw [← hw0]; exact (Below.refl _ _).alloc (Nat.le_refl _) _
  have g0:w0.cell? ⟨w.heap.size,0,none⟩=some (.int .i64 v):=by rw [← hw0]; simp [go_sem]
  have g1:w0.cell? ⟨w.heap.size,1,none⟩=some (.int .i64 k):=by rw [← hw0]; simp [go_sem]
  have g2:w0.cell? ⟨w.heap.size,2,none⟩=some (.string p):=by rw [← hw0]; simp [go_sem]
  have hg:w.heap.size<w0.heap.size:=by rw [← hw0]; simp
  clear hw0
  refine kJ (n:=43) (by kernel_rfl) (I2 w.heap.size v k p) (by decide +kernel) rfl (Ag _ _ _ _) ?_ ?_
  · refine⟨?_,?_,?_,?_,?_,?_,?_,?_,?_,?_,?_,?_,?_,?_,?_,?_,?_,?_,?_,trivial⟩
    all_goals (intro a wx hle hkeep fF; refine⟨rfl,?_⟩)
    · have h1:=hkeep 1 _ rfl (by decide +kernel)
      simp [go_sem,Oper.wp,execOp,Act.eval,h1]
      exact⟨_,rfl,Below.refl _ _,rfl⟩
    · obtain⟨u1,h1,r1⟩:=fF 0 _ 21 rfl rfl (by decide +kernel)
      replace r1:u1=_:=r1
      subst r1
      have hc:=eX g0 hle
      simp [go_sem,Oper.wp,execOp,Act.eval,h1,hc]
      exact⟨_,rfl,Below.refl _ _,rfl⟩
    · obtain⟨u1,h1,r1⟩:=fF 1 _ 22 rfl rfl (by decide +kernel)
      replace r1:u1=_:=r1
      subst r1
      simp [go_sem,Oper.wp,execOp,Act.eval,h1,wv]
      exact⟨_,rfl,Below.refl _ _,rfl⟩
    · have h1:=hkeep 1 _ rfl (by decide +kernel)
      simp [go_sem,Oper.wp,execOp,Act.eval,h1]
      exact⟨_,rfl,Below.refl _ _,rfl⟩
    · obtain⟨u1,h1,r1⟩:=fF 3 _ 24 rfl rfl (by decide +kernel)
      replace r1:u1=_:=r1
      subst r1
      have hc:=eX g1 hle
      simp [go_sem,Oper.wp,execOp,Act.eval,h1,hc]
      exact⟨_,rfl,Below.refl _ _,rfl⟩
    · obtain⟨u1,h1,r1⟩:=fF 4 _ 25 rfl rfl (by decide +kernel)
      replace r1:u1=_:=r1
      subst r1
      simp [go_sem,Oper.wp,execOp,Act.eval,h1,wk]
      exact⟨_,rfl,Below.refl _ _,rfl⟩
    · obtain⟨u1,h1,r1⟩:=fF 2 _ 23 rfl rfl (by decide +kernel)
      replace r1:u1=_:=r1
      subst r1
      obtain⟨u2,h2,r2⟩:=fF 5 _ 26 rfl rfl (by decide +kernel)
      replace r2:u2=_:=r2
      subst r2
      simp [go_sem,Oper.wp,execOp,Act.eval,h1,h2]
      exact⟨_,rfl,(Below.refl _ _).alloc (Nat.le_refl _) _,wx.heap.size,rfl,by simp [go_sem],by simp [go_sem]⟩
    · obtain⟨u1,h1,b,e1,x0,x1⟩:=fF 6 _ 27 rfl rfl (by decide +kernel)
      subst e1
      have hr:=LC wx b x0 x1
      simp [go_sem,Oper.wp,execOp,Act.eval,h1,hr]
      exact⟨_,rfl,Below.refl _ _,rfl⟩
    · obtain⟨u1,h1,r1⟩:=fF 7 _ 28 rfl rfl (by decide +kernel)
      replace r1:u1=_:=r1
      subst r1
      simp [go_sem,Oper.wp,execOp,Act.eval,h1]
      exact⟨_,rfl,Below.refl _ _,rfl⟩
    · have h1:=hkeep 1 _ rfl (by decide +kernel)
      simp [go_sem,Oper.wp,execOp,Act.eval,h1]
      exact⟨_,rfl,Below.refl _ _,rfl⟩
    · obtain⟨u1,h1,r1⟩:=fF 9 _ 30 rfl rfl (by decide +kernel)
      replace r1:u1=_:=r1
      subst r1
      have hc:=eX g2 hle
      simp [go_sem,Oper.wp,execOp,Act.eval,h1,hc]
      exact⟨_,rfl,Below.refl _ _,rfl⟩
    · obtain⟨u1,h1,r1⟩:=fF 10 _ 31 rfl rfl (by decide +kernel)
      replace r1:u1=_:=r1
      subst r1
      simp [go_sem,Oper.wp,execOp,Act.eval,h1]
      exact⟨_,rfl,Below.refl _ _,rfl⟩
    · obtain⟨u1,h1,r1⟩:=fF 11 _ 32 rfl rfl (by decide +kernel)
      replace r1:u1=_:=r1
      subst r1
      simp [go_sem,Oper.wp,execOp,Act.eval,h1,wp]
      exact⟨_,rfl,Below.refl _ _,rfl⟩
    · obtain⟨u1,h1,r1⟩:=fF 12 _ 33 rfl rfl (by decide +kernel)
      replace r1:u1=_:=r1
      subst r1
      simp [go_sem,Oper.wp,execOp,Act.eval,h1]
      refine (vA _ _ (by omega) (by omega)).mono ?_
      rintro e w' ⟨rfl,hb⟩
      exact⟨_,rfl,hb,rfl⟩
    · obtain⟨u1,h1,r1⟩:=fF 8 _ 29 rfl rfl (by decide +kernel)
      replace r1:u1=_:=r1
      subst r1
      obtain⟨u2,h2,r2⟩:=fF 13 _ 34 rfl rfl (by decide +kernel)
      replace r2:u2=_:=r2
      subst r2
      simp [go_sem,Oper.wp,execOp,Act.eval,h1,h2,c1]
      exact⟨_,rfl,Below.refl _ _,rfl⟩
    · have h1:=hkeep 1 _ rfl (by decide +kernel)
      simp [go_sem,Oper.wp,execOp,Act.eval,h1]
      exact⟨_,rfl,Below.refl _ _,rfl⟩
    · obtain⟨u1,h1,r1⟩:=fF 15 _ 36 rfl rfl (by decide +kernel)
      replace r1:u1=_:=r1
      subst r1
      have hc:=eX g2 hle
      simp [go_sem,Oper.wp,execOp,Act.eval,h1,hc]
      exact⟨_,rfl,Below.refl _ _,rfl⟩
    · obtain⟨u1,h1,r1⟩:=fF 14 _ 35 rfl rfl (by decide +kernel)
      replace r1:u1=_:=r1
      subst r1
      obtain⟨u2,h2,r2⟩:=fF 16 _ 37 rfl rfl (by decide +kernel)
      replace r2:u2=_:=r2
      subst r2
      simp [go_sem,Oper.wp,execOp,Act.eval,h1,h2,c2]
      exact⟨_,rfl,Below.refl _ _,rfl⟩
    · obtain⟨u1,h1,r1⟩:=fF 17 _ 38 rfl rfl (by decide +kernel)
      replace r1:u1=_:=r1
      subst r1
      simp [go_sem,Oper.wp,execOp,Act.eval,h1]
      exact⟨_,rfl,Below.refl _ _,rfl⟩
  · intro a wx hd
    obtain⟨f,hfe,hf⟩:=hd.frame' [21,22,23,24,25,26,27,28,29,30,31,32,33,34,35,36,37,38,4] rfl
    have r4:f 4=_:=hf 18 _ 4 rfl rfl
    have hle:=hd.le
    clear hd hf
    subst hfe
    simp only [List.foldl_cons,List.foldl_nil,List.setIfInBounds_toArray,List.set_cons_succ,List.set_cons_zero,r4]
    clear r4
    go_wp2_with fail
    go_meet
    exact⟨_,rfl,by
     simp only [ByteArray.toList_data_append,mK]
     have e:p.data.toList.length=p.size:=by rw [Array.length_toList]; rfl
     rw [e]; simp,hb0.trans (hle.mono hb0.size)⟩
 case rest=>
  obtain⟨S,rfl,hS,hb1⟩:=hcut
  have HS:=hid hS
  have hSz:S.size≤6015:=by
   have h1:=Hlen.out
   rw [← HS.out] at h1
   have e:p.data.toList.length=p.size:=by rw [Array.length_toList]; rfl
   have e2:S.data.toList.length=S.size:=by rw [Array.length_toList]; rfl
   omega
  clear hS Hlen
  go_wp2_with fail
  refine Calls.mono (Ae S _ (by omega)) ?_
  rintro e w2 ⟨rfl,hb2⟩
  have hb:=hb1.trans (hb2.mono hb1.size)
  clear hb1 hb2
  have hl4:(mJ S.data.toList).length≤4:=Nat.le_refl 4
  have aP:=hid (bI.out (S ++ ⟨(mJ S.data.toList).toArray⟩) w2 (by rw [ByteArray.toList_data_append,HS.out]; rfl) hb)
  clear bI hb
  go_wp2
  go_ret2
  exact aP.out
end Go.Proofs.YtbllgmociapjeaaGreatDoor
/- What Encode of a delta says: plain. -/
namespace Go.Proofs.YtbllgmociapjeaaGreatDoor
open Go.Lib (hid)
open Go.RowKit
theorem vB:∀ {l:List Int},iO l=0→∀ e ∈ l,e=0
 | [],_,e,he=>by cases he
 | x :: l,h,e,he=>by
  by_cases hx:x=0
  · rw [tI hx] at h
    rcases List.mem_cons.1 he with rfl | he
    · exact hx
    · exact vB h e he
  · rw [tJ hx] at h; exact absurd h hx
def nO (d:aW):List UInt8:=aO d.from_.toNat ++ aO (d.to_ - d.from_).toNat ++ fV (fun x=>eG x 3) d.jobs ++ fV (fun x=>cN x 3) d.nodes ++ fV dL d.leases ++ fV dN d.gj ++ fV dN d.gn ++ fV dN d.gl
def jC (d:aW):ByteArray × Int:=if gJ d=0 then (if 6000<(nO d).length then (⟨#[]⟩,2) else (⟨(nO d).toArray⟩,0)) else (⟨#[]⟩,gJ d)
def lu (d:aW) (w:World) (e:Ending) (w':World):Prop:=e = .returned (.tuple #[.string (jC d).1,.int .i64 (jC d).2])∧Below w.heap.size w w'
theorem lu.bad {d:aW} {w w':World} {E:Int} (h:gJ d=E) (hE:E≠0) (hb:Below w.heap.size w w'):lu d w (.returned (.tuple #[.string ⟨#[]⟩,.int .i64 E])) w':=by
 refine⟨?_,hb⟩; unfold jC; rw [if_neg (by rw [h]; exact hE),h]
theorem lu.large {d:aW} {w w':World} (h:gJ d=0) (hL:6000<(nO d).length) (hb:Below w.heap.size w w'):lu d w (.returned (.tuple #[.string ⟨#[]⟩,.int .i64 2])) w':=by
 refine⟨?_,hb⟩; unfold jC; rw [if_pos h,if_pos hL]
theorem lu.ok {d:aW} {w w':World} {s:ByteArray} (h:gJ d=0) (hL:¬ 6000<(nO d).length) (hs:s=⟨(nO d).toArray⟩) (hb:Below w.heap.size w w'):lu d w (.returned (.tuple #[.string s,.int .i64 0])) w':=by
 refine⟨?_,hb⟩; unfold jC; rw [if_pos h,if_neg hL,hs]
structure LE (d:aW):Prop where
 t0:0≤d.from_
 t1:d.from_<d.to_
 t2:d.to_≤1099511627776
 nj:d.jobs.length≤40
 nn:d.nodes.length≤20
 nl:d.leases.length≤40
 ngj:d.gj.length≤40
 ngn:d.gn.length≤20
 ngl:d.gl.length≤40
 jobs:∀ x ∈ d.jobs,ug x
 nodes:∀ x ∈ d.nodes,oh x
 leases:∀ x ∈ d.leases,sG x
theorem Lv {d:aW} (h:gJ d=0):LE d:=by
 have ht:lI d=true:=by
  cases hh:lI d
  · rw [yK hh] at h; exact absurd h (by decide)
  · rfl
 have hs:mE d=true:=by
  cases hh:mE d
  · rw [uT ht hh] at h; exact absurd h (by decide)
  · rfl
 rw [CZ ht hs] at h
 have hall:=vB h
 unfold lI at ht
 unfold mE at hs
 simp only [Bool.and_eq_true,decide_eq_true_eq,aL] at ht hs
 have hj:=(lM (E:=fB) (key:=aC.name) none d.jobs (hall _ (by simp [xM,bT]))).1
 have hn:=(lM (E:=dO) (key:=aA.name) none d.nodes (hall _ (by simp [xM,bT]))).1
 have hl:=(lM (E:=lsE) (key:=ak.job) none d.leases (hall _ (by simp [xM,bT]))).1
 exact⟨by omega,by omega,by omega,by omega,by omega,by omega,by omega,by omega,by omega,fun x hx=>C8 (hj x hx).1,fun x hx=>Ah (hn x hx).1,fun x hx=>DY (hl x hx).1⟩
end Go.Proofs.YtbllgmociapjeaaGreatDoor
