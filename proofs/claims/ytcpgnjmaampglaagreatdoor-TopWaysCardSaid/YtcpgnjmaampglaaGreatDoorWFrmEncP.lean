/- Of the proof of a statement: FrmEncP, SvTop, DoD, ReqEA, ReqE1, ReqDA, UpSteps. -/
import Derived.Deep.DeepCutAuto
import Derived.Test.YtcpgnjmaampglaaGreatDoorWDEnc
import Derived.Test.YtcpgnjmaampglaaGreatDoorWWPutV
set_option linter.unusedVariables false
set_option linter.unusedSimpArgs false
set_option maxRecDepth 100000
set_option maxHeartbeats 8000000
/- The walk of frame.Encode. -/
namespace Go.Proofs.YtcpgnjmaampglaaGreatDoor
open Go.Lib (hid)
open Go.RowKit
def Ny (g:Nat) (v k:Int) (p:ByteArray):Nat→Value→World→Prop
 | 0,u,_=>u = .pointer (some ⟨g,0,none⟩)
 | 1,u,_=>u = .int .i64 v
 | 2,u,_=>u = .int .u8 v
 | 3,u,_=>u = .pointer (some ⟨g,1,none⟩)
 | 4,u,_=>u = .int .i64 k
 | 5,u,_=>u = .int .u8 k
 | 6,u,w=>∃ b,u = .slice (some ⟨b,0,none⟩) 2 2∧w.cell? ⟨b,0,none⟩=some (.int .u8 v)∧w.cell? ⟨b,1,none⟩=some (.int .u8 k)
 | 7,u,_=>u = .string ⟨#[UInt8.ofNat v.toNat,UInt8.ofNat k.toNat]⟩
 | 8,u,_=>u = .string (⟨#[66,75]⟩ ++ ⟨#[UInt8.ofNat v.toNat,UInt8.ofNat k.toNat]⟩)
 | 9,u,_=>u = .pointer (some ⟨g,2,none⟩)
 | 10,u,_=>u = .string p
 | 11,u,_=>u = .int .i64 p.size
 | 12,u,_=>u = .int .u64 p.size
 | 13,u,_=>u = .string ⟨(bg p.size).toArray⟩
 | 14,u,_=>u = .string (⟨#[66,75]⟩ ++ ⟨#[UInt8.ofNat v.toNat,UInt8.ofNat k.toNat]⟩ ++ ⟨(bg p.size).toArray⟩)
 | 15,u,_=>u = .pointer (some ⟨g,2,none⟩)
 | 16,u,_=>u = .string p
 | _,u,_=>u = .string (⟨#[66,75]⟩ ++ ⟨#[UInt8.ofNat v.toNat,UInt8.ofNat k.toNat]⟩ ++ ⟨(bg p.size).toArray⟩ ++ p)
theorem DT (g:Nat) (v k:Int) (p:ByteArray) (i:Nat) (u:Value) (w w':World) (h:Ny g v k p i u w) (hw:Ext w w'):Ny g v k p i u w':=by
 unfold Ny at *
 split at h
 case h_7=>obtain⟨b,e,h0,h1⟩:=h; exact⟨b,e,fG h0 hw,fG h1 hw⟩
 all_goals exact h
theorem Cx (v k:Int) (p:ByteArray) (w:World) :
 Calls Tryz.prog 21 #[.agg #[.int .i64 v,.int .i64 k,.string p]] w (jq v k p w):=by
 by_cases hv:v<1∨3<v
 · have bJ:=hid (fun (w':World)=>jq.arg (v:=v) (k:=k) (p:=p) (w:=w) (w':=w') (by omega))
   have HV:=hid hv
   clear hv
   go_enter Tryz.func21,Tryz.ntmps21
   go_wp2_with (go_at_call 71; refine (tV _ HV.out _).mono ?_; rintro e w' ⟨rfl,rfl⟩)
   go_ret2
   exact bJ.out _ ((Below.refl _ _).alloc (Nat.le_refl _) _)
 have hv1:1≤v:=by omega
 have hv2:v≤3:=by omega
 clear hv
 by_cases hk:k<1∨4<k
 · have bJ:=hid (fun (w':World)=>jq.arg (v:=v) (k:=k) (p:=p) (w:=w) (w':=w') (by omega))
   have HK:=hid hk
   clear hk
   go_enter Tryz.func21,Tryz.ntmps21
   go_wp2_with (first | (go_at_call 71; refine (lA _ hv1 hv2 _).mono ?_; rintro e w' ⟨rfl,rfl⟩) | (go_at_call 72; refine (Br _ HK.out _).mono ?_; rintro e w' ⟨rfl,rfl⟩))
   go_ret2
   exact bJ.out _ ((Below.refl _ _).alloc (Nat.le_refl _) _)
 have hk1:1≤k:=by omega
 have hk2:k≤4:=by omega
 clear hk
 by_cases hp:6000<p.size
 · have bJ:=hid (fun (w':World)=>jq.large (v:=v) (k:=k) (p:=p) (w:=w) (w':=w') (by omega) hp)
   go_enter Tryz.func21,Tryz.ntmps21
   go_wp2_with (first | (go_at_call 71; refine (lA _ hv1 hv2 _).mono ?_; rintro e w' ⟨rfl,rfl⟩) | (go_at_call 72; refine (sU _ hk1 hk2 _).mono ?_; rintro e w' ⟨rfl,rfl⟩))
   go_ret2
   exact bJ.out _ ((Below.refl _ _).alloc (Nat.le_refl _) _)
 have hv8:v=(((UInt8.ofNat v.toNat).toNat:Nat):Int):=by rw [UInt8.toNat_ofNat']; omega
 have hk8:k=(((UInt8.ofNat k.toNat).toNat:Nat):Int):=by rw [UInt8.toNat_ofNat']; omega
 have QR:∀ (W:World) (g:Nat),W.cell? ⟨g,0,none⟩=some (.int .u8 v)→W.cell? ⟨g,1,none⟩=some (.int .u8 k)→(convert 118 9 (.slice (some ⟨g,0,none⟩) 2 2)).run Tryz.prog W = .ok (.string ⟨#[UInt8.ofNat v.toNat,UInt8.ofNat k.toNat]⟩) W:=by
  intro W g h0 h1
  exact QS W g (by rw [← hv8]; exact h0) (by rw [← hk8]; exact h1)
 clear hv8 hk8
 have wv:IntKind.u8.wrap v=v:=by rw [IntKind.wrap_u8']; omega
 have wk:IntKind.u8.wrap k=k:=by rw [IntKind.wrap_u8']; omega
 have wp:IntKind.u64.wrap (p.size:Int)=p.size:=by rw [IntKind.wrap_u64]; omega
 have hl:=(dP p.size).2
 have c1:¬ 9223372036854775807<4+(bg p.size).length:=by omega
 have c2:¬ 9223372036854775807<4+(bg p.size).length+p.size:=by omega
 have Hlen:=hid (K9 v.toNat k.toNat p.data.toList)
 have bJ:=hid (fun (s:ByteArray) (w':World)=>jq.ok (v:=v) (k:=k) (p:=p) (w:=w) (w':=w') (s:=s) (by omega) hp)
 clear hl
 go_enter Tryz.func21,Tryz.ntmps21
 go_upto_region 5 with (first | (go_at_call 71; refine (lA _ hv1 hv2 _).mono ?_; rintro e w' ⟨rfl,rfl⟩) | (go_at_call 72; refine (sU _ hk1 hk2 _).mono ?_; rintro e w' ⟨rfl,rfl⟩))
 go_cut [4] (fun s wx=>∃ S:ByteArray,s = .string S∧S.data.toList=oQ v.toNat k.toNat p.data.toList∧Below w.heap.size w wx)
 case first=>
  generalize hw0:w.alloc (.cells #[.int .i64 v,.int .i64 k,.string p] 43)=w0
  have hb0:Below w.heap.size w w0:=by rw [← hw0]; exact (Below.refl _ _).alloc (Nat.le_refl _) _
  have g0:w0.cell? ⟨w.heap.size,0,none⟩=some (.int .i64 v):=by rw [← hw0]; simp [go_sem]
  have g1:w0.cell? ⟨w.heap.size,1,none⟩=some (.int .i64 k):=by rw [← hw0]; simp [go_sem]
  have g2:w0.cell? ⟨w.heap.size,2,none⟩=some (.string p):=by rw [← hw0]; simp [go_sem]
  have hg:w.heap.size<w0.heap.size:=by rw [← hw0]; simp
  clear hw0
  refine eO (n:=43) (by kernel_rfl) (Ny w.heap.size v k p) (by decide +kernel) rfl (DT _ _ _ _) ?_ ?_
  · refine⟨?_,?_,?_,?_,?_,?_,?_,?_,?_,?_,?_,?_,?_,?_,?_,?_,?_,?_,?_,trivial⟩
    all_goals (intro a wx hle hkeep cH; refine⟨rfl,?_⟩)
    · have h1:=hkeep 1 _ rfl (by decide +kernel)
      simp [go_sem,Oper.wp,execOp,Act.eval,h1]
      exact⟨_,rfl,Below.refl _ _,rfl⟩
    · obtain⟨u1,h1,r1⟩:=cH 0 _ 21 rfl rfl (by decide +kernel)
      replace r1:u1=_:=r1
      subst r1
      have hc:=fG g0 hle
      simp [go_sem,Oper.wp,execOp,Act.eval,h1,hc]
      exact⟨_,rfl,Below.refl _ _,rfl⟩
    · obtain⟨u1,h1,r1⟩:=cH 1 _ 22 rfl rfl (by decide +kernel)
      replace r1:u1=_:=r1
      subst r1
      simp [go_sem,Oper.wp,execOp,Act.eval,h1,wv]
      exact⟨_,rfl,Below.refl _ _,rfl⟩
    · have h1:=hkeep 1 _ rfl (by decide +kernel)
      simp [go_sem,Oper.wp,execOp,Act.eval,h1]
      exact⟨_,rfl,Below.refl _ _,rfl⟩
    · obtain⟨u1,h1,r1⟩:=cH 3 _ 24 rfl rfl (by decide +kernel)
      replace r1:u1=_:=r1
      subst r1
      have hc:=fG g1 hle
      simp [go_sem,Oper.wp,execOp,Act.eval,h1,hc]
      exact⟨_,rfl,Below.refl _ _,rfl⟩
    · obtain⟨u1,h1,r1⟩:=cH 4 _ 25 rfl rfl (by decide +kernel)
      replace r1:u1=_:=r1
      subst r1
      simp [go_sem,Oper.wp,execOp,Act.eval,h1,wk]
      exact⟨_,rfl,Below.refl _ _,rfl⟩
    · obtain⟨u1,h1,r1⟩:=cH 2 _ 23 rfl rfl (by decide +kernel)
      replace r1:u1=_:=r1
      subst r1
      obtain⟨u2,h2,r2⟩:=cH 5 _ 26 rfl rfl (by decide +kernel)
      replace r2:u2=_:=r2
      subst r2
      simp [go_sem,Oper.wp,execOp,Act.eval,h1,h2]
      exact⟨_,rfl,(Below.refl _ _).alloc (Nat.le_refl _) _,wx.heap.size,rfl,by simp [go_sem],by simp [go_sem]⟩
    · obtain⟨u1,h1,b,e1,x0,x1⟩:=cH 6 _ 27 rfl rfl (by decide +kernel)
      subst e1
      have hr:=QR wx b x0 x1
      simp [go_sem,Oper.wp,execOp,Act.eval,h1,hr]
      exact⟨_,rfl,Below.refl _ _,rfl⟩
    · obtain⟨u1,h1,r1⟩:=cH 7 _ 28 rfl rfl (by decide +kernel)
      replace r1:u1=_:=r1
      subst r1
      simp [go_sem,Oper.wp,execOp,Act.eval,h1]
      exact⟨_,rfl,Below.refl _ _,rfl⟩
    · have h1:=hkeep 1 _ rfl (by decide +kernel)
      simp [go_sem,Oper.wp,execOp,Act.eval,h1]
      exact⟨_,rfl,Below.refl _ _,rfl⟩
    · obtain⟨u1,h1,r1⟩:=cH 9 _ 30 rfl rfl (by decide +kernel)
      replace r1:u1=_:=r1
      subst r1
      have hc:=fG g2 hle
      simp [go_sem,Oper.wp,execOp,Act.eval,h1,hc]
      exact⟨_,rfl,Below.refl _ _,rfl⟩
    · obtain⟨u1,h1,r1⟩:=cH 10 _ 31 rfl rfl (by decide +kernel)
      replace r1:u1=_:=r1
      subst r1
      simp [go_sem,Oper.wp,execOp,Act.eval,h1]
      exact⟨_,rfl,Below.refl _ _,rfl⟩
    · obtain⟨u1,h1,r1⟩:=cH 11 _ 32 rfl rfl (by decide +kernel)
      replace r1:u1=_:=r1
      subst r1
      simp [go_sem,Oper.wp,execOp,Act.eval,h1,wp]
      exact⟨_,rfl,Below.refl _ _,rfl⟩
    · obtain⟨u1,h1,r1⟩:=cH 12 _ 33 rfl rfl (by decide +kernel)
      replace r1:u1=_:=r1
      subst r1
      simp [go_sem,Oper.wp,execOp,Act.eval,h1]
      refine (yL _ _ (by omega) (by omega)).mono ?_
      rintro e w' ⟨rfl,hb⟩
      exact⟨_,rfl,hb,rfl⟩
    · obtain⟨u1,h1,r1⟩:=cH 8 _ 29 rfl rfl (by decide +kernel)
      replace r1:u1=_:=r1
      subst r1
      obtain⟨u2,h2,r2⟩:=cH 13 _ 34 rfl rfl (by decide +kernel)
      replace r2:u2=_:=r2
      subst r2
      simp [go_sem,Oper.wp,execOp,Act.eval,h1,h2,c1]
      exact⟨_,rfl,Below.refl _ _,rfl⟩
    · have h1:=hkeep 1 _ rfl (by decide +kernel)
      simp [go_sem,Oper.wp,execOp,Act.eval,h1]
      exact⟨_,rfl,Below.refl _ _,rfl⟩
    · obtain⟨u1,h1,r1⟩:=cH 15 _ 36 rfl rfl (by decide +kernel)
      replace r1:u1=_:=r1
      subst r1
      have hc:=fG g2 hle
      simp [go_sem,Oper.wp,execOp,Act.eval,h1,hc]
      exact⟨_,rfl,Below.refl _ _,rfl⟩
    · obtain⟨u1,h1,r1⟩:=cH 14 _ 35 rfl rfl (by decide +kernel)
      replace r1:u1=_:=r1
      subst r1
      obtain⟨u2,h2,r2⟩:=cH 16 _ 37 rfl rfl (by decide +kernel)
      replace r2:u2=_:=r2
      subst r2
      simp [go_sem,Oper.wp,execOp,Act.eval,h1,h2,c2]
      exact⟨_,rfl,Below.refl _ _,rfl⟩
    · obtain⟨u1,h1,r1⟩:=cH 17 _ 38 rfl rfl (by decide +kernel)
      replace r1:u1=_:=r1
      subst r1
      simp [go_sem,Oper.wp,execOp,Act.eval,h1]
      exact⟨_,rfl,Below.refl _ _,rfl⟩
  · intro a wx hd
    obtain⟨f,hfe,hf⟩:=hd.frame' [21,22,23,24,25,26,27,28,29,30,31,32,33,34,35,36,37,38,4] rfl
    have r4:f 4=_:=hf 18 _ 4 rfl rfl
    have hle:=hd.le
    clear hd hf
    subst hfe
    simp only [List.foldl_cons,List.foldl_nil,List.setIfInBounds_toArray,List.set_cons_succ,List.set_cons_zero,r4]
    clear r4
    go_wp2_with fail
    go_meet
    exact⟨_,rfl,by
     simp only [ByteArray.toList_data_append,oQ]
     have e:p.data.toList.length=p.size:=by rw [Array.length_toList]; rfl
     rw [e]; simp,hb0.trans (hle.mono hb0.size)⟩
 case rest=>
  obtain⟨S,rfl,hS,hb1⟩:=hcut
  have HS:=hid hS
  have hSz:S.size≤6015:=by
   have h1:=Hlen.out
   rw [← HS.out] at h1
   have e:p.data.toList.length=p.size:=by rw [Array.length_toList]; rfl
   have e2:S.data.toList.length=S.size:=by rw [Array.length_toList]; rfl
   omega
  clear hS Hlen
  go_wp2_with fail
  refine Calls.mono (DN S _ (by omega)) ?_
  rintro e w2 ⟨rfl,hb2⟩
  have hb:=hb1.trans (hb2.mono hb1.size)
  clear hb1 hb2
  have hl4:(oP S.data.toList).length≤4:=Nat.le_refl 4
  have cX:=hid (bJ.out (S ++ ⟨(oP S.data.toList).toArray⟩) w2 (by rw [ByteArray.toList_data_append,HS.out]; rfl) hb)
  clear bJ hb
  go_wp2
  go_ret2
  exact cX.out
def yg (st:ah) (w:World) (e:Ending) (w':World):Prop:=
 Below w.heap.size w w'∧((ay st≠0∧e = .returned (.tuple #[.pointer none,.int .i64 (ay st)])) ∨
  (ay st=0∧∃ V x',e = .returned (.tuple #[.pointer (some ⟨V,0,none⟩),.int .i64 0])∧w.heap.size≤V∧SrvAt w' 215 V st x' 0))
theorem Lc {w:World} {B:Nat} {st:ah} {x:StA} (h:StAt w B st x):nP st.jobs∧kX st.nodes∧ji st.leases:=⟨h.oj,h.on_,h.ol⟩
theorem Je (st:ah) (x:StA) (w:World) (hS:StAt w w.heap.size st x) (hT:Tabs w) :
 Calls Tryz.prog 54 #[.agg (stC st x)] w (yg st w):=by
 obtain⟨W,hW⟩:∃ W,w.alloc (.cells (stC st x) 26)=W:=⟨_,rfl⟩
 have hbW:Below w.heap.size w W:=by rw [← hW]; exact (Below.refl _ _).alloc (Nat.le_refl _) _
 have hB:Blk W w.heap.size 26 (stC st x):=by rw [← hW]; exact heap_alloc_new w _
 have hS1:=hS.upS hbW
 have HC:=hid (show Calls Tryz.prog 7 #[.agg #[.int .i64 st.rev,.slice x.aj x.nj x.cj,.slice x.an x.nn x.cn,.slice x.al x.nl x.cl]] W _ from fq st x W hS1 (hT.below hbW))
 obtain⟨c0,c1,c2,c3⟩:=Blk.c4 (hB)
 have hlt:=hB.lt
 have HB:=hid hB
 have HbW:=hid hbW
 have HS:=hid hS1
 have HW:=hid hW
 obtain⟨E,hE⟩:∃ E,ay st=E:=⟨_,rfl⟩
 have HE:=hid hE
 clear hW hB hbW hS hS1 hT hE
 unfold stC at HW ⊢
 go_enter Tryz.func54,Tryz.ntmps54
 go_wp2_with fail
 try rw [HW.out]
 clear HW
 refine Calls.mono HC.out ?_
 rintro e w1 ⟨rfl,hb1⟩
 rw [HE.out]
 have HB1:=hid (HB.out.below hb1 HB.out.lt)
 have Hb1:=hid (HbW.out.trans (hb1.mono HbW.out.size))
 have HS1:=hid (HS.out.upS hb1)
 clear hb1 HC HB HbW HS c0 c1 c2 c3 hlt
 by_cases h0:E=0
 · have HE0:=hid (HE.out.trans h0)
   subst h0
   have hsz:=zk HS1.out HE0.out
   have HO:=hid (show Calls Tryz.prog 114 #[.agg #[.int .i64 st.rev,.slice x.aj x.nj x.cj,.slice x.an x.nn x.cn,.slice x.al x.nl x.cl]] w1 _ from zl st x w1 HS1.out (by omega) (by omega) (by omega))
   have Hsz:=hid hsz
   clear hsz HE
   obtain⟨c0,c1,c2,c3⟩:=Blk.c4 (HB1.out)
   have hlt:=HB1.out.lt
   go_wp2_with fail
   refine Calls.mono HO.out ?_
   rintro e w2 ⟨y,rfl,e1,e2,e3,ho,hb2⟩
   obtain⟨oj,on_,ol⟩:=Lc HS1.out
   have hA2:=ho.at2 (by have:=Hsz.out; omega) (by have:=Hsz.out; omega) (by have:=Hsz.out; omega) oj on_ ol
   have Hb2:=hid (Hb1.out.trans (hb2.mono Hb1.out.size))
   have HA2:=hid hA2
   have hb3:Below w2.heap.size w2 (w2.alloc (.cells (AQ st y 0) 215)):=(Below.refl _ _).alloc (Nat.le_refl _) _
   have bJ:=hid (show yg st w (.returned (.tuple #[.pointer (some ⟨w2.heap.size,0,none⟩),.int .i64 0])) (w2.alloc (.cells #[.int .i64 st.rev,.slice y.aj y.nj y.cj,.slice y.an y.nn y.cn,.slice y.al y.nl y.cl,.int .i64 0] 215)) from ⟨Hb2.out.trans (hb3.mono Hb2.out.size),.inr ⟨HE0.out,w2.heap.size,y,rfl,Hb2.out.size,heap_alloc_new w2 _,hA2.upS hb3,HE0.out,by omega⟩⟩)
   clear hA2 ho hb2 hb3 HO c0 c1 c2 c3 hlt oj on_ ol e1 e2 e3 Hsz
   unfold stC
   go_wp2
   go_ret2
   exact bJ.out
 · have d1:(E != 0)=true:=by simpa using h0
   have bJ:=hid (show yg st w (.returned (.tuple #[.pointer none,.int .i64 E])) w1 from ⟨Hb1.out,.inl ⟨by rw [HE.out]; exact h0,by rw [HE.out]⟩⟩)
   go_wp2
   go_ret2
   exact bJ.out
def rH (st:ah) (w:World) (e:Ending) (w':World):Prop:=∃ y,e = .returned (.agg (stC st y))∧StAt w' w'.heap.size st y∧Below w.heap.size w w'
theorem wZ (st:ah) (x:StA) (now:Int) (V:Nat) (w:World) (h:SrvAt w 215 V st x now) :
 Calls Tryz.prog 60 #[.pointer (some ⟨V,0,none⟩)] w (rH st w):=by
 obtain⟨W,hW⟩:∃ W,w.alloc (.cells iT 26)=W:=⟨_,rfl⟩
 have hbW:Below w.heap.size w W:=by rw [← hW]; exact (Below.refl _ _).alloc (Nat.le_refl _) _
 have hR:Blk W w.heap.size 26 iT:=by rw [← hW]; exact heap_alloc_new w _
 have h1:=h.below hbW
 have hsz:=zk h1.at_ h1.ok
 have HO:=hid (show Calls Tryz.prog 114 #[.agg #[.int .i64 st.rev,.slice x.aj x.nj x.cj,.slice x.an x.nn x.cn,.slice x.al x.nl x.cl]] W _ from zl st x W h1.at_ (by omega) (by omega) (by omega))
 obtain⟨c0,c1,c2,c3⟩:=Blk.c4 (h.blk)
 have hlt:=h1.blk.lt
 have hlV:=h.blk.lt
 have HR:=hid hR
 have HbW:=hid hbW
 have H1:=hid h1
 have HW:=hid hW
 have Hsz:=hid hsz
 clear hW hR hbW h h1 hsz
 go_enter Tryz.func60,Tryz.ntmps60
 go_wp2_with fail
 try rw [HW.out]
 clear HW
 refine Calls.mono HO.out ?_
 rintro e w2 ⟨y,rfl,e1,e2,e3,ho,hb2⟩
 obtain⟨oj,on_,ol⟩:=Lc H1.out.at_
 have hA2:=ho.at2 (by have:=Hsz.out; omega) (by have:=Hsz.out; omega) (by have:=Hsz.out; omega) oj on_ ol
 have hR2:=HR.out.below hb2 HR.out.lt
 have hB2:=HbW.out.trans (hb2.mono HbW.out.size)
 obtain⟨z0,z1,z2,z3⟩:=Blk.z4 (hR2)
 obtain⟨r0,r1,r2,r3⟩:=Blk.c4 (hR2)
 obtain⟨hR3,hG3⟩:=Blk.S4 (hR2) (.int .i64 st.rev) (.slice y.aj y.nj y.cj) (.slice y.an y.nn y.cn) (.slice y.al y.nl y.cl)
 obtain⟨y0,y1,y2,y3⟩:=Blk.c4 hR3
 have hlr:=hR2.lt
 have bJ:=hid (show rH st w (.returned (.agg (stC st y))) _ from ⟨y,rfl,(hA2.jk hR2 (zm ⟨0,[],[],[]⟩ ⟨none,0,0,none,0,0,none,0,0⟩) hG3).more hG3.size,aJ hB2 hG3 (Nat.le_refl _)⟩)
 clear hA2 ho hb2 hR2 hB2 hR3 hG3 HO c0 c1 c2 c3 hlt e1 e2 e3 oj on_ ol Hsz HR HbW H1
 unfold stC
 go_wp2
 refine bodyPost_ret (v:=.agg (stC st y)) (by simp [results,Tryz.results60,go_sem,stC, *]) rfl ?_
 exact bJ.out
def WkOk (q:cJ):Prop:=∀ (base:Nat) (st:ah) (x:StA) (N WK:Nat) (now:Int) (w:World),DoIn w base st x N WK now→DI base w→(∀ j ∈ st.jobs,0≤j.tries∧j.tries≤100)→0≤now→now≤1099511627776 →
 Calls Tryz.prog 164 #[.pointer (some ⟨WK,0,none⟩),gY q] w (Fy base N WK (doR st now q) w)
theorem PM {q:cJ} (hk:q.kind=1) (hok:q.job.name.size≤9223372036854775807∧q.job.tag.size≤9223372036854775807):WkOk q:=fun base st x N WK now w h hT _ _ _=>by
 unfold doR
 rw [if_pos hk]
 exact do_1 base st x N WK now q w h hk hok hT
theorem Ld (base g P:Nat) (l:List UInt8) (x:aB) (w:World) (hp:Blk w P 262 #[.string x.name,.int .i64 x.prio,.int .i64 x.need,.int .i64 x.tries,.string x.tag]) (hx:xQ x) (h:eL w base g l) (hl:l.length≤90000000) :
 Calls Tryz.prog 320 #[.pointer (some ⟨P,0,none⟩),.pointer (some ⟨g,0,none⟩)] w (fH base g (l ++ eC x 3) w):=by
 have HJ:=hid (show Calls Tryz.prog 65 #[.pointer (some ⟨g,0,none⟩),.agg #[.string x.name,.int .i64 x.prio,.int .i64 x.need,.int .i64 x.tries,.string x.tag],.int .i64 3] w _ from FI base g l x 3 w (by decide) (by decide) hx h hl)
 obtain⟨p0,p1,p2,p3,p4⟩:=Blk.c5 (hp)
 have hlp:=hp.lt
 clear hp hx h hl
 go_enter Tryz.func320,Tryz.ntmps320
 go_wp2_with fail
 refine Calls.mono HJ.out ?_
 rintro e w1 hp
 have HP:=hid hp
 obtain⟨rfl,_⟩:=hp
 clear HJ p0 p1 p2 p3 p4
 go_wp2
 go_end0
 exact HP.out
theorem Jf (q:cJ) (w:World) (hk:q.kind=1) (h0:kB q=0) (hok:ROk q) (hT:Tabs w):Calls Tryz.prog 55 #[gY q] w (Nz q (bg q.kind.toNat ++ eC q.job 3) w):=by
 obtain⟨-,-,hp⟩:=Bk h0
 rw [show oM q=(eZ q.job) by unfold oM; simp [hk]] at hp
 have hpe:eZ q.job=0:=hp
 refine FJ q (eC q.job 3) w 260 320 (PtJ 262 #[.string q.job.name,.int .i64 q.job.prio,.int .i64 q.job.need,.int .i64 q.job.tries,.string q.job.tag]) (by omega) (FK hk hok) hT h0 (fun _ _=>by kernel_rfl) (fun w=>(FA q w hk).mono fun e w' h=>?_) ?_ ?_
 · obtain⟨P,rfl,-,h,hb⟩:=h
   exact⟨_,rfl,⟨P,rfl,h⟩,hb⟩
 · rintro v w ⟨P,rfl,h⟩ w'
   kernel_rfl
 · rintro base g l v w ⟨P,rfl,h⟩ hw hl
   exact Ld base g P l q.job w h (by have hz:=fQ hpe; have h1:=cU hz.1; have h2:=iI hz.2.1; exact⟨by omega,by omega,by omega,by omega,by omega⟩) hw hl
theorem Le (q:cJ) (w:World) (hq:q.kind=1) (hok:ROk q) (hT:Tabs w) (h0:kB q=0) :
 Calls Tryz.prog 55 #[gY q] w (Nz q (bg 1 ++ eC q.job 3) w):=by
 have h:=Jf q w hq h0 hok hT
 rw [hq] at h
 exact h
theorem Jg (q:cJ) (w:World) (hk:q.kind=1) (h0:kB q=0) (hok:ROk q) (hT:Tabs w):Calls Tryz.prog 117 #[.string (BA (bg 1 ++ (eC q.job 3)))] w (oK q 0 w):=by
 obtain⟨-,how,hp⟩:=Bk h0
 have how:(⟨q.kind,q.job,kK,iU,⟨#[]⟩,0⟩:cJ)=q:=(show DC q=_ by unfold DC; simp [hk]).symm.trans how
 rw [show oM q=(eZ q.job) by unfold oM; simp [hk]] at hp
 have hpe:eZ q.job=0:=hp
 refine Fu q 1 (by omega) (eC q.job 3) (by have:=oI q.job 3; omega) w 260 321 (fun B v w=>∃ P,v = .pointer (some ⟨P,0,none⟩)∧B≤P∧Blk w P 262 #[.string ⟨#[]⟩,.int .i64 0,.int .i64 0,.int .i64 0,.string ⟨#[]⟩]) (fun g v w=>∃ P,v = .pointer (some ⟨P,0,none⟩)∧g<P∧Blk w P 262 #[.string q.job.name,.int .i64 q.job.prio,.int .i64 q.job.need,.int .i64 q.job.tries,.string q.job.tag]) hT (fun _ _=>rfl) (fun _ _=>by kernel_rfl) (fun w=>(FA (nF 1) w rfl).mono fun e w' h=>?_) ?_ ?_ ?_ ?_ (fun w' hb=>?_)
 · obtain⟨P,rfl,hP,h,hb⟩:=h
   exact⟨_,rfl,⟨P,rfl,hP,h⟩,hb⟩
 · rintro B v w ⟨P,rfl,hP,h⟩ w'
   kernel_rfl
 · rintro B v w g ⟨P,rfl,hP,h⟩ hg hr
   refine (I1 g P (q.job) _ w h hr (by have:=Bv hpe []; rwa [List.append_nil] at this) (by omega)).mono ?_
   rintro e w' ⟨he,⟨h1,h2⟩,h3,h4⟩
   exact⟨he,⟨P,rfl,h1,h2⟩,h3,h4⟩
 · rintro g v w w' ⟨P,rfl,hg,h⟩ hgr
   exact⟨P,rfl,hg,aA hgr h (Nat.ne_of_gt hg)⟩
 · rintro g v w ⟨P,rfl,hg,h⟩
   have h:=Bq q P w h
   rw [how,hk] at h
   exact h
 · have h:=FK hk hok w' (hT.below hb)
   rw [h0] at h
   exact h
theorem StOwn.base {w:World} {base b:Nat} {st:ah} {x:StA} (h:StOwn w base st x) (hb:b≤base):StOwn w b st x:=
 ⟨bV h.j hb,bV h.n hb,bV h.l hb,h.lj,h.ln,h.ll⟩
end Go.Proofs.YtcpgnjmaampglaaGreatDoor
