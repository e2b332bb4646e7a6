/- Of the proof of a statement: FeedN, PlFrBack, DEqR, RcD, RcE, Diff, PlWorks, AgS. -/
import Derived.Test.YtoeejfhdjmkpcaaGreatDoorUDEnc
import Derived.Test.YtoeejfhdjmkpcaaGreatDoorUDoB
import Derived.Test.YtoeejfhdjmkpcaaGreatDoorUFrmEncP
import Derived.Test.YtoeejfhdjmkpcaaGreatDoorULaySort
import Derived.Test.YtoeejfhdjmkpcaaGreatDoorURcB
set_option linter.unusedVariables false
set_option linter.unusedSimpArgs false
set_option maxRecDepth 100000
set_option maxHeartbeats 8000000
/- Feed: New, and Push where it is stuck. -/
namespace Go.Proofs.YtoeejfhdjmkpcaaGreatDoor
open Go.Lib (hid)
open List (foldl_cons foldl_nil setIfInBounds_toArray set_cons_succ set_cons_zero)
open Go.RowKit
theorem KM (w:World):Calls Tryz.prog 38 #[] w fun x w'=>x = .returned (.pointer (some ⟨w.heap.size,0,none⟩))∧w'=w.alloc (.cells #[.string ⟨#[]⟩,.int .i64 0,.int .i64 0] 219):=by
 go_enter Tryz.func38,Tryz.ntmps38
 go_wp2
 go_ret
 exact⟨rfl,rfl⟩
end Go.Proofs.YtoeejfhdjmkpcaaGreatDoor
/- A frame that is written is read: plain. -/
namespace Go.Proofs.YtoeejfhdjmkpcaaGreatDoor
open Go.Lib (hid)
open List (foldl_cons foldl_nil setIfInBounds_toArray set_cons_succ set_cons_zero)
theorem I2 (v k:Nat) (p:List UInt8) (hv:1≤v∧v≤3) (hk:1≤k∧k≤4) (hp:p.length≤6000):gX (BA (gU v k p))=(⟨v,k,BA p⟩,(gU v k p).length,0):=by
 have ev:(UInt8.ofNat v).toNat=v:=by rw [UInt8.toNat_ofNat']; omega
 have ek:(UInt8.ofNat k).toNat=k:=by rw [UInt8.toNat_ofNat']; omega
 have e:gU v k p=66 :: 75 :: UInt8.ofNat v :: UInt8.ofNat k :: (bJ p.length ++ (p ++ nG (nH v k p))):=by simp [gU,nH]
 have hs4:(nG (nH v k p)).length=4:=rfl
 have hB:(nH v k p).length=4+(bJ p.length).length+p.length:=by simp [nH]; omega
 have hL:(gU v k p).length=8+(bJ p.length).length+p.length:=by
  unfold gU; rw [List.length_append,hB,hs4]; omega
 have b0:aR (BA (gU v k p)) 0=66:=by unfold aR; rw [kB,e]; rfl
 have b1:aR (BA (gU v k p)) 1=75:=by unfold aR; rw [kB,e]; rfl
 have b2:aR (BA (gU v k p)) 2=v:=by unfold aR; rw [kB,e]; exact ev
 have b3:aR (BA (gU v k p)) 3=k:=by unfold aR; rw [kB,e]; exact ek
 have hd:lD (BA (gU v k p))=0:=by
  unfold lD
  rw [b0,b1,b2,b3,jQ,hL]
  rw [if_neg (by omega),if_neg (by omega),if_neg (by omega),if_neg (by omega),if_neg (by omega)]
 have hr:rdNum ((BA (gU v k p)).extract 4 (BA (gU v k p)).size)=(p.length,(bJ p.length).length,0):=by
  rw [Au,e]
  exact rM p.length (by omega) (p ++ nG (nH v k p))
 have h1:(BA (gU v k p)).extract (4+(bJ p.length).length+p.length) (8+(bJ p.length).length+p.length)=BA (nG (nH v k p)):=by
  have:=C9 (nH v k p) (nG (nH v k p)) []
  rw [hB,hs4,List.append_nil] at this
  rw [show 8+(bJ p.length).length+p.length=4+(bJ p.length).length+p.length+4 by omega]
  exact this
 have h2:(BA (gU v k p)).extract 0 (4+(bJ p.length).length+p.length)=BA (nH v k p):=by
  rw [JG _ _ (by omega),← hB]
  unfold gU
  rw [List.take_left]
 have h3:(BA (gU v k p)).extract (4+(bJ p.length).length) (4+(bJ p.length).length+p.length)=BA p:=by
  have:=C9 ([66,75,UInt8.ofNat v,UInt8.ofNat k] ++ bJ p.length) p (nG (nH v k p))
  rw [show ([66,75,UInt8.ofNat v,UInt8.ofNat k] ++ bJ p.length).length=4+(bJ p.length).length by simp; omega] at this
  rw [e]
  exact this
 rw [BD hd hr (by omega) (by rw [jQ,hL]; omega) (by rw [h1,h2,kB,kB]),b2,b3,h3,hL]
theorem DP:gX ⟨#[]⟩=(.zero,0,3):=rfl
theorem KN (v k:Nat) (p:List UInt8) (hv:1≤v∧v≤3) (hk:1≤k∧k≤4) (hp:p.length≤6000):Frs (BA (gU v k p)) [⟨v,k,BA p⟩] (gU v k p).length 3:=by
 have h:=Frs.step (I2 v k p hv hk hp) (by simp [gU,nH]) (Nat.le_of_eq (jQ _).symm) (fs:=[]) (m:=0) (e:=3) (by
  rw [Au,List.drop_of_length_le (Nat.le_refl _)]
  exact Frs.stop DP (by decide))
 simpa using h
end Go.Proofs.YtoeejfhdjmkpcaaGreatDoor
/- Eq of the reference at strings; DeltaEq of one delta in two places. -/
namespace Go.Proofs.YtoeejfhdjmkpcaaGreatDoor
open Go.Lib (hid)
open List (foldl_cons foldl_nil setIfInBounds_toArray set_cons_succ set_cons_zero)
open Go.RowKit
theorem oO.same {α:Type} {xs:List α} {w w':World} {e:Ending} (h:oO xs xs w e w'):e = .returned (.bool true)∧Below w.heap.size w w':=by
 obtain⟨t,rfl,ht,hb⟩:=h
 exact⟨by rw [ht.2 rfl],hb⟩
end Go.Proofs.YtoeejfhdjmkpcaaGreatDoor
/- != at requests. -/
namespace Go.Proofs.YtoeejfhdjmkpcaaGreatDoor
open Go.Lib (hid)
open List (foldl_cons foldl_nil setIfInBounds_toArray set_cons_succ set_cons_zero)
open Go.RowKit
theorem FZ (xk yk:Int) (xjn yjn:ByteArray) (xjp yjp:Int) (xjd yjd:Int) (xjt yjt:Int) (xjg yjg:ByteArray) (xnn ynn:ByteArray) (xnr ynr:Int) (xnz ynz:ByteArray) (xlj ylj:ByteArray) (xln yln:ByteArray) (xlt ylt:Int) (xnm ynm:ByteArray) (xn yn:Int) (h:(⟨xk,⟨xjn,xjp,xjd,xjt,xjg⟩,⟨xnn,xnr,xnz⟩,⟨xlj,xln,xlt⟩,xnm,xn⟩:aU)≠(⟨yk,⟨yjn,yjp,yjd,yjt,yjg⟩,⟨ynn,ynr,ynz⟩,⟨ylj,yln,ylt⟩,ynm,yn⟩:aU)) (W:World):(binOp .neq 40 (.agg #[.int .i64 xk,.string xjn,.int .i64 xjp,.int .i64 xjd,.int .i64 xjt,.string xjg,.string xnn,.int .i64 xnr,.string xnz,.string xlj,.string xln,.int .i64 xlt,.string xnm,.int .i64 xn]) (.agg #[.int .i64 yk,.string yjn,.int .i64 yjp,.int .i64 yjd,.int .i64 yjt,.string yjg,.string ynn,.int .i64 ynr,.string ynz,.string ylj,.string yln,.int .i64 ylt,.string ynm,.int .i64 yn])).run Tryz.prog W = .ok (.bool true) W:=by
 by_cases e_k:xk=yk
 rotate_left
 · simp [go_sem,e_k]
 by_cases qL:xjn.toList=yjn.toList
 rotate_left
 · simp [go_sem,e_k,qL]
 by_cases vk:xjp=yjp
 rotate_left
 · simp [go_sem,e_k,qL,vk]
 by_cases wK:xjd=yjd
 rotate_left
 · simp [go_sem,e_k,qL,vk,wK]
 by_cases yE:xjt=yjt
 rotate_left
 · simp [go_sem,e_k,qL,vk,wK,yE]
 by_cases wL:xjg.toList=yjg.toList
 rotate_left
 · simp [go_sem,e_k,qL,vk,wK,yE,wL]
 by_cases yF:xnn.toList=ynn.toList
 rotate_left
 · simp [go_sem,e_k,qL,vk,wK,yE,wL,yF]
 by_cases Ck:xnr=ynr
 rotate_left
 · simp [go_sem,e_k,qL,vk,wK,yE,wL,yF,Ck]
 by_cases AS:xnz.toList=ynz.toList
 rotate_left
 · simp [go_sem,e_k,qL,vk,wK,yE,wL,yF,Ck,AS]
 by_cases Cm:xlj.toList=ylj.toList
 rotate_left
 · simp [go_sem,e_k,qL,vk,wK,yE,wL,yF,Ck,AS,Cm]
 by_cases DQ:xln.toList=yln.toList
 rotate_left
 · simp [go_sem,e_k,qL,vk,wK,yE,wL,yF,Ck,AS,Cm,DQ]
 by_cases KO:xlt=ylt
 rotate_left
 · simp [go_sem,e_k,qL,vk,wK,yE,wL,yF,Ck,AS,Cm,DQ,KO]
 by_cases I3:xnm.toList=ynm.toList
 rotate_left
 · simp [go_sem,e_k,qL,vk,wK,yE,wL,yF,Ck,AS,Cm,DQ,KO,I3]
 by_cases e_n:xn=yn
 rotate_left
 · simp [go_sem,e_k,qL,vk,wK,yE,wL,yF,Ck,AS,Cm,DQ,KO,I3,e_n]
 refine absurd ?_ h
 subst e_k
 have qL:=cU qL; subst qL
 subst vk
 subst wK
 subst yE
 have wL:=cU wL; subst wL
 have yF:=cU yF; subst yF
 subst Ck
 have AS:=cU AS; subst AS
 have Cm:=cU Cm; subst Cm
 have DQ:=cU DQ; subst DQ
 subst KO
 have I3:=cU I3; subst I3
 subst e_n
 rfl
theorem I4 (a b:aU):∃ t:Bool,(t=true↔a=b)∧∀ W,(binOp .neq 40 (bT a) (bT b)).run Tryz.prog W = .ok (.bool (!t)) W:=by
 by_cases h:a=b
 · subst h
   exact⟨true,⟨fun _=>rfl,fun _=>rfl⟩,fun W=>by simp [go_sem,bT,aT]⟩
 · exact⟨false,⟨fun h'=>(by cases h'),fun h'=>absurd h' h⟩,fun W=>FZ _ _ _ _ _ _ _ _ _ _ _ _ _ _ _ _ _ _ _ _ _ _ _ _ _ _ _ _ h W⟩
end Go.Proofs.YtoeejfhdjmkpcaaGreatDoor
/- req.Check at any kind that has a part. -/
namespace Go.Proofs.YtoeejfhdjmkpcaaGreatDoor
open Go.Lib (hid)
open List (foldl_cons foldl_nil setIfInBounds_toArray set_cons_succ set_cons_zero)
open Go.RowKit
structure EA (w:World) (q:aU) (J:Value→World→Prop) (v:Value) (wx:World):Prop where
 qb:Blk wx w.heap.size 40 (aT q)
 pb:J v wx
 below:Below w.heap.size w wx
structure ROk (q:aU):Prop where
 j1:q.job.name.size≤9223372036854775807
 j2:q.job.tag.size≤9223372036854775807
 n1:q.node.name.size≤9223372036854775807
 n2:q.node.zone.size≤9223372036854775807
 l1:q.lease.job.size≤9223372036854775807
 l2:q.lease.node.size≤9223372036854775807
 s:q.name.size≤9223372036854775807
def ckV (B:Nat) (T:TypeId) (v:Value) (q h:aU) (t:Bool):Nat→Value→Prop
 | 0,u=>u = .pointer (some ⟨B,0,none⟩)
 | 1,u=>u = .int .i64 q.kind
 | 2,u=>u = .iface T v
 | 3,u=>u = .agg #[.int .i64 h.kind,.string h.job.name,.int .i64 h.job.prio,.int .i64 h.job.need,.int .i64 h.job.tries,.string h.job.tag,.string h.node.name,.int .i64 h.node.room,.string h.node.zone,.string h.lease.job,.string h.lease.node,.int .i64 h.lease.till,.string h.name,.int .i64 h.n]
 | 4,u=>u = .agg #[.int .i64 q.kind,.string q.job.name,.int .i64 q.job.prio,.int .i64 q.job.need,.int .i64 q.job.tries,.string q.job.tag,.string q.node.name,.int .i64 q.node.room,.string q.node.zone,.string q.lease.job,.string q.lease.node,.int .i64 q.lease.till,.string q.name,.int .i64 q.n]
 | 5,u=>u = .bool (!t)
 | 6,u=>u = .bool (!t)
 | _,_=>False
theorem gB (q h:aU) (w:World) (T:TypeId) (F:FuncId) (K:Int) (J:Value→World→Prop) (hJ:∀ v w w',J v w→Below w.heap.size w w'→J v w')
 (hn:∀ v (w:World),(binOp .eql 225 (.iface T v) .nilIface).run Tryz.prog w = .ok (.bool false) w)
 (hre:(h≠q→eF q=4)∧(h=q→eF q=K))
 (HPt:∀ w,Calls Tryz.prog 133 #[bT q] w fun e w'=>∃ v,e = .returned (.iface T v)∧J v w'∧Below w.heap.size w w')
 (HWh:∀ v w,J v w→Calls Tryz.prog 134 #[.int .i64 q.kind,.iface T v] w fun e w'=>e = .returned (bT h)∧Below w.heap.size w w')
 (HM : ∀ v w, J v w → ∀ w', (method 606 T v "bracken/req.check").run Tryz.prog w' = .ok (F, v) w')
 (hc:∀ a (w:World),(callFunc F a).run Tryz.prog w = .ok (.enter F a) w)
 (HK:∀ v wy,J v wy→Below w.heap.size w wy→Calls Tryz.prog F #[v] wy (cL K wy)) :
 Calls Tryz.prog 44 #[bT q] w (cL (eF q) w):=by
 obtain⟨W,hW⟩:∃ W,w.alloc (.cells (aT q) 40)=W:=⟨_,rfl⟩
 have hb:Blk W w.heap.size 40 (aT q):=by rw [← hW]; exact heap_alloc_new w _
 have hbW:Below w.heap.size w W:=by rw [← hW]; exact (Below.refl _ _).alloc (Nat.le_refl _) _
 have HPt:=hid (HPt W)
 have HKh:=hid HK
 have HMh:=hid HM
 have HW0:=hid HWh
 have HN:=hid (show ∀ v wx w',Below wx.heap.size wx w'→EA w q J v wx→EA w q J v w' from fun v _ _ hb h=>⟨h.qb.below hb h.qb.lt,hJ v _ _ h.pb hb,h.below.trans (hb.mono h.below.size)⟩)
 obtain⟨t,ht,Lq⟩:=I4 h q
 have hrun:∀ W,(binOp .neq 40 (.agg #[.int .i64 h.kind,.string h.job.name,.int .i64 h.job.prio,.int .i64 h.job.need,.int .i64 h.job.tries,.string h.job.tag,.string h.node.name,.int .i64 h.node.room,.string h.node.zone,.string h.lease.job,.string h.lease.node,.int .i64 h.lease.till,.string h.name,.int .i64 h.n]) (.agg (yW q))).run Tryz.prog W = .ok (.bool (!t)) W:=Lq
 clear Lq
 obtain⟨c0,c1,c2,c3,c4,c5,c6,c7,c8,c9,c10,c11,c12,c13⟩:=Blk.c14 (hb)
 have hlt:=hb.lt
 have Hq:=hid hb
 have HbW:=hid hbW
 have HRe:=hid hre
 have Ht:=hid ht
 have Hrun:=hid hrun
 have HW:=hid hW
 clear hb hbW hre ht hrun hW HK HM HWh hJ
 obtain⟨E0,hE0⟩:∃ E0,eF q=E0:=⟨_,rfl⟩
 rw [hE0]
 have HE0:=hid hE0
 clear hE0
 unfold bT at HPt HW0 ⊢
 unfold aT at HPt ⊢
 unfold aT at HW HW0
 go_enter Tryz.func44,Tryz.ntmps44
 go_wp2_with fail
 try simp only [HW.out]
 clear HW
 refine Calls.mono HPt.out ?_
 rintro e w1 ⟨v,rfl,hpb,hb1⟩
 have H0:EA w q J v w1:=⟨Hq.out.below hb1 Hq.out.lt,hpb,HbW.out.trans (hb1.mono HbW.out.size)⟩
 have HWh:=hid (HW0.out v)
 clear hpb hb1 HPt HW0 c0 c1 c2 c3 c4 c5 c6 c7 c8 c9 c10 c11 c12 c13 hlt
 go_wp2_with fail
 have hrun:=Hrun.out
 refine rq (Γ:=Unit) 18 (fun _=>ckV w.heap.size T v q h t) [] (fun _ _ wx=>EA w q J v wx) () (HN.out v _ _ (Below.refl _ _).drew H0) ?_ ?_
 · refine⟨?_,?_,?_,?_,?_,?_,?_,trivial⟩
   · exact ok0 0 0 1 rfl fun _=>rfl
   · refine okQ 0 0 fun p γ a wx _ _ hp hk=>?_
     obtain⟨u1,h1,rfl⟩:=hk.g 0 10 rfl rfl
     have hc0:wx.cell? ⟨w.heap.size,0,none⟩=some (.int .i64 q.kind):=hp.qb.cell 0
     simp [go_sem,Oper.wp,execOp,Act.eval,h1,hc0]
     exact⟨_,rfl,rfl,hp⟩
   · exact ok0 0 0 3 rfl fun _=>rfl
   · refine okQ 0 0 fun p γ a wx _ _ hp hk=>?_
     obtain⟨u1,h1,rfl⟩:=hk.g 1 11 rfl rfl
     obtain⟨u2,h2,rfl⟩:=hk.g 2 12 rfl rfl
     simp [go_sem,Oper.wp,execOp,Act.eval,h1,h2]
     refine (HWh.out wx hp.pb).mono ?_
     rintro e w' ⟨rfl,hb⟩
     exact⟨_,rfl,rfl,HN.out v wx w' hb hp⟩
   · refine okQ 0 0 fun p γ a wx _ _ hp hk=>?_
     have h1:=hk.k 1 rfl
     obtain⟨hc0,hc1,hc2,hc3,hc4,hc5,hc6,hc7,hc8,hc9,LY,LZ,L0,L1⟩:=Blk.c14 (hp.qb)
     simp [go_sem,Oper.wp,execOp,Act.eval,h1,hc0,hc1,hc2,hc3,hc4,hc5,hc6,hc7,hc8,hc9,LY,LZ,L0,L1]
     exact⟨_,rfl,rfl,hp⟩
   · refine okQ 0 0 fun p γ a wx _ _ hp hk=>?_
     obtain⟨u1,h1,rfl⟩:=hk.g 3 13 rfl rfl
     obtain⟨u2,h2,rfl⟩:=hk.g 4 14 rfl rfl
     simp [go_sem,Oper.wp,execOp,Act.eval,h1,h2,hrun]
     exact⟨_,rfl,rfl,hp⟩
   · exact ok1 0 0 5 15 rfl rfl (fun _ _ h=>h) fun _=>rfl
 intro γ a wy hd
 have H1:=hid hd.ph
 obtain⟨fv,rfl,hfv⟩:=hd.frame [10,11,12,13,14,15,9] rfl
 have h9:fv 9 = .bool (!t):=hfv 6 _ 9 rfl rfl
 clear hd hfv H0 HWh hrun Hrun
 simp only [foldl_cons,foldl_nil,setIfInBounds_toArray,set_cons_succ,set_cons_zero,h9]
 clear h9
 cases t
 · have hE:eF q=4:=HRe.out.1 (fun h=>by have:=Ht.out.2 h; cases this)
   obtain rfl:(4:Int)=E0:=hE.symm.trans HE0.out
   have bO:=hid (show cL 4 w (.returned (.int .i64 4)) wy from ⟨rfl,H1.out.below⟩)
   clear hE HRe Ht HE0
   go_wp2
   go_ret
   exact bO.out
 · have hE:eF q=K:=HRe.out.2 (Ht.out.1 rfl)
   obtain rfl:K=E0:=hE.symm.trans HE0.out
   have HK:=hid (HKh.out v wy H1.out.pb H1.out.below)
   clear hE HRe HE0
   have hm:=HMh.out v wy H1.out.pb
   clear HMh HKh HN
   go_wp2_with fail
   refine Calls.mono HK.out ?_
   rintro e w5 ⟨rfl,hb5⟩
   have HB:=hid (H1.out.below.trans (hb5.mono H1.out.below.size))
   have bO:=hid (show cL K w (.returned (.int .i64 K)) w5 from ⟨rfl,HB.out⟩)
   clear hb5 HK H1 HB hm
   go_wp2
   go_ret
   exact bO.out
def PtJ (T:TypeId) (cs:Array Value) (v:Value) (w:World):Prop:=∃ P,v = .pointer (some ⟨P,0,none⟩)∧Blk w P T cs
theorem PtJ.kept {T:TypeId} {cs:Array Value} (v:Value) (w w':World) (h:PtJ T cs v w) (hb:Below w.heap.size w w'):PtJ T cs v w':=by
 obtain⟨P,rfl,h⟩:=h
 exact⟨P,rfl,h.below hb h.lt⟩
theorem nV {q h:aU} {K:Int} (hk:ranged q.kind 1 9=true) (how:q8 q=h) (hpe:eV q=K):(h≠q→eF q=4)∧(h=q→eF q=K):=by
 subst how hpe
 unfold eF
 rw [if_neg (by simp [hk])]
 exact⟨fun h=>if_pos h,fun h=>if_neg (fun h'=>h' h)⟩
theorem xq (q:aU) (w:World) (hq:q.kind=1) (hok:ROk q) (hT:Tabs w):Calls Tryz.prog 44 #[bT q] w (cL (eF q) w):=by
 refine gB q ⟨q.kind,q.job,dZ,cV,⟨#[]⟩,0⟩ w 325 466 (eV q) (PtJ 327 #[.string q.job.name,.int .i64 q.job.prio,.int .i64 q.job.need,.int .i64 q.job.tries,.string q.job.tag]) PtJ.kept ?_ (nV (by rw [hq]; rfl) (by unfold q8; simp [hq]) rfl) (fun w=>(Dq q w hq).mono fun e w' h=>?_) ?_ ?_ ?_ ?_
 · exact fun _ _=>rfl
 · obtain⟨P,rfl,-,h,hb⟩:=h
   exact⟨_,rfl,⟨P,rfl,h⟩,hb⟩
 · rintro v wx ⟨P,rfl,h⟩
   exact zW q P wx h
 · rintro v wx ⟨P,rfl,h⟩ w'
   kernel_rfl
 · exact fun _ _=>by kernel_rfl
 · rintro v wy ⟨P,rfl,h⟩ hb
   have hpe:eV q=fE q.job:=by unfold eV; simp [hq]
   rw [hpe]
   exact DO q.job P wy h hok.j1 hok.j2 (hT.below hb)
theorem GB (q:aU) (w:World) (hq:q.kind=2) (hok:ROk q) (hT:Tabs w):Calls Tryz.prog 44 #[bT q] w (cL (eF q) w):=by
 refine gB q ⟨q.kind,kO,q.node,cV,⟨#[]⟩,0⟩ w 328 470 (eV q) (PtJ 330 #[.string q.node.name,.int .i64 q.node.room,.string q.node.zone]) PtJ.kept ?_ (nV (by rw [hq]; rfl) (by unfold q8; simp [hq]) rfl) (fun w=>(Mh q w hq).mono fun e w' h=>?_) ?_ ?_ ?_ ?_
 · exact fun _ _=>rfl
 · obtain⟨P,rfl,-,h,hb⟩:=h
   exact⟨_,rfl,⟨P,rfl,h⟩,hb⟩
 · rintro v wx ⟨P,rfl,h⟩
   exact DN q P wx h
 · rintro v wx ⟨P,rfl,h⟩ w'
   kernel_rfl
 · exact fun _ _=>by kernel_rfl
 · rintro v wy ⟨P,rfl,h⟩ hb
   have hpe:eV q=eH q.node:=by unfold eV; simp [hq]
   rw [hpe]
   exact Ci q.node P wy h hok.n1 hok.n2 (hT.below hb)
theorem GE (q:aU) (w:World) (hq:q.kind=5) (hok:ROk q) (hT:Tabs w):Calls Tryz.prog 44 #[bT q] w (cL (eF q) w):=by
 refine gB q ⟨q.kind,kO,dZ,q.lease,⟨#[]⟩,0⟩ w 331 474 (eV q) (PtJ 333 #[.string q.lease.job,.string q.lease.node,.int .i64 q.lease.till]) PtJ.kept ?_ (nV (by rw [hq]; rfl) (by unfold q8; simp [hq]) rfl) (fun w=>(Mi q w hq).mono fun e w' h=>?_) ?_ ?_ ?_ ?_
 · exact fun _ _=>rfl
 · obtain⟨P,rfl,-,h,hb⟩:=h
   exact⟨_,rfl,⟨P,rfl,h⟩,hb⟩
 · rintro v wx ⟨P,rfl,h⟩
   exact Cg q P wx h
 · rintro v wx ⟨P,rfl,h⟩ w'
   kernel_rfl
 · exact fun _ _=>by kernel_rfl
 · rintro v wy ⟨P,rfl,h⟩ hb
   have hpe:eV q=lsE q.lease:=by unfold eV; simp [hq]
   rw [hpe]
   exact AR q.lease P wy h hok.l1 hok.l2 (hT.below hb)
theorem GC (q:aU) (w:World) (hq:q.kind=3) (hok:ROk q) (hT:Tabs w):Calls Tryz.prog 44 #[bT q] w (cL (eF q) w):=by
 refine gB q ⟨q.kind,kO,dZ,cV,q.name,0⟩ w 335 478 (eV q) (PtJ 334 #[.string q.name]) PtJ.kept ?_ (nV (by rw [hq]; rfl) (by unfold q8; simp [hq]) rfl) (fun w=>(Mk q w hq).mono fun e w' h=>?_) ?_ ?_ ?_ ?_
 · exact fun _ _=>rfl
 · obtain⟨P,rfl,-,h,hb⟩:=h
   exact⟨_,rfl,⟨P,rfl,h⟩,hb⟩
 · rintro v wx ⟨P,rfl,h⟩
   exact rU q P wx h
 · rintro v wx ⟨P,rfl,h⟩ w'
   kernel_rfl
 · exact fun _ _=>by kernel_rfl
 · rintro v wy ⟨P,rfl,h⟩ hb
   have hpe:eV q=if bR q.name=true then 0 else 4:=by unfold eV; simp [hq]
   rw [hpe]
   exact pS q.name P wy h hok.s (hT.below hb)
theorem GD (q:aU) (w:World) (hq:q.kind=4) (hok:ROk q) (hT:Tabs w):Calls Tryz.prog 44 #[bT q] w (cL (eF q) w):=by
 refine gB q ⟨q.kind,kO,dZ,cV,q.name,0⟩ w 335 478 (eV q) (PtJ 334 #[.string q.name]) PtJ.kept ?_ (nV (by rw [hq]; rfl) (by unfold q8; simp [hq]) rfl) (fun w=>(Mm q w hq).mono fun e w' h=>?_) ?_ ?_ ?_ ?_
 · exact fun _ _=>rfl
 · obtain⟨P,rfl,-,h,hb⟩:=h
   exact⟨_,rfl,⟨P,rfl,h⟩,hb⟩
 · rintro v wx ⟨P,rfl,h⟩
   exact rU q P wx h
 · rintro v wx ⟨P,rfl,h⟩ w'
   kernel_rfl
 · exact fun _ _=>by kernel_rfl
 · rintro v wy ⟨P,rfl,h⟩ hb
   have hpe:eV q=if bR q.name=true then 0 else 4:=by unfold eV; simp [hq]
   rw [hpe]
   exact pS q.name P wy h hok.s (hT.below hb)
theorem GF (q:aU) (w:World) (hq:q.kind=6) (hok:ROk q) (hT:Tabs w):Calls Tryz.prog 44 #[bT q] w (cL (eF q) w):=by
 refine gB q ⟨q.kind,kO,dZ,cV,q.name,0⟩ w 335 478 (eV q) (PtJ 334 #[.string q.name]) PtJ.kept ?_ (nV (by rw [hq]; rfl) (by unfold q8; simp [hq]) rfl) (fun w=>(Mo q w hq).mono fun e w' h=>?_) ?_ ?_ ?_ ?_
 · exact fun _ _=>rfl
 · obtain⟨P,rfl,-,h,hb⟩:=h
   exact⟨_,rfl,⟨P,rfl,h⟩,hb⟩
 · rintro v wx ⟨P,rfl,h⟩
   exact rU q P wx h
 · rintro v wx ⟨P,rfl,h⟩ w'
   kernel_rfl
 · exact fun _ _=>by kernel_rfl
 · rintro v wy ⟨P,rfl,h⟩ hb
   have hpe:eV q=if bR q.name=true then 0 else 4:=by unfold eV; simp [hq]
   rw [hpe]
   exact pS q.name P wy h hok.s (hT.below hb)
theorem GG (q:aU) (w:World) (hq:q.kind=7) (hok:ROk q) (hT:Tabs w):Calls Tryz.prog 44 #[bT q] w (cL (eF q) w):=by
 refine gB q ⟨q.kind,kO,dZ,cV,⟨#[]⟩,q.n⟩ w 337 482 (eV q) (PtJ 336 #[.int .i64 q.n]) PtJ.kept ?_ (nV (by rw [hq]; rfl) (by unfold q8; simp [hq]) rfl) (fun w=>(Mp q w hq).mono fun e w' h=>?_) ?_ ?_ ?_ ?_
 · exact fun _ _=>rfl
 · obtain⟨P,rfl,-,h,hb⟩:=h
   exact⟨_,rfl,⟨P,rfl,h⟩,hb⟩
 · rintro v wx ⟨P,rfl,h⟩
   exact Ch q P wx h
 · rintro v wx ⟨P,rfl,h⟩ w'
   kernel_rfl
 · exact fun _ _=>by kernel_rfl
 · rintro v wy ⟨P,rfl,h⟩ hb
   have hpe:eV q=if ranged q.n 0 1099511627776=true then 0 else 1:=by unfold eV; simp [hq]
   rw [hpe]
   exact AQ q.n P wy h
end Go.Proofs.YtoeejfhdjmkpcaaGreatDoor
/- The walks of delta.Diff and of the reference's Diff. -/
namespace Go.Proofs.YtoeejfhdjmkpcaaGreatDoor
open Go.Lib (hid)
open List (foldl_cons foldl_nil setIfInBounds_toArray set_cons_succ set_cons_zero)
open Go.RowKit
theorem yG {α:Type} {a b:List α} {x:α} (h:x ∈ newL a b):x ∈ b:=(List.mem_filter.1 h).1
theorem vo {α:Type} {key:α→ByteArray} {a b:List α} {s:ByteArray} (h:s ∈ bM key a b):∃ x ∈ a,key x=s:=by
 obtain⟨x,hx,e⟩:=List.mem_map.1 h
 exact⟨x,(List.mem_filter.1 hx).1,e⟩
theorem ze {w w':World} {B B':Nat} {a b:ak} {x y:StA} (hA:StAt w B a x) (hB:StAt w' B' b y) (ha:aG a=0) (hb:aG b=0):Al (cM a b):=by
 obtain⟨a1,a2,a3⟩:=A4 ha
 obtain⟨b1,b2,b3⟩:=A4 hb
 exact⟨Nat.le_trans (nN _ _) b1,Nat.le_trans (nN _ _) b2,Nat.le_trans (nN _ _) b3,Nat.le_trans (lS _ _ _) a1,Nat.le_trans (lS _ _ _) a2,Nat.le_trans (lS _ _ _) a3,
  fun r hr=>hB.oj r (yG hr),fun r hr=>hB.on_ r (yG hr),fun r hr=>hB.ol r (yG hr),
  fun s hs=>(by obtain⟨r,hr,rfl⟩:=vo hs; exact (hA.oj r hr).1),fun s hs=>(by obtain⟨r,hr,rfl⟩:=vo hs; exact (hA.on_ r hr).1),fun s hs=>(by obtain⟨r,hr,rfl⟩:=vo hs; exact (hA.ol r hr).1)⟩
theorem nR (w:World) (ca cb cc:Array Value) {ta tb tc:TypeId}:Blk (((w.alloc (.cells ca ta)).alloc (.cells cb tb)).alloc (.cells cc tc)) w.heap.size ta ca∧Blk (((w.alloc (.cells ca ta)).alloc (.cells cb tb)).alloc (.cells cc tc)) (w.heap.size+1) tb cb ∧
 Blk (((w.alloc (.cells ca ta)).alloc (.cells cb tb)).alloc (.cells cc tc)) (w.heap.size+2) tc cc∧Below w.heap.size w (((w.alloc (.cells ca ta)).alloc (.cells cb tb)).alloc (.cells cc tc)):=by
 have h1:Blk (w.alloc (.cells ca ta)) w.heap.size ta ca:=heap_alloc_new w _
 have h2:=heap_alloc_new (w.alloc (.cells ca ta)) (.cells cb tb)
 rw [show (w.alloc (.cells ca ta)).heap.size=w.heap.size+1 by simp] at h2
 have h3:=heap_alloc_new ((w.alloc (.cells ca ta)).alloc (.cells cb tb)) (.cells cc tc)
 rw [show ((w.alloc (.cells ca ta)).alloc (.cells cb tb)).heap.size=w.heap.size+2 by simp] at h3
 exact⟨(h1.alloc _).alloc _,(show Blk _ _ _ _ from h2).alloc _,h3,(((Below.refl _ _).alloc (Nat.le_refl _) _).alloc (by simp) _).alloc (by simp; omega) _⟩
theorem qO.low {w:World} {g g':Nat} {d:aM} {x:eI} (h:qO w g d x) (hg:g'<g):qO w g' d x:=by
 obtain⟨⟨b1,h1,o1⟩,⟨b2,h2,o2⟩,⟨b3,h3,o3⟩,⟨b4,h4,o4⟩,⟨b5,h5,o5⟩,⟨b6,h6,o6⟩,l1,l2,l3,l4,l5,l6⟩:=h
 exact⟨⟨b1,by omega,o1⟩,⟨b2,by omega,o2⟩,⟨b3,by omega,o3⟩,⟨b4,by omega,o4⟩,⟨b5,by omega,o5⟩,⟨b6,by omega,o6⟩,l1,l2,l3,l4,l5,l6⟩
end Go.Proofs.YtoeejfhdjmkpcaaGreatDoor
/- The one request that the law's first look asks: plain. -/
namespace Go.Proofs.YtoeejfhdjmkpcaaGreatDoor
open Go.Lib (hid)
open List (foldl_cons foldl_nil setIfInBounds_toArray set_cons_succ set_cons_zero)
def Co:aA:=⟨⟨#[97]⟩,0,0,0,⟨#[]⟩⟩
def mT:aU:=⟨1,Co,dZ,cV,⟨#[]⟩,0⟩
def KP:ak:=⟨1,[Co],[],[]⟩
theorem EB:fE Co=0:=by decide +kernel
theorem Cp:eF mT=0:=by
 have h1:ranged mT.kind 1 9=true:=by decide
 have h2:q8 mT=mT:=rfl
 have h3:eV mT=0:=EB
 unfold eF
 rw [if_neg (by rw [h1]; simp),if_neg (by simp [h2]),h3]
theorem KQ:aG dE=0:=by decide +kernel
theorem KR:aG ⟨0,[Co],[],[]⟩=0:=by decide +kernel
theorem srvA:iI dE 0 (iR dE 0 mT)=⟨0,true,KP,0⟩:=by
 have e:doR dE 0 mT=(0,⟨0,[Co],[],[]⟩,0):=by
  unfold doR
  rw [if_pos (show mT.kind=1 from rfl)]
  have:kS dE mT.job=⟨0,[Co],[],[]⟩:=rfl
  rw [this,KR]
 unfold iR
 rw [if_pos Cp,e]
 unfold iI
 rw [if_pos rfl,if_neg (by rintro⟨h,_⟩; cases h),if_neg (by decide)]
 rfl
def wM:List UInt8:=bJ 1 ++ gL Co 3
def nS:List UInt8:=gU 3 3 wM
theorem frsA:Frs (BA nS) [⟨3,3,BA wM⟩] nS.length 3:=KN 3 3 wM (by decide) (by decide) (by decide +kernel)
theorem EG:Ar 3 3 (BA wM)=(BA nS,0):=by
 unfold Ar
 rw [if_neg (by decide),if_neg (by decide +kernel)]
 rfl
end Go.Proofs.YtoeejfhdjmkpcaaGreatDoor
/- A server of the call's own. -/
namespace Go.Proofs.YtoeejfhdjmkpcaaGreatDoor
open Go.Lib (hid)
open List (foldl_cons foldl_nil setIfInBounds_toArray set_cons_succ set_cons_zero)
open Go.RowKit
structure AgS (w0 w:World) (V:Nat) (st:ak) (now:Int) (x:StA):Prop where
 below:Below w0.heap.size w0 w
 v:SrvAt w 109 V st x now
 vs:w0.heap.size≤V
theorem AgS.kept {w0 w w':World} {V:Nat} {st:ak} {now:Int} {x:StA} (h:AgS w0 w V st now x) (hb:Below w.heap.size w w'):AgS w0 w' V st now x:=
 ⟨h.below.trans (hb.mono h.below.size),h.v.below hb,h.vs⟩
theorem AgS.asked {w0 w w':World} {V:Nat} {st st':ak} {now now':Int} {x x':StA} (h:AgS w0 w V st now x) (hg:w.grownBy w' (some V)) (hb:Blk w' V 109 (wZ st' x' now')) (hs:StAt w' w'.heap.size st' x') (hc:aG st'=0) (ht:0≤now'∧now'≤1099511627776):AgS w0 w' V st' now' x':=
 ⟨aI h.below hg h.vs,⟨hb,hs,hc,ht⟩,h.vs⟩
end Go.Proofs.YtoeejfhdjmkpcaaGreatDoor
