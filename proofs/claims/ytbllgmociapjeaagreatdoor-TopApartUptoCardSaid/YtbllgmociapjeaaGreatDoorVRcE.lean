/- Of the proof of a statement: FeedN, ButFd, SameR, DEqR, RcD, RcE, UpSteps, PlEncV. -/
import Derived.Test.YtbllgmociapjeaaGreatDoorVDoB
import Derived.Test.YtbllgmociapjeaaGreatDoorVPlFrBack
import Derived.Test.YtbllgmociapjeaaGreatDoorVRcB
set_option linter.unusedVariables false
set_option linter.unusedSimpArgs false
set_option maxRecDepth 100000
set_option maxHeartbeats 8000000
/- Feed: New, and Push where it is stuck. -/
namespace Go.Proofs.YtbllgmociapjeaaGreatDoor
open Go.Lib (hid)
open List (foldl_cons foldl_nil setIfInBounds_toArray set_cons_succ set_cons_zero)
open Go.RowKit
theorem Jj (w:World):Calls Tryz.prog 29 #[] w fun x w'=>x = .returned (.pointer (some ⟨w.heap.size,0,none⟩))∧w'=w.alloc (.cells #[.string ⟨#[]⟩,.int .i64 0,.int .i64 0] 138):=by
 go_enter Tryz.func29,Tryz.ntmps29
 go_wp2
 go_ret
 exact⟨rfl,rfl⟩
end Go.Proofs.YtbllgmociapjeaaGreatDoor
/- Rows that begin with a text do not lie in a feed's block. -/
namespace Go.Proofs.YtbllgmociapjeaaGreatDoor
open Go.Lib (hid)
open List (foldl_cons foldl_nil setIfInBounds_toArray set_cons_succ set_cons_zero)
open Go.RowKit
theorem aU.apart {W w2:World} {B g sz n:Nat} {t:TypeId} {cs:Array Value} {A:Option Addr} {xs:List Value} (h:aU W B sz A n xs) (hb:Blk W g t cs) (h0:0<n→∃ u,xs[0]? = some u∧∀ v ∈ cs,v≠u) (hg:W.grownBy w2 (some g)):aU w2 B sz A n xs:=
 ⟨h.len,fun hn=>by
  obtain⟨b,off,e,hB,hr⟩:=h.at_ hn
  obtain⟨u,hu,hne⟩:=h0 hn
  have h1:=hr 0 _ hu
  have hbg:b≠g:=fun e=>by
   subst e
   rw [hb.cell] at h1
   exact hne _ (Array.mem_of_getElem? h1) rfl
  exact⟨b,off,e,hB,fun j u hu=>hg.cell (hr j u hu) (fun e=>hbg (by simpa using e))⟩⟩
theorem aU.ru {W w2:World} {B g sz n:Nat} {rest:ByteArray} {a st:Int} {A:Option Addr} {xs:List Value} (h:aU W B sz A n xs) (hb:iX W g rest a st) (h0:0<n→∃ s,xs[0]? = some (.string s)) (h1:0<n→∃ (j:Nat) (u:Value),xs[j]? = some u∧(#[.string rest,.int .i64 a,.int .i64 st]:Array Value)[j]? ≠ some u)
 (hg:W.grownBy w2 (some g)):aU w2 B sz A n xs:=
 ⟨h.len,fun hn=>by
  obtain⟨b,off,e,hB,hr⟩:=h.at_ hn
  obtain⟨s,hs⟩:=h0 hn
  obtain⟨j,u,hu,hne⟩:=h1 hn
  have c0:=hr 0 _ hs
  have cj:=hr j _ hu
  have hbg:b≠g:=fun e=>by
   subst e
   rw [Blk.cell hb] at c0 cj
   have ho:off=0:=by
    rcases off with _ | _ | _ | off
    · rfl
    · simp at c0
    · simp at c0
    · simp at c0
   subst ho
   rw [Nat.zero_add] at cj
   exact hne cj
  exact⟨b,off,e,hB,fun j u hu=>hg.cell (hr j u hu) (fun e=>hbg (by simpa using e))⟩⟩
theorem pz {α:Type} {enc:α→List Value} {l:List α} {n:Nat} (h:l.length=n) (hn:0<n):∃ a,∀ (j:Nat) u,(enc a)[j]? = some u→(au enc l)[j]? = some u:=by
 cases l with
 | nil=>simp at h; omega
 | cons a l=>
  refine⟨a,fun j u hu=>?_⟩
  obtain⟨hlt,_⟩:=List.getElem?_eq_some_iff.1 hu
  unfold au
  rw [List.flatMap_cons,List.getElem?_append_left hlt]; exact hu
theorem StAt.ru {W w2:World} {B g:Nat} {rest:ByteArray} {a st:Int} {s:ah} {x:StA} (h:StAt W B s x) (hb:iX W g rest a st) (hg:W.grownBy w2 (some g)):StAt w2 B s x:=
 ⟨h.j.ru hb (sP h.lj) (fun hn=>by obtain⟨a,ha⟩:=pz (enc:=aI) h.lj hn; exact⟨3,_,ha 3 _ rfl,by simp⟩) hg,
  h.n.ru hb (qy h.ln) (fun hn=>by obtain⟨a,ha⟩:=pz (enc:=aB) h.ln hn; exact⟨2,_,ha 2 _ rfl,by simp⟩) hg,
  h.l.ru hb (ou h.ll) (fun hn=>by obtain⟨a,ha⟩:=pz (enc:=av) h.ll hn; exact⟨1,_,ha 1 _ rfl,by simp⟩) hg,
  h.lj,h.ln,h.ll,h.bj,h.bn,h.bl,h.oj,h.on_,h.ol⟩
end Go.Proofs.YtbllgmociapjeaaGreatDoor
/- The walk of the reference's Same. -/
namespace Go.Proofs.YtbllgmociapjeaaGreatDoor
open Go.Lib (hid)
open List (foldl_cons foldl_nil setIfInBounds_toArray set_cons_succ set_cons_zero)
open Go.RowKit
theorem StAt.up {w w':World} {st:ah} {x:StA} (hS:StAt w w.heap.size st x) (hb:Below w.heap.size w w'):StAt w' w'.heap.size st x:=(hS.below hb).more hb.size
theorem aU.up {w w':World} {sz n:Nat} {A:Option Addr} {xs:List Value} (h:aU w w.heap.size sz A n xs) (hb:Below w.heap.size w w'):aU w' w'.heap.size sz A n xs:=(h.below hb).more hb.size
end Go.Proofs.YtbllgmociapjeaaGreatDoor
/- Eq of the reference at strings; DeltaEq of one delta in two places. -/
namespace Go.Proofs.YtbllgmociapjeaaGreatDoor
open Go.Lib (hid)
open List (foldl_cons foldl_nil setIfInBounds_toArray set_cons_succ set_cons_zero)
open Go.RowKit
theorem wK.same {α:Type} {xs:List α} {w w':World} {e:Ending} (h:wK xs xs w e w'):e = .returned (.bool true)∧Below w.heap.size w w':=by
 obtain⟨t,rfl,ht,hb⟩:=h
 exact⟨by rw [ht.2 rfl],hb⟩
end Go.Proofs.YtbllgmociapjeaaGreatDoor
/- != at requests. -/
namespace Go.Proofs.YtbllgmociapjeaaGreatDoor
open Go.Lib (hid)
open List (foldl_cons foldl_nil setIfInBounds_toArray set_cons_succ set_cons_zero)
open Go.RowKit
theorem EE (xk yk:Int) (xjn yjn:ByteArray) (xjp yjp:Int) (xjd yjd:Int) (xjt yjt:Int) (xjg yjg:ByteArray) (xnn ynn:ByteArray) (xnr ynr:Int) (xnz ynz:ByteArray) (xlj ylj:ByteArray) (xln yln:ByteArray) (xlt ylt:Int) (xnm ynm:ByteArray) (xn yn:Int) (h:(⟨xk,⟨xjn,xjp,xjd,xjt,xjg⟩,⟨xnn,xnr,xnz⟩,⟨xlj,xln,xlt⟩,xnm,xn⟩:aF)≠(⟨yk,⟨yjn,yjp,yjd,yjt,yjg⟩,⟨ynn,ynr,ynz⟩,⟨ylj,yln,ylt⟩,ynm,yn⟩:aF)) (W:World):(binOp .neq 38 (.agg #[.int .i64 xk,.string xjn,.int .i64 xjp,.int .i64 xjd,.int .i64 xjt,.string xjg,.string xnn,.int .i64 xnr,.string xnz,.string xlj,.string xln,.int .i64 xlt,.string xnm,.int .i64 xn]) (.agg #[.int .i64 yk,.string yjn,.int .i64 yjp,.int .i64 yjd,.int .i64 yjt,.string yjg,.string ynn,.int .i64 ynr,.string ynz,.string ylj,.string yln,.int .i64 ylt,.string ynm,.int .i64 yn])).run Tryz.prog W = .ok (.bool true) W:=by
 by_cases e_k:xk=yk
 rotate_left
 · simp [go_sem,e_k]
 by_cases pL:xjn.toList=yjn.toList
 rotate_left
 · simp [go_sem,e_k,pL]
 by_cases sZ:xjp=yjp
 rotate_left
 · simp [go_sem,e_k,pL,sZ]
 by_cases uy:xjd=yjd
 rotate_left
 · simp [go_sem,e_k,pL,sZ,uy]
 by_cases wL:xjt=yjt
 rotate_left
 · simp [go_sem,e_k,pL,sZ,uy,wL]
 by_cases uz:xjg.toList=yjg.toList
 rotate_left
 · simp [go_sem,e_k,pL,sZ,uy,wL,uz]
 by_cases wM:xnn.toList=ynn.toList
 rotate_left
 · simp [go_sem,e_k,pL,sZ,uy,wL,uz,wM]
 by_cases AZ:xnr=ynr
 rotate_left
 · simp [go_sem,e_k,pL,sZ,uy,wL,uz,wM,AZ]
 by_cases zm:xnz.toList=ynz.toList
 rotate_left
 · simp [go_sem,e_k,pL,sZ,uy,wL,uz,wM,AZ,zm]
 by_cases A0:xlj.toList=ylj.toList
 rotate_left
 · simp [go_sem,e_k,pL,sZ,uy,wL,uz,wM,AZ,zm,A0]
 by_cases CK:xln.toList=yln.toList
 rotate_left
 · simp [go_sem,e_k,pL,sZ,uy,wL,uz,wM,AZ,zm,A0,CK]
 by_cases JJ:xlt=ylt
 rotate_left
 · simp [go_sem,e_k,pL,sZ,uy,wL,uz,wM,AZ,zm,A0,CK,JJ]
 by_cases G3:xnm.toList=ynm.toList
 rotate_left
 · simp [go_sem,e_k,pL,sZ,uy,wL,uz,wM,AZ,zm,A0,CK,JJ,G3]
 by_cases e_n:xn=yn
 rotate_left
 · simp [go_sem,e_k,pL,sZ,uy,wL,uz,wM,AZ,zm,A0,CK,JJ,G3,e_n]
 refine absurd ?_ h
 subst e_k
 have pL:=cM pL; subst pL
 subst sZ
 subst uy
 subst wL
 have uz:=cM uz; subst uz
 have wM:=cM wM; subst wM
 subst AZ
 have zm:=cM zm; subst zm
 have A0:=cM A0; subst A0
 have CK:=cM CK; subst CK
 subst JJ
 have G3:=cM G3; subst G3
 subst e_n
 rfl
theorem G4 (a b:aF):∃ t:Bool,(t=true↔a=b)∧∀ W,(binOp .neq 38 (bH a) (bH b)).run Tryz.prog W = .ok (.bool (!t)) W:=by
 by_cases h:a=b
 · subst h
   exact⟨true,⟨fun _=>rfl,fun _=>rfl⟩,fun W=>by simp [go_sem,bH,aN]⟩
 · exact⟨false,⟨fun h'=>(by cases h'),fun h'=>absurd h' h⟩,fun W=>EE _ _ _ _ _ _ _ _ _ _ _ _ _ _ _ _ _ _ _ _ _ _ _ _ _ _ _ _ h W⟩
end Go.Proofs.YtbllgmociapjeaaGreatDoor
/- req.Check at any kind that has a part. -/
namespace Go.Proofs.YtbllgmociapjeaaGreatDoor
open Go.Lib (hid)
open List (foldl_cons foldl_nil setIfInBounds_toArray set_cons_succ set_cons_zero)
open Go.RowKit
structure Dn (w:World) (q:aF) (J:Value→World→Prop) (v:Value) (wx:World):Prop where
 qb:Blk wx w.heap.size 38 (aN q)
 pb:J v wx
 below:Below w.heap.size w wx
structure ROk (q:aF):Prop where
 j1:q.job.name.size≤9223372036854775807
 j2:q.job.tag.size≤9223372036854775807
 n1:q.node.name.size≤9223372036854775807
 n2:q.node.zone.size≤9223372036854775807
 l1:q.lease.job.size≤9223372036854775807
 l2:q.lease.node.size≤9223372036854775807
 s:q.name.size≤9223372036854775807
def ckV (B:Nat) (T:TypeId) (v:Value) (q h:aF) (t:Bool):Nat→Value→Prop
 | 0,u=>u = .pointer (some ⟨B,0,none⟩)
 | 1,u=>u = .int .i64 q.kind
 | 2,u=>u = .iface T v
 | 3,u=>u = .agg #[.int .i64 h.kind,.string h.job.name,.int .i64 h.job.prio,.int .i64 h.job.need,.int .i64 h.job.tries,.string h.job.tag,.string h.node.name,.int .i64 h.node.room,.string h.node.zone,.string h.lease.job,.string h.lease.node,.int .i64 h.lease.till,.string h.name,.int .i64 h.n]
 | 4,u=>u = .agg #[.int .i64 q.kind,.string q.job.name,.int .i64 q.job.prio,.int .i64 q.job.need,.int .i64 q.job.tries,.string q.job.tag,.string q.node.name,.int .i64 q.node.room,.string q.node.zone,.string q.lease.job,.string q.lease.node,.int .i64 q.lease.till,.string q.name,.int .i64 q.n]
 | 5,u=>u = .bool (!t)
 | 6,u=>u = .bool (!t)
 | _,_=>False
theorem gA (q h:aF) (w:World) (T:TypeId) (F:FuncId) (K:Int) (J:Value→World→Prop) (hJ:∀ v w w',J v w→Below w.heap.size w w'→J v w')
 (hn:∀ v (w:World),(binOp .eql 130 (.iface T v) .nilIface).run Tryz.prog w = .ok (.bool false) w)
 (hre:(h≠q→cu q=4)∧(h=q→cu q=K))
 (HPt:∀ w,Calls Tryz.prog 56 #[bH q] w fun e w'=>∃ v,e = .returned (.iface T v)∧J v w'∧Below w.heap.size w w')
 (HWh:∀ v w,J v w→Calls Tryz.prog 86 #[.int .i64 q.kind,.iface T v] w fun e w'=>e = .returned (bH h)∧Below w.heap.size w w')
 (HM : ∀ v w, J v w → ∀ w', (method 424 T v "bracken/req.check").run Tryz.prog w' = .ok (F, v) w')
 (hc:∀ a (w:World),(callFunc F a).run Tryz.prog w = .ok (.enter F a) w)
 (HK:∀ v wy,J v wy→Below w.heap.size w wy→Calls Tryz.prog F #[v] wy (cF K wy)) :
 Calls Tryz.prog 54 #[bH q] w (cF (cu q) w):=by
 obtain⟨W,hW⟩:∃ W,w.alloc (.cells (aN q) 38)=W:=⟨_,rfl⟩
 have hb:Blk W w.heap.size 38 (aN q):=by rw [← hW]; exact heap_alloc_new w _
 have hbW:Below w.heap.size w W:=by rw [← hW]; exact (Below.refl _ _).alloc (Nat.le_refl _) _
 have HPt:=hid (HPt W)
 have HKh:=hid HK
 have HMh:=hid HM
 have HW0:=hid HWh
 have HN:=hid (show ∀ v wx w',Below wx.heap.size wx w'→Dn w q J v wx→Dn w q J v w' from fun v _ _ hb h=>⟨h.qb.below hb h.qb.lt,hJ v _ _ h.pb hb,h.below.trans (hb.mono h.below.size)⟩)
 obtain⟨t,ht,Kp⟩:=G4 h q
 have hrun:∀ W,(binOp .neq 38 (.agg #[.int .i64 h.kind,.string h.job.name,.int .i64 h.job.prio,.int .i64 h.job.need,.int .i64 h.job.tries,.string h.job.tag,.string h.node.name,.int .i64 h.node.room,.string h.node.zone,.string h.lease.job,.string h.lease.node,.int .i64 h.lease.till,.string h.name,.int .i64 h.n]) (.agg (pN q))).run Tryz.prog W = .ok (.bool (!t)) W:=Kp
 clear Kp
 obtain⟨c0,c1,c2,c3,c4,c5,c6,c7,c8,c9,c10,c11,c12,c13⟩:=Blk.c14 (hb)
 have hlt:=hb.lt
 have Hq:=hid hb
 have HbW:=hid hbW
 have HRe:=hid hre
 have Ht:=hid ht
 have Hrun:=hid hrun
 have HW:=hid hW
 clear hb hbW hre ht hrun hW HK HM HWh hJ
 obtain⟨E0,hE0⟩:∃ E0,cu q=E0:=⟨_,rfl⟩
 rw [hE0]
 have HE0:=hid hE0
 clear hE0
 unfold bH at HPt HW0 ⊢
 unfold aN at HPt ⊢
 unfold aN at HW HW0
 go_enter Tryz.func54,Tryz.ntmps54
 go_wp2_with fail
 try simp only [HW.out]
 clear HW
 refine Calls.mono HPt.out ?_
 rintro e w1 ⟨v,rfl,hpb,hb1⟩
 have H0:Dn w q J v w1:=⟨Hq.out.below hb1 Hq.out.lt,hpb,HbW.out.trans (hb1.mono HbW.out.size)⟩
 have HWh:=hid (HW0.out v)
 clear hpb hb1 HPt HW0 c0 c1 c2 c3 c4 c5 c6 c7 c8 c9 c10 c11 c12 c13 hlt
 go_wp2_with fail
 have hrun:=Hrun.out
 refine rq (Γ:=Unit) 18 (fun _=>ckV w.heap.size T v q h t) [] (fun _ _ wx=>Dn w q J v wx) () (HN.out v _ _ (Below.refl _ _).drew H0) ?_ ?_
 · refine⟨?_,?_,?_,?_,?_,?_,?_,trivial⟩
   · exact ok0 0 0 1 rfl fun _=>rfl
   · refine okQ 0 0 fun p γ a wx _ _ hp hk=>?_
     obtain⟨u1,h1,rfl⟩:=hk.g 0 10 rfl rfl
     have hc0:wx.cell? ⟨w.heap.size,0,none⟩=some (.int .i64 q.kind):=hp.qb.cell 0
     simp [go_sem,Oper.wp,execOp,Act.eval,h1,hc0]
     exact⟨_,rfl,rfl,hp⟩
   · exact ok0 0 0 3 rfl fun _=>rfl
   · refine okQ 0 0 fun p γ a wx _ _ hp hk=>?_
     obtain⟨u1,h1,rfl⟩:=hk.g 1 11 rfl rfl
     obtain⟨u2,h2,rfl⟩:=hk.g 2 12 rfl rfl
     simp [go_sem,Oper.wp,execOp,Act.eval,h1,h2]
     refine (HWh.out wx hp.pb).mono ?_
     rintro e w' ⟨rfl,hb⟩
     exact⟨_,rfl,rfl,HN.out v wx w' hb hp⟩
   · refine okQ 0 0 fun p γ a wx _ _ hp hk=>?_
     have h1:=hk.k 1 rfl
     obtain⟨hc0,hc1,hc2,hc3,hc4,hc5,hc6,hc7,hc8,hc9,KM,KN,KO,KP⟩:=Blk.c14 (hp.qb)
     simp [go_sem,Oper.wp,execOp,Act.eval,h1,hc0,hc1,hc2,hc3,hc4,hc5,hc6,hc7,hc8,hc9,KM,KN,KO,KP]
     exact⟨_,rfl,rfl,hp⟩
   · refine okQ 0 0 fun p γ a wx _ _ hp hk=>?_
     obtain⟨u1,h1,rfl⟩:=hk.g 3 13 rfl rfl
     obtain⟨u2,h2,rfl⟩:=hk.g 4 14 rfl rfl
     simp [go_sem,Oper.wp,execOp,Act.eval,h1,h2,hrun]
     exact⟨_,rfl,rfl,hp⟩
   · exact ok1 0 0 5 15 rfl rfl (fun _ _ h=>h) fun _=>rfl
 intro γ a wy hd
 have H1:=hid hd.ph
 obtain⟨fv,rfl,hfv⟩:=hd.frame [10,11,12,13,14,15,9] rfl
 have h9:fv 9 = .bool (!t):=hfv 6 _ 9 rfl rfl
 clear hd hfv H0 HWh hrun Hrun
 simp only [foldl_cons,foldl_nil,setIfInBounds_toArray,set_cons_succ,set_cons_zero,h9]
 clear h9
 cases t
 · have hE:cu q=4:=HRe.out.1 (fun h=>by have:=Ht.out.2 h; cases this)
   obtain rfl:(4:Int)=E0:=hE.symm.trans HE0.out
   have bI:=hid (show cF 4 w (.returned (.int .i64 4)) wy from ⟨rfl,H1.out.below⟩)
   clear hE HRe Ht HE0
   go_wp2
   go_ret
   exact bI.out
 · have hE:cu q=K:=HRe.out.2 (Ht.out.1 rfl)
   obtain rfl:K=E0:=hE.symm.trans HE0.out
   have HK:=hid (HKh.out v wy H1.out.pb H1.out.below)
   clear hE HRe HE0
   have hm:=HMh.out v wy H1.out.pb
   clear HMh HKh HN
   go_wp2_with fail
   refine Calls.mono HK.out ?_
   rintro e w5 ⟨rfl,hb5⟩
   have HB:=hid (H1.out.below.trans (hb5.mono H1.out.below.size))
   have bI:=hid (show cF K w (.returned (.int .i64 K)) w5 from ⟨rfl,HB.out⟩)
   clear hb5 HK H1 HB hm
   go_wp2
   go_ret
   exact bI.out
def PtJ (T:TypeId) (cs:Array Value) (v:Value) (w:World):Prop:=∃ P,v = .pointer (some ⟨P,0,none⟩)∧Blk w P T cs
theorem PtJ.kept {T:TypeId} {cs:Array Value} (v:Value) (w w':World) (h:PtJ T cs v w) (hb:Below w.heap.size w w'):PtJ T cs v w':=by
 obtain⟨P,rfl,h⟩:=h
 exact⟨P,rfl,h.below hb h.lt⟩
theorem nG {q h:aF} {K:Int} (hk:ranged q.kind 1 9=true) (how:iK q=h) (hpe:bR q=K):(h≠q→cu q=4)∧(h=q→cu q=K):=by
 subst how hpe
 unfold cu
 rw [if_neg (by simp [hk])]
 exact⟨fun h=>if_pos h,fun h=>if_neg (fun h'=>h' h)⟩
theorem G5 (q:aF) (w:World) (hq:q.kind=1) (hok:ROk q) (hT:Tabs w):Calls Tryz.prog 54 #[bH q] w (cF (cu q) w):=by
 refine gA q ⟨q.kind,q.job,dw,cC,⟨#[]⟩,0⟩ w 169 270 (bR q) (PtJ 171 #[.string q.job.name,.int .i64 q.job.prio,.int .i64 q.job.need,.int .i64 q.job.tries,.string q.job.tag]) PtJ.kept ?_ (nG (by rw [hq]; rfl) (by unfold iK; simp [hq]) rfl) (fun w=>(Cy q w hq).mono fun e w' h=>?_) ?_ ?_ ?_ ?_
 · exact fun _ _=>rfl
 · obtain⟨P,rfl,-,h,hb⟩:=h
   exact⟨_,rfl,⟨P,rfl,h⟩,hb⟩
 · rintro v wx ⟨P,rfl,h⟩
   exact yt q P wx h
 · rintro v wx ⟨P,rfl,h⟩ w'
   kernel_rfl
 · exact fun _ _=>by kernel_rfl
 · rintro v wy ⟨P,rfl,h⟩ hb
   have hpe:bR q=fB q.job:=by unfold bR; simp [hq]
   rw [hpe]
   exact CJ q.job P wy h hok.j1 hok.j2 (hT.below hb)
theorem G6 (q:aF) (w:World) (hq:q.kind=2) (hok:ROk q) (hT:Tabs w):Calls Tryz.prog 54 #[bH q] w (cF (cu q) w):=by
 refine gA q ⟨q.kind,gV,q.node,cC,⟨#[]⟩,0⟩ w 172 279 (bR q) (PtJ 174 #[.string q.node.name,.int .i64 q.node.room,.string q.node.zone]) PtJ.kept ?_ (nG (by rw [hq]; rfl) (by unfold iK; simp [hq]) rfl) (fun w=>(Cz q w hq).mono fun e w' h=>?_) ?_ ?_ ?_ ?_
 · exact fun _ _=>rfl
 · obtain⟨P,rfl,-,h,hb⟩:=h
   exact⟨_,rfl,⟨P,rfl,h⟩,hb⟩
 · rintro v wx ⟨P,rfl,h⟩
   exact wI q P wx h
 · rintro v wx ⟨P,rfl,h⟩ w'
   kernel_rfl
 · exact fun _ _=>by kernel_rfl
 · rintro v wy ⟨P,rfl,h⟩ hb
   have hpe:bR q=dO q.node:=by unfold bR; simp [hq]
   rw [hpe]
   exact AY q.node P wy h hok.n1 hok.n2 (hT.below hb)
theorem G7 (q:aF) (w:World) (hq:q.kind=5) (hok:ROk q) (hT:Tabs w):Calls Tryz.prog 54 #[bH q] w (cF (cu q) w):=by
 refine gA q ⟨q.kind,gV,dw,q.lease,⟨#[]⟩,0⟩ w 175 284 (bR q) (PtJ 177 #[.string q.lease.job,.string q.lease.node,.int .i64 q.lease.till]) PtJ.kept ?_ (nG (by rw [hq]; rfl) (by unfold iK; simp [hq]) rfl) (fun w=>(CA q w hq).mono fun e w' h=>?_) ?_ ?_ ?_ ?_
 · exact fun _ _=>rfl
 · obtain⟨P,rfl,-,h,hb⟩:=h
   exact⟨_,rfl,⟨P,rfl,h⟩,hb⟩
 · rintro v wx ⟨P,rfl,h⟩
   exact tW q P wx h
 · rintro v wx ⟨P,rfl,h⟩ w'
   kernel_rfl
 · exact fun _ _=>by kernel_rfl
 · rintro v wy ⟨P,rfl,h⟩ hb
   have hpe:bR q=lsE q.lease:=by unfold bR; simp [hq]
   rw [hpe]
   exact zl q.lease P wy h hok.l1 hok.l2 (hT.below hb)
theorem G8 (q:aF) (w:World) (hq:q.kind=3) (hok:ROk q) (hT:Tabs w):Calls Tryz.prog 54 #[bH q] w (cF (cu q) w):=by
 refine gA q ⟨q.kind,gV,dw,cC,q.name,0⟩ w 179 289 (bR q) (PtJ 178 #[.string q.name]) PtJ.kept ?_ (nG (by rw [hq]; rfl) (by unfold iK; simp [hq]) rfl) (fun w=>(CC q w hq).mono fun e w' h=>?_) ?_ ?_ ?_ ?_
 · exact fun _ _=>rfl
 · obtain⟨P,rfl,-,h,hb⟩:=h
   exact⟨_,rfl,⟨P,rfl,h⟩,hb⟩
 · rintro v wx ⟨P,rfl,h⟩
   exact jN q P wx h
 · rintro v wx ⟨P,rfl,h⟩ w'
   kernel_rfl
 · exact fun _ _=>by kernel_rfl
 · rintro v wy ⟨P,rfl,h⟩ hb
   have hpe:bR q=if bF q.name=true then 0 else 4:=by unfold bR; simp [hq]
   rw [hpe]
   exact oK q.name P wy h hok.s (hT.below hb)
theorem G9 (q:aF) (w:World) (hq:q.kind=4) (hok:ROk q) (hT:Tabs w):Calls Tryz.prog 54 #[bH q] w (cF (cu q) w):=by
 refine gA q ⟨q.kind,gV,dw,cC,q.name,0⟩ w 179 289 (bR q) (PtJ 178 #[.string q.name]) PtJ.kept ?_ (nG (by rw [hq]; rfl) (by unfold iK; simp [hq]) rfl) (fun w=>(CD q w hq).mono fun e w' h=>?_) ?_ ?_ ?_ ?_
 · exact fun _ _=>rfl
 · obtain⟨P,rfl,-,h,hb⟩:=h
   exact⟨_,rfl,⟨P,rfl,h⟩,hb⟩
 · rintro v wx ⟨P,rfl,h⟩
   exact jN q P wx h
 · rintro v wx ⟨P,rfl,h⟩ w'
   kernel_rfl
 · exact fun _ _=>by kernel_rfl
 · rintro v wy ⟨P,rfl,h⟩ hb
   have hpe:bR q=if bF q.name=true then 0 else 4:=by unfold bR; simp [hq]
   rw [hpe]
   exact oK q.name P wy h hok.s (hT.below hb)
theorem Hu (q:aF) (w:World) (hq:q.kind=6) (hok:ROk q) (hT:Tabs w):Calls Tryz.prog 54 #[bH q] w (cF (cu q) w):=by
 refine gA q ⟨q.kind,gV,dw,cC,q.name,0⟩ w 179 289 (bR q) (PtJ 178 #[.string q.name]) PtJ.kept ?_ (nG (by rw [hq]; rfl) (by unfold iK; simp [hq]) rfl) (fun w=>(CF q w hq).mono fun e w' h=>?_) ?_ ?_ ?_ ?_
 · exact fun _ _=>rfl
 · obtain⟨P,rfl,-,h,hb⟩:=h
   exact⟨_,rfl,⟨P,rfl,h⟩,hb⟩
 · rintro v wx ⟨P,rfl,h⟩
   exact jN q P wx h
 · rintro v wx ⟨P,rfl,h⟩ w'
   kernel_rfl
 · exact fun _ _=>by kernel_rfl
 · rintro v wy ⟨P,rfl,h⟩ hb
   have hpe:bR q=if bF q.name=true then 0 else 4:=by unfold bR; simp [hq]
   rw [hpe]
   exact oK q.name P wy h hok.s (hT.below hb)
theorem HU (q:aF) (w:World) (hq:q.kind=7) (hok:ROk q) (hT:Tabs w):Calls Tryz.prog 54 #[bH q] w (cF (cu q) w):=by
 refine gA q ⟨q.kind,gV,dw,cC,⟨#[]⟩,q.n⟩ w 181 293 (bR q) (PtJ 180 #[.int .i64 q.n]) PtJ.kept ?_ (nG (by rw [hq]; rfl) (by unfold iK; simp [hq]) rfl) (fun w=>(CG q w hq).mono fun e w' h=>?_) ?_ ?_ ?_ ?_
 · exact fun _ _=>rfl
 · obtain⟨P,rfl,-,h,hb⟩:=h
   exact⟨_,rfl,⟨P,rfl,h⟩,hb⟩
 · rintro v wx ⟨P,rfl,h⟩
   exact tX q P wx h
 · rintro v wx ⟨P,rfl,h⟩ w'
   kernel_rfl
 · exact fun _ _=>by kernel_rfl
 · rintro v wy ⟨P,rfl,h⟩ hb
   have hpe:bR q=if ranged q.n 0 1099511627776=true then 0 else 1:=by unfold bR; simp [hq]
   rw [hpe]
   exact zk q.n P wy h
end Go.Proofs.YtbllgmociapjeaaGreatDoor
/- The walks of up.steps, up.isWay and up.State. -/
namespace Go.Proofs.YtbllgmociapjeaaGreatDoor
open Go.Lib (hid)
open List (foldl_cons foldl_nil setIfInBounds_toArray set_cons_succ set_cons_zero)
open Go.RowKit
theorem StOwn.base {w:World} {base b:Nat} {st:ah} {x:StA} (h:StOwn w base st x) (hb:b≤base):StOwn w b st x:=
 ⟨bK h.j hb,bK h.n hb,bK h.l hb,h.lj,h.ln,h.ll⟩
end Go.Proofs.YtbllgmociapjeaaGreatDoor
/- What Encode of a state says: plain. -/
namespace Go.Proofs.YtbllgmociapjeaaGreatDoor
open Go.Lib (hid)
open List (foldl_cons foldl_nil setIfInBounds_toArray set_cons_succ set_cons_zero)
open Go.RowKit
def yu (st:ah) (v:Int):List UInt8:=(if 2<v then aO st.rev.toNat else []) ++ GJ st.jobs st.nodes st.leases v
def gQ (st:ah) (v:Int):ByteArray × Int:=if aE st≠0 then (⟨#[]⟩,aE st) else if ranged v 1 3=false then (⟨#[]⟩,1) else if oF st v=false then (⟨#[]⟩,4) else (⟨(yu st v).toArray⟩,0)
theorem A5 {st:ah} {v:Int} (h:aE st≠0):gQ st v=(⟨#[]⟩,aE st):=by unfold gQ; rw [if_pos h]
theorem EF {st:ah} {v:Int} (h:aE st=0) (h2:ranged v 1 3=false):gQ st v=(⟨#[]⟩,1):=by unfold gQ; rw [if_neg (by simp [h]),if_pos h2]
theorem CL {st:ah} {v:Int} (h:aE st=0) (h2:ranged v 1 3=true) (h3:oF st v=false):gQ st v=(⟨#[]⟩,4):=by unfold gQ; rw [if_neg (by simp [h]),if_neg (by simp [h2]),if_pos h3]
theorem H7 {st:ah} {v:Int} (h:aE st=0) (h2:ranged v 1 3=true) (h3:oF st v=true):gQ st v=(⟨(yu st v).toArray⟩,0):=by unfold gQ; rw [if_neg (by simp [h]),if_neg (by simp [h2]),if_neg (by simp [h3])]
theorem SGood.jobs {st:ah} (h:SGood st):∀ x ∈ st.jobs,ug x:=fun _ hx=>C8 (dX h.ej hx)
theorem SGood.nodes {st:ah} (h:SGood st):∀ x ∈ st.nodes,oh x:=fun _ hx=>Ah (dX h.en hx)
theorem SGood.leases {st:ah} (h:SGood st):∀ x ∈ st.leases,sG x:=fun _ hl=>by
 obtain⟨h1,h2,h3⟩:=h.lease hl
 exact⟨by omega,by omega,by omega⟩
def uL (st:ah) (v:Int) (w:World) (e:Ending) (w':World):Prop:=e = .returned (.tuple #[.string (gQ st v).1,.int .i64 (gQ st v).2])∧Below w.heap.size w w'
theorem uL.mk' {st:ah} {v E:Int} {s:ByteArray} {w w':World} (h:gQ st v=(s,E)) (hb:Below w.heap.size w w'):uL st v w (.returned (.tuple #[.string s,.int .i64 E])) w':=⟨by rw [h],hb⟩
end Go.Proofs.YtbllgmociapjeaaGreatDoor
