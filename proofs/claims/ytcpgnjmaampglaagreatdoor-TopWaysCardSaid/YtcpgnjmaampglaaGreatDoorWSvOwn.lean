/- Of the proof of a statement: SvOwn, DEqR, RcE, RcG, AppF, Quote. -/
import Derived.Deep.Upon
import Derived.Test.YtcpgnjmaampglaaGreatDoorWSvSame
set_option linter.unusedVariables false
set_option linter.unusedSimpArgs false
set_option maxRecDepth 100000
set_option maxHeartbeats 8000000
/- The walk of serve.own: a state of one's own. -/
namespace Go.Proofs.YtcpgnjmaampglaaGreatDoor
open Go.Lib (hid)
open List (foldl_cons foldl_nil setIfInBounds_toArray set_cons_succ set_cons_zero)
open Go.RowKit
def MA (B:Nat) (x γ:StA):Nat→Value→Prop
 | 0,u=>u = .pointer (some ⟨B,1,none⟩)
 | 1,u=>u = .slice x.aj x.nj x.cj
 | 2,u=>u = .slice γ.aj x.nj γ.cj
 | 3,u=>u = .pointer (some ⟨B,2,none⟩)
 | 4,u=>u = .slice x.an x.nn x.cn
 | 5,u=>u = .slice γ.an x.nn γ.cn
 | 6,u=>u = .pointer (some ⟨B,3,none⟩)
 | 7,u=>u = .slice x.al x.nl x.cl
 | 8,u=>u = .slice γ.al x.nl γ.cl
 | 9,u=>u = .pointer (some ⟨B,1,none⟩)
 | 11,u=>u = .pointer (some ⟨B,2,none⟩)
 | 13,u=>u = .pointer (some ⟨B,3,none⟩)
 | _,_=>True
structure GT (w0:World) (st:ah) (x γ:StA) (c k:Nat) (w:World):Prop where
 below:Below w0.heap.size w0 w
 blk:Blk w w0.heap.size 26 #[.int .i64 st.rev,if 0<k then .slice γ.aj x.nj γ.cj else .slice x.aj x.nj x.cj,if 1<k then .slice γ.an x.nn γ.cn else .slice x.an x.nn x.cn,if 2<k then .slice γ.al x.nl γ.cl else .slice x.al x.nl x.cl]
 res:Blk w (w0.heap.size+1) 26 iT
 j:0<c→w.ownsRow (w0.heap.size+2) 59 5 (.slice γ.aj x.nj γ.cj) x.nj (au aH st.jobs)
 n:1<c→w.ownsRow (w0.heap.size+2) 61 3 (.slice γ.an x.nn γ.cn) x.nn (au aI st.nodes)
 l:2<c→w.ownsRow (w0.heap.size+2) 63 3 (.slice γ.al x.nl γ.cl) x.nl (au aE st.leases)
def Qp (w0:World) (st:ah) (x:StA) (p:Nat) (γ:StA) (w:World):Prop:=GT w0 st x γ p (p - 3) w
theorem AB {B:Nat} {x γ γ':StA} (d:Nat) (h2:d≠2→γ'.aj=γ.aj∧γ'.cj=γ.cj) (h5:d≠5→γ'.an=γ.an∧γ'.cn=γ.cn) (h8:d≠8→γ'.al=γ.al∧γ'.cl=γ.cl):∀ j v,j≠d→MA B x γ j v→MA B x γ' j v:=by
 intro j v hj h
 match j,hj,h with
 | 0,_,h=>exact h
 | 1,_,h=>exact h
 | 2,hj,h=>obtain⟨e1,e2⟩:=h2 (fun e=>hj e.symm); exact (show v=_ by rw [e1,e2]; exact h)
 | 3,_,h=>exact h
 | 4,_,h=>exact h
 | 5,hj,h=>obtain⟨e1,e2⟩:=h5 (fun e=>hj e.symm); exact (show v=_ by rw [e1,e2]; exact h)
 | 6,_,h=>exact h
 | 7,_,h=>exact h
 | 8,hj,h=>obtain⟨e1,e2⟩:=h8 (fun e=>hj e.symm); exact (show v=_ by rw [e1,e2]; exact h)
 | 9,_,h=>exact h
 | 10,_,_=>trivial
 | 11,_,h=>exact h
 | 12,_,_=>trivial
 | 13,_,h=>exact h
 | _+14,_,_=>trivial
def E6 (st:ah) (x:StA) (w:World) (e:Ending) (w':World):Prop:=
 ∃ x':StA,e = .returned (.agg (stC st x'))∧x'.nj=x.nj∧x'.nn=x.nn∧x'.nl=x.nl∧StOwn w' (w.heap.size+2) st x'∧Below w.heap.size w w'
theorem zl (st:ah) (x:StA) (w:World) (hS:StAt w w.heap.size st x) (h1:x.nj≤1000) (h2:x.nn≤1000) (h3:x.nl≤1000) :
 Calls Tryz.prog 114 #[.agg (stC st x)] w (E6 st x w):=by
 have hb1:Below w.heap.size w (w.alloc (.cells (stC st x) 26)):=(Below.refl _ _).alloc (Nat.le_refl _) _
 have hb2:=hb1.alloc hb1.size (.cells iT 26)
 have H0:GT w st x x 0 0 (((w.alloc (.cells (stC st x) 26)).alloc (.cells iT 26))).drew:=
  { below:=hb2.drew
    blk:=Blk.alloc (show Blk _ _ _ _ from heap_alloc_new w _) _
    res:=by
     have h:=heap_alloc_new (w.alloc (.cells (stC st x) 26)) (.cells iT 26)
     rw [show (w.alloc (.cells (stC st x) 26)).heap.size=w.heap.size+1 by simp] at h
     exact h
    j:=fun h=>absurd h (by omega)
    n:=fun h=>absurd h (by omega)
    l:=fun h=>absurd h (by omega) }
 have HS:=hid hS
 clear hb1 hb2 hS
 go_enter Tryz.func114,Tryz.ntmps114
 unfold stC at *
 go_wp2_with fail
 refine bO (n:=16) (by kernel_rfl) (MA w.heap.size x) [2,5,8,10,12,14] (Qp w st x) x (by decide +kernel) (by decide +kernel) rfl H0 ?_ ?_
 · refine⟨?_,?_,?_,?_,?_,?_,?_,?_,?_,?_,?_,?_,?_,?_,?_,trivial⟩
   · refine⟨rfl,.inr ⟨by decide,0,6,by decide +kernel,by decide +kernel,fun p γ a wx _ hph hp hk=>?_⟩⟩
     have h1:=hk.k 1 rfl
     simp [go_sem,Oper.wp,execOp,Act.eval,h1]
     exact⟨_,rfl,rfl,hp⟩
   · refine⟨rfl,.inr ⟨by decide,0,0,by decide +kernel,by decide +kernel,fun p γ a wx _ hph hp hk=>?_⟩⟩
     obtain⟨u1,hu1,ru1⟩:=hk.g 0 3 rfl rfl
     replace ru1:u1=_:=ru1
     subst ru1
     have hc:wx.cell? ⟨w.heap.size,1,none⟩=some (.slice x.aj x.nj x.cj):=by
      have h:=hp.blk.cell 1
      simp only [List.getElem?_toArray,List.getElem?_cons_succ,List.getElem?_cons_zero] at h
      rw [h,if_neg (by omega)]
     simp [go_sem,Oper.wp,execOp,Act.eval,hu1,hc]
     exact⟨_,rfl,rfl,hp⟩
   · refine⟨rfl,.inl ⟨0,rfl,fun γ a wx hp hk=>?_⟩⟩
     obtain⟨u1,hu1,ru1⟩:=hk.g 1 4 rfl rfl
     replace ru1:u1=_:=ru1
     subst ru1
     simp [go_sem,Oper.wp,execOp,Act.eval,hu1]
     refine (qx.1 st.jobs x.aj x.nj x.cj wx (HS.out.j.below hp.below |>.more hp.below.size) HS.out.lj (by omega)).mono ?_
     rintro e w' ⟨A',c',rfl,ho,hb⟩
     rw [HS.out.lj] at ho ⊢
     exact⟨_,rfl,{ γ with aj:=A',cj:=c' },AB 2 (fun h=>absurd rfl h) (fun _=>⟨rfl,rfl⟩) (fun _=>⟨rfl,rfl⟩),rfl,{ below:=hp.below.trans (hb.mono hp.below.size),blk:=Blk.eq (hp.blk.below hb hp.blk.lt) (by simp),res:=hp.res.below hb hp.res.lt,j:=fun _=>bV ho (by have:=hp.res.lt; omega),n:=fun h=>absurd h (by omega),l:=fun h=>absurd h (by omega) }⟩
   · refine⟨rfl,.inr ⟨by decide,0,6,by decide +kernel,by decide +kernel,fun p γ a wx _ hph hp hk=>?_⟩⟩
     have h1:=hk.k 1 rfl
     simp [go_sem,Oper.wp,execOp,Act.eval,h1]
     exact⟨_,rfl,rfl,hp⟩
   · refine⟨rfl,.inr ⟨by decide,0,1,by decide +kernel,by decide +kernel,fun p γ a wx _ hph hp hk=>?_⟩⟩
     obtain⟨u1,hu1,ru1⟩:=hk.g 3 6 rfl rfl
     replace ru1:u1=_:=ru1
     subst ru1
     have hc:wx.cell? ⟨w.heap.size,2,none⟩=some (.slice x.an x.nn x.cn):=by
      have h:=hp.blk.cell 2
      simp only [List.getElem?_toArray,List.getElem?_cons_succ,List.getElem?_cons_zero] at h
      rw [h,if_neg (by omega)]
     simp [go_sem,Oper.wp,execOp,Act.eval,hu1,hc]
     exact⟨_,rfl,rfl,hp⟩
   · refine⟨rfl,.inl ⟨1,rfl,fun γ a wx hp hk=>?_⟩⟩
     obtain⟨u1,hu1,ru1⟩:=hk.g 4 7 rfl rfl
     replace ru1:u1=_:=ru1
     subst ru1
     simp [go_sem,Oper.wp,execOp,Act.eval,hu1]
     refine (qx.2.1 st.nodes x.an x.nn x.cn wx (HS.out.n.below hp.below |>.more hp.below.size) HS.out.ln (by omega)).mono ?_
     rintro e w' ⟨A',c',rfl,ho,hb⟩
     rw [HS.out.ln] at ho ⊢
     exact⟨_,rfl,{ γ with an:=A',cn:=c' },AB 5 (fun _=>⟨rfl,rfl⟩) (fun h=>absurd rfl h) (fun _=>⟨rfl,rfl⟩),rfl,{ below:=hp.below.trans (hb.mono hp.below.size),blk:=Blk.eq (hp.blk.below hb hp.blk.lt) (by simp),res:=hp.res.below hb hp.res.lt,j:=fun _=>aU (hp.j (by omega)) hb,n:=fun _=>bV ho (by have:=hp.res.lt; omega),l:=fun h=>absurd h (by omega) }⟩
   · refine⟨rfl,.inr ⟨by decide,0,6,by decide +kernel,by decide +kernel,fun p γ a wx _ hph hp hk=>?_⟩⟩
     have h1:=hk.k 1 rfl
     simp [go_sem,Oper.wp,execOp,Act.eval,h1]
     exact⟨_,rfl,rfl,hp⟩
   · refine⟨rfl,.inr ⟨by decide,0,2,by decide +kernel,by decide +kernel,fun p γ a wx _ hph hp hk=>?_⟩⟩
     obtain⟨u1,hu1,ru1⟩:=hk.g 6 9 rfl rfl
     replace ru1:u1=_:=ru1
     subst ru1
     have hc:wx.cell? ⟨w.heap.size,3,none⟩=some (.slice x.al x.nl x.cl):=by
      have h:=hp.blk.cell 3
      simp only [List.getElem?_toArray,List.getElem?_cons_succ,List.getElem?_cons_zero] at h
      rw [h,if_neg (by omega)]
     simp [go_sem,Oper.wp,execOp,Act.eval,hu1,hc]
     exact⟨_,rfl,rfl,hp⟩
   · refine⟨rfl,.inl ⟨2,rfl,fun γ a wx hp hk=>?_⟩⟩
     obtain⟨u1,hu1,ru1⟩:=hk.g 7 10 rfl rfl
     replace ru1:u1=_:=ru1
     subst ru1
     simp [go_sem,Oper.wp,execOp,Act.eval,hu1]
     refine (qx.2.2 st.leases x.al x.nl x.cl wx (HS.out.l.below hp.below |>.more hp.below.size) HS.out.ll (by omega)).mono ?_
     rintro e w' ⟨A',c',rfl,ho,hb⟩
     rw [HS.out.ll] at ho ⊢
     exact⟨_,rfl,{ γ with al:=A',cl:=c' },AB 8 (fun _=>⟨rfl,rfl⟩) (fun _=>⟨rfl,rfl⟩) (fun h=>absurd rfl h),rfl,{ below:=hp.below.trans (hb.mono hp.below.size),blk:=Blk.eq (hp.blk.below hb hp.blk.lt) (by simp),res:=hp.res.below hb hp.res.lt,j:=fun _=>aU (hp.j (by omega)) hb,n:=fun _=>aU (hp.n (by omega)) hb,l:=fun _=>bV ho (by have:=hp.res.lt; omega) }⟩
   · refine⟨rfl,.inr ⟨by decide,0,6,by decide +kernel,by decide +kernel,fun p γ a wx _ hph hp hk=>?_⟩⟩
     have h1:=hk.k 1 rfl
     simp [go_sem,Oper.wp,execOp,Act.eval,h1]
     exact⟨_,rfl,rfl,hp⟩
   · refine⟨rfl,.inl ⟨3,rfl,fun γ a wx hp hk=>?_⟩⟩
     obtain⟨u1,hu1,ru1⟩:=hk.g 9 12 rfl rfl
     replace ru1:u1=_:=ru1
     subst ru1
     obtain⟨u2,hu2,ru2⟩:=hk.g 2 5 rfl rfl
     replace ru2:u2=_:=ru2
     subst ru2
     have hc:wx.cell? ⟨w.heap.size,1,none⟩=some (.slice x.aj x.nj x.cj):=by
      have h:=hp.blk.cell 1
      simp only [List.getElem?_toArray,List.getElem?_cons_succ,List.getElem?_cons_zero] at h
      rw [h,if_neg (by omega)]
     have hz:wx.frozen? ⟨w.heap.size,1,none⟩=false:=hp.blk.thaw 1
     simp [go_sem,Oper.wp,execOp,Act.eval,hu1,hu2,hc,hz]
     exact⟨.int .i64 0,γ,fun _ _ _ h=>h,trivial,{ below:=aJ hp.below (aC wx w.heap.size 1 _) (Nat.le_refl _),blk:=Blk.eq (hp.blk.set 1 _) rfl,res:=aA (aC wx w.heap.size 1 _) hp.res (by omega),j:=fun _=>aD (hp.j (by omega)) (aC wx w.heap.size 1 _) (by omega),n:=fun _=>aD (hp.n (by omega)) (aC wx w.heap.size 1 _) (by omega),l:=fun _=>aD (hp.l (by omega)) (aC wx w.heap.size 1 _) (by omega) }⟩
   · refine⟨rfl,.inr ⟨by decide,0,6,by decide +kernel,by decide +kernel,fun p γ a wx _ hph hp hk=>?_⟩⟩
     have h1:=hk.k 1 rfl
     simp [go_sem,Oper.wp,execOp,Act.eval,h1]
     exact⟨_,rfl,rfl,hp⟩
   · refine⟨rfl,.inl ⟨4,rfl,fun γ a wx hp hk=>?_⟩⟩
     obtain⟨u1,hu1,ru1⟩:=hk.g 11 13 rfl rfl
     replace ru1:u1=_:=ru1
     subst ru1
     obtain⟨u2,hu2,ru2⟩:=hk.g 5 8 rfl rfl
     replace ru2:u2=_:=ru2
     subst ru2
     have hc:wx.cell? ⟨w.heap.size,2,none⟩=some (.slice x.an x.nn x.cn):=by
      have h:=hp.blk.cell 2
      simp only [List.getElem?_toArray,List.getElem?_cons_succ,List.getElem?_cons_zero] at h
      rw [h,if_neg (by omega)]
     have hz:wx.frozen? ⟨w.heap.size,2,none⟩=false:=hp.blk.thaw 2
     simp [go_sem,Oper.wp,execOp,Act.eval,hu1,hu2,hc,hz]
     exact⟨.int .i64 0,γ,fun _ _ _ h=>h,trivial,{ below:=aJ hp.below (aC wx w.heap.size 2 _) (Nat.le_refl _),blk:=Blk.eq (hp.blk.set 2 _) rfl,res:=aA (aC wx w.heap.size 2 _) hp.res (by omega),j:=fun _=>aD (hp.j (by omega)) (aC wx w.heap.size 2 _) (by omega),n:=fun _=>aD (hp.n (by omega)) (aC wx w.heap.size 2 _) (by omega),l:=fun _=>aD (hp.l (by omega)) (aC wx w.heap.size 2 _) (by omega) }⟩
   · refine⟨rfl,.inr ⟨by decide,0,6,by decide +kernel,by decide +kernel,fun p γ a wx _ hph hp hk=>?_⟩⟩
     have h1:=hk.k 1 rfl
     simp [go_sem,Oper.wp,execOp,Act.eval,h1]
     exact⟨_,rfl,rfl,hp⟩
   · refine⟨rfl,.inl ⟨5,rfl,fun γ a wx hp hk=>?_⟩⟩
     obtain⟨u1,hu1,ru1⟩:=hk.g 13 14 rfl rfl
     replace ru1:u1=_:=ru1
     subst ru1
     obtain⟨u2,hu2,ru2⟩:=hk.g 8 11 rfl rfl
     replace ru2:u2=_:=ru2
     subst ru2
     have hc:wx.cell? ⟨w.heap.size,3,none⟩=some (.slice x.al x.nl x.cl):=by
      have h:=hp.blk.cell 3
      simp only [List.getElem?_toArray,List.getElem?_cons_succ,List.getElem?_cons_zero] at h
      rw [h,if_neg (by omega)]
     have hz:wx.frozen? ⟨w.heap.size,3,none⟩=false:=hp.blk.thaw 3
     simp [go_sem,Oper.wp,execOp,Act.eval,hu1,hu2,hc,hz]
     exact⟨.int .i64 0,γ,fun _ _ _ h=>h,trivial,{ below:=aJ hp.below (aC wx w.heap.size 3 _) (Nat.le_refl _),blk:=Blk.eq (hp.blk.set 3 _) rfl,res:=aA (aC wx w.heap.size 3 _) hp.res (by omega),j:=fun _=>aD (hp.j (by omega)) (aC wx w.heap.size 3 _) (by omega),n:=fun _=>aD (hp.n (by omega)) (aC wx w.heap.size 3 _) (by omega),l:=fun _=>aD (hp.l (by omega)) (aC wx w.heap.size 3 _) (by omega) }⟩
 · intro γ a wx hd
   have hp:GT w st x γ 6 3 wx:=hd.ph
   obtain⟨fv,rfl,-⟩:=hd.frame [3,4,5,6,7,8,9,10,11,12,13,14] rfl
   have hB:Blk wx w.heap.size 26 #[.int .i64 st.rev,.slice γ.aj x.nj γ.cj,.slice γ.an x.nn γ.cn,.slice γ.al x.nl γ.cl]:=hp.blk
   have hR:=hp.res
   have hbl:=hB.lt
   have hrl:=hR.lt
   obtain⟨b0,b1,b2,b3⟩:=Blk.c4 (hB)
   obtain⟨u0,u1,u2,u3⟩:=Blk.z4 (hR)
   obtain⟨s0,s1,s2,s3⟩:=Blk.c4 (hR)
   obtain⟨hR4,hG4⟩:=Blk.S4 (hR) (.int .i64 st.rev) (.slice γ.aj x.nj γ.cj) (.slice γ.an x.nn γ.cn) (.slice γ.al x.nl γ.cl)
   obtain⟨q0,q1,q2,q3⟩:=Blk.c4 hR4
   have cX:=hid (show E6 st x w (.returned (.agg (stC st ⟨γ.aj,x.nj,γ.cj,γ.an,x.nn,γ.cn,γ.al,x.nl,γ.cl⟩))) _ from ⟨⟨γ.aj,x.nj,γ.cj,γ.an,x.nn,γ.cn,γ.al,x.nl,γ.cl⟩,rfl,rfl,rfl,rfl,⟨aD (hp.j (by omega)) hG4 (by omega),aD (hp.n (by omega)) hG4 (by omega),aD (hp.l (by omega)) hG4 (by omega),HS.out.lj,HS.out.ln,HS.out.ll⟩,aJ hp.below hG4 (by omega)⟩)
   clear hd hp hB hR hR4 hG4 H0
   simp [Exit.then]
   go_wp2
   refine bodyPost_ret (v:=.agg #[.int .i64 st.rev,.slice γ.aj x.nj γ.cj,.slice γ.an x.nn γ.cn,.slice γ.al x.nl γ.cl]) (by simp [results,Tryz.results114,go_sem, *]) rfl ?_
   exact cX.out
theorem qL.same {α:Type} {xs:List α} {w w':World} {e:Ending} (h:qL xs xs w e w'):e = .returned (.bool true)∧Below w.heap.size w w':=by
 obtain⟨t,rfl,ht,hb⟩:=h
 exact⟨by rw [ht.2 rfl],hb⟩
structure IL (w:World) (q:cJ) (J:Value→World→Prop) (v:Value) (wx:World):Prop where
 qb:Blk wx w.heap.size 65 (eM q)
 pb:J v wx
 below:Below w.heap.size w wx
structure ROk (q:cJ):Prop where
 j1:q.job.name.size≤9223372036854775807
 j2:q.job.tag.size≤9223372036854775807
 n1:q.node.name.size≤9223372036854775807
 n2:q.node.zone.size≤9223372036854775807
 l1:q.lease.job.size≤9223372036854775807
 l2:q.lease.node.size≤9223372036854775807
 s:q.name.size≤9223372036854775807
def ckV (B:Nat) (T:TypeId) (v:Value) (q h:cJ) (t:Bool):Nat→Value→Prop
 | 0,u=>u = .pointer (some ⟨B,0,none⟩)
 | 1,u=>u = .int .i64 q.kind
 | 2,u=>u = .iface T v
 | 3,u=>u = .agg #[.int .i64 h.kind,.string h.job.name,.int .i64 h.job.prio,.int .i64 h.job.need,.int .i64 h.job.tries,.string h.job.tag,.string h.node.name,.int .i64 h.node.room,.string h.node.zone,.string h.lease.job,.string h.lease.node,.int .i64 h.lease.till,.string h.name,.int .i64 h.n]
 | 4,u=>u = .agg #[.int .i64 q.kind,.string q.job.name,.int .i64 q.job.prio,.int .i64 q.job.need,.int .i64 q.job.tries,.string q.job.tag,.string q.node.name,.int .i64 q.node.room,.string q.node.zone,.string q.lease.job,.string q.lease.node,.int .i64 q.lease.till,.string q.name,.int .i64 q.n]
 | 5,u=>u = .bool (!t)
 | 6,u=>u = .bool (!t)
 | _,_=>False
theorem GU (q h:cJ) (w:World) (T:TypeId) (F:FuncId) (K:Int) (J:Value→World→Prop) (hJ:∀ v w w',J v w→Below w.heap.size w w'→J v w')
 (hn:∀ v (w:World),(binOp .eql 218 (.iface T v) .nilIface).run Tryz.prog w = .ok (.bool false) w)
 (hre:(h≠q→kB q=4)∧(h=q→kB q=K))
 (HPt:∀ w,Calls Tryz.prog 116 #[gY q] w fun e w'=>∃ v,e = .returned (.iface T v)∧J v w'∧Below w.heap.size w w')
 (HWh:∀ v w,J v w→Calls Tryz.prog 163 #[.int .i64 q.kind,.iface T v] w fun e w'=>e = .returned (gY h)∧Below w.heap.size w w')
 (HM : ∀ v w, J v w → ∀ w', (method 515 T v "bracken/req.check").run Tryz.prog w' = .ok (F, v) w')
 (hc:∀ a (w:World),(callFunc F a).run Tryz.prog w = .ok (.enter F a) w)
 (HK:∀ v wy,J v wy→Below w.heap.size w wy→Calls Tryz.prog F #[v] wy (lu K wy)) :
 Calls Tryz.prog 115 #[gY q] w (lu (kB q) w):=by
 obtain⟨W,hW⟩:∃ W,w.alloc (.cells (eM q) 65)=W:=⟨_,rfl⟩
 have hb:Blk W w.heap.size 65 (eM q):=by rw [← hW]; exact heap_alloc_new w _
 have hbW:Below w.heap.size w W:=by rw [← hW]; exact (Below.refl _ _).alloc (Nat.le_refl _) _
 have HPt:=hid (HPt W)
 have HKh:=hid HK
 have HMh:=hid HM
 have HW0:=hid HWh
 have HN:=hid (show ∀ v wx w',Below wx.heap.size wx w'→IL w q J v wx→IL w q J v w' from fun v _ _ hb h=>⟨h.qb.below hb h.qb.lt,hJ v _ _ h.pb hb,h.below.trans (hb.mono h.below.size)⟩)
 obtain⟨t,ht,Pf⟩:=MB h q
 have hrun:∀ W,(binOp .neq 65 (.agg #[.int .i64 h.kind,.string h.job.name,.int .i64 h.job.prio,.int .i64 h.job.need,.int .i64 h.job.tries,.string h.job.tag,.string h.node.name,.int .i64 h.node.room,.string h.node.zone,.string h.lease.job,.string h.lease.node,.int .i64 h.lease.till,.string h.name,.int .i64 h.n]) (.agg (Ie q))).run Tryz.prog W = .ok (.bool (!t)) W:=Pf
 clear Pf
 obtain⟨c0,c1,c2,c3,c4,c5,c6,c7,c8,c9,c10,c11,c12,c13⟩:=Blk.c14 (hb)
 have hlt:=hb.lt
 have Hq:=hid hb
 have HbW:=hid hbW
 have HRe:=hid hre
 have Ht:=hid ht
 have Kk:=hid hrun
 have HW:=hid hW
 clear hb hbW hre ht hrun hW HK HM HWh hJ
 obtain⟨E0,hE0⟩:∃ E0,kB q=E0:=⟨_,rfl⟩
 rw [hE0]
 have HE0:=hid hE0
 clear hE0
 unfold gY at HPt HW0 ⊢
 unfold eM at HPt ⊢
 unfold eM at HW HW0
 go_enter Tryz.func115,Tryz.ntmps115
 go_wp2_with fail
 try simp only [HW.out]
 clear HW
 refine Calls.mono HPt.out ?_
 rintro e w1 ⟨v,rfl,hpb,hb1⟩
 have H0:IL w q J v w1:=⟨Hq.out.below hb1 Hq.out.lt,hpb,HbW.out.trans (hb1.mono HbW.out.size)⟩
 have HWh:=hid (HW0.out v)
 clear hpb hb1 HPt HW0 c0 c1 c2 c3 c4 c5 c6 c7 c8 c9 c10 c11 c12 c13 hlt
 go_wp2_with fail
 have hrun:=Kk.out
 refine rq (Γ:=Unit) 18 (fun _=>ckV w.heap.size T v q h t) [] (fun _ _ wx=>IL w q J v wx) () (HN.out v _ _ (Below.refl _ _).drew H0) ?_ ?_
 · refine⟨?_,?_,?_,?_,?_,?_,?_,trivial⟩
   · exact ok0 0 0 1 rfl fun _=>rfl
   · refine okQ 0 0 fun p γ a wx _ _ hp hk=>?_
     obtain⟨u1,h1,rfl⟩:=hk.g 0 10 rfl rfl
     have hc0:wx.cell? ⟨w.heap.size,0,none⟩=some (.int .i64 q.kind):=hp.qb.cell 0
     simp [go_sem,Oper.wp,execOp,Act.eval,h1,hc0]
     exact⟨_,rfl,rfl,hp⟩
   · exact ok0 0 0 3 rfl fun _=>rfl
   · refine okQ 0 0 fun p γ a wx _ _ hp hk=>?_
     obtain⟨u1,h1,rfl⟩:=hk.g 1 11 rfl rfl
     obtain⟨u2,h2,rfl⟩:=hk.g 2 12 rfl rfl
     simp [go_sem,Oper.wp,execOp,Act.eval,h1,h2]
     refine (HWh.out wx hp.pb).mono ?_
     rintro e w' ⟨rfl,hb⟩
     exact⟨_,rfl,rfl,HN.out v wx w' hb hp⟩
   · refine okQ 0 0 fun p γ a wx _ _ hp hk=>?_
     have h1:=hk.k 1 rfl
     obtain⟨hc0,hc1,hc2,hc3,hc4,hc5,hc6,hc7,hc8,hc9,PR,PS,PT,PU⟩:=Blk.c14 (hp.qb)
     simp [go_sem,Oper.wp,execOp,Act.eval,h1,hc0,hc1,hc2,hc3,hc4,hc5,hc6,hc7,hc8,hc9,PR,PS,PT,PU]
     exact⟨_,rfl,rfl,hp⟩
   · refine okQ 0 0 fun p γ a wx _ _ hp hk=>?_
     obtain⟨u1,h1,rfl⟩:=hk.g 3 13 rfl rfl
     obtain⟨u2,h2,rfl⟩:=hk.g 4 14 rfl rfl
     simp [go_sem,Oper.wp,execOp,Act.eval,h1,h2,hrun]
     exact⟨_,rfl,rfl,hp⟩
   · exact ok1 0 0 5 15 rfl rfl (fun _ _ h=>h) fun _=>rfl
 intro γ a wy hd
 have H1:=hid hd.ph
 obtain⟨fv,rfl,hfv⟩:=hd.frame [10,11,12,13,14,15,9] rfl
 have h9:fv 9 = .bool (!t):=hfv 6 _ 9 rfl rfl
 clear hd hfv H0 HWh hrun Kk
 simp only [foldl_cons,foldl_nil,setIfInBounds_toArray,set_cons_succ,set_cons_zero,h9]
 clear h9
 cases t
 · have hE:kB q=4:=HRe.out.1 (fun h=>by have:=Ht.out.2 h; cases this)
   obtain rfl:(4:Int)=E0:=hE.symm.trans HE0.out
   have bJ:=hid (show lu 4 w (.returned (.int .i64 4)) wy from ⟨rfl,H1.out.below⟩)
   clear hE HRe Ht HE0
   go_wp2
   go_ret
   exact bJ.out
 · have hE:kB q=K:=HRe.out.2 (Ht.out.1 rfl)
   obtain rfl:K=E0:=hE.symm.trans HE0.out
   have HK:=hid (HKh.out v wy H1.out.pb H1.out.below)
   clear hE HRe HE0
   have hm:=HMh.out v wy H1.out.pb
   clear HMh HKh HN
   go_wp2_with fail
   refine Calls.mono HK.out ?_
   rintro e w5 ⟨rfl,hb5⟩
   have HB:=hid (H1.out.below.trans (hb5.mono H1.out.below.size))
   have bJ:=hid (show lu K w (.returned (.int .i64 K)) w5 from ⟨rfl,HB.out⟩)
   clear hb5 HK H1 HB hm
   go_wp2
   go_ret
   exact bJ.out
def PtJ (T:TypeId) (cs:Array Value) (v:Value) (w:World):Prop:=∃ P,v = .pointer (some ⟨P,0,none⟩)∧Blk w P T cs
theorem PtJ.kept {T:TypeId} {cs:Array Value} (v:Value) (w w':World) (h:PtJ T cs v w) (hb:Below w.heap.size w w'):PtJ T cs v w':=by
 obtain⟨P,rfl,h⟩:=h
 exact⟨P,rfl,h.below hb h.lt⟩
theorem Qq {q h:cJ} {K:Int} (hk:ranged q.kind 1 9=true) (how:DC q=h) (hpe:oM q=K):(h≠q→kB q=4)∧(h=q→kB q=K):=by
 subst how hpe
 unfold kB
 rw [if_neg (by simp [hk])]
 exact⟨fun h=>if_pos h,fun h=>if_neg (fun h'=>h' h)⟩
theorem MC (q:cJ) (w:World) (hq:q.kind=1) (hok:ROk q) (hT:Tabs w):Calls Tryz.prog 115 #[gY q] w (lu (kB q) w):=by
 refine GU q ⟨q.kind,q.job,kK,iU,⟨#[]⟩,0⟩ w 260 318 (oM q) (PtJ 262 #[.string q.job.name,.int .i64 q.job.prio,.int .i64 q.job.need,.int .i64 q.job.tries,.string q.job.tag]) PtJ.kept ?_ (Qq (by rw [hq]; rfl) (by unfold DC; simp [hq]) rfl) (fun w=>(FA q w hq).mono fun e w' h=>?_) ?_ ?_ ?_ ?_
 · exact fun _ _=>rfl
 · obtain⟨P,rfl,-,h,hb⟩:=h
   exact⟨_,rfl,⟨P,rfl,h⟩,hb⟩
 · rintro v wx ⟨P,rfl,h⟩
   exact Bq q P wx h
 · rintro v wx ⟨P,rfl,h⟩ w'
   kernel_rfl
 · exact fun _ _=>by kernel_rfl
 · rintro v wy ⟨P,rfl,h⟩ hb
   have hpe:oM q=eZ q.job:=by unfold oM; simp [hq]
   rw [hpe]
   exact GV q.job P wy h hok.j1 hok.j2 (hT.below hb)
def Qo (q:cJ):Prop:=∀ w,Tabs w→Calls Tryz.prog 115 #[gY q] w (lu (kB q) w)
theorem FK {q:cJ} (hk:q.kind=1) (hok:ROk q):Qo q:=fun w hT=>MC q w hk hok hT
theorem AD (w:World) {base B1 n m c:Nat} {v:Value} {A:Option Addr} {fr fs:List bL} (ty:TypeId) (hv:w.ownsRow base 43 3 v n (au qw fr)) (hs:w.ownsRow B1 43 3 (.slice A m c) m (au qw fs)) (hbase:base≤w.heap.size) (hn:n+m≤1000) :
 ∃ v' w',(Builtin.append_ #[36,36] ty #[v,.slice A m c]).run Tryz.prog w = .ok v' w'∧w'.ownsRow base 43 3 v' (n+m) (au qw (fr ++ fs))∧w.grownBy w' v.ownBlock:=by
 obtain⟨i0,hi,hz0,hz1,hz2⟩:=info_parts B6
 have hlen:(au qw fs).length=m*3:=hs.1
 rcases hs.2 with ⟨hnil,h0⟩ | ⟨g,cap,cur,hval,hb,hg,hr⟩
 · injection hnil with h1 h2 h3
   subst h1 h2 h3
   have hfs:au qw fs=[]:=List.length_eq_zero_iff.1 (by omega)
   refine⟨v,w,?_,?_,World.grownBy.refl w _⟩
   · have hle:∃ A' c',v = .slice A' n c'∧n≤c':=by
      rcases hv.2 with ⟨hv',hn'⟩ | ⟨g,cap,cur,hv',_,_,hr⟩
      · exact⟨none,0,by rw [hv',hn'],by omega⟩
      · exact⟨_,cap,hv',hr.1⟩
     obtain⟨A',c',rfl,hle⟩:=hle
     exact run_append_nothing w _ _ ty _ i0 Tryz.underlying36 hi A' n c' hle _ ⟨.inl ⟨_,Tryz.underlying36⟩,fun _=>rfl,rfl,rfl,by simp,fun _ h=>by cases h⟩
   · rw [Nat.add_zero,dK,hfs,List.append_nil]; exact hv
 · injection hval with h1 h2 h3
   subst h1 h3
   obtain⟨v',w',h4,h5,h6,_⟩:=run_append_own (P:=Tryz.prog) w base 36 ty 43 i0 MD 3 32 Tryz.underlying36 hi hz0 hz1 hz2 rfl (by decide) v n (au qw fr) hv ⟨g,0,none⟩ m c (au qw fs) hlen (hs.cells rfl) (fun u hu=>by
    obtain⟨f,_,hf⟩:=List.mem_flatMap.1 hu
    exact E7 f u hf) (by unfold maxLen; omega) (by omega) hbase
   exact⟨v',w',h4,by rw [dK]; exact h5,h6⟩
theorem kR (s:ByteArray) (w:World) (hs:6*s.size+8≤140737488355328) :
 Calls Tryz.prog 94 #[.string s] w fun e w'=>e = .returned (.string ⟨(aV s.data.toList).toArray⟩)∧Below w.heap.size w w':=by
 have Hs:=hid hs
 clear hs
 go_enter Tryz.func94,Tryz.ntmps94
 go_wp2_with fail
 refine Calls.mono (wo w.heap.size none 0 0 [] s w (World.ownsRow_nil _ _ _ _) (by have:=Hs.out; omega) (Nat.le_refl _)) ?_
 rintro e w' ⟨A',m',c',rfl,ho,hg⟩
 have hb:Below w.heap.size w w':=hg.below (Nat.le_refl _) (fun g h=>by simp [Value.ownBlock] at h)
 have hrun:=cN Tryz.underlying118 Tryz.underlying5 Tryz.underlying9 ho
 clear ho hg
 go_wp2
 go_ret
 exact⟨rfl,hb⟩
end Go.Proofs.YtcpgnjmaampglaaGreatDoor
