/- Of the proof of a statement: SvOwn, DoC, Grant, DoD. -/
import Derived.Test.YtbllgmociapjeaaGreatDoorVClone
import Derived.Test.YtbllgmociapjeaaGreatDoorVDoB
set_option linter.unusedVariables false
set_option linter.unusedSimpArgs false
set_option maxRecDepth 100000
set_option maxHeartbeats 8000000
/- The walk of serve.own: a state of one's own. -/
namespace Go.Proofs.YtbllgmociapjeaaGreatDoor
open Go.Lib (hid)
open List (foldl_cons foldl_nil setIfInBounds_toArray set_cons_succ set_cons_zero)
open Go.RowKit
def FZ (B:Nat) (x γ:StA):Nat→Value→Prop
 | 0,u=>u = .pointer (some ⟨B,1,none⟩)
 | 1,u=>u = .slice x.aj x.nj x.cj
 | 2,u=>u = .slice γ.aj x.nj γ.cj
 | 3,u=>u = .pointer (some ⟨B,2,none⟩)
 | 4,u=>u = .slice x.an x.nn x.cn
 | 5,u=>u = .slice γ.an x.nn γ.cn
 | 6,u=>u = .pointer (some ⟨B,3,none⟩)
 | 7,u=>u = .slice x.al x.nl x.cl
 | 8,u=>u = .slice γ.al x.nl γ.cl
 | 9,u=>u = .pointer (some ⟨B,1,none⟩)
 | 11,u=>u = .pointer (some ⟨B,2,none⟩)
 | 13,u=>u = .pointer (some ⟨B,3,none⟩)
 | _,_=>True
structure BS (w0:World) (st:ah) (x γ:StA) (c k:Nat) (w:World):Prop where
 below:Below w0.heap.size w0 w
 blk:Blk w w0.heap.size 26 #[.int .i64 st.rev,if 0<k then .slice γ.aj x.nj γ.cj else .slice x.aj x.nj x.cj,if 1<k then .slice γ.an x.nn γ.cn else .slice x.an x.nn x.cn,if 2<k then .slice γ.al x.nl γ.cl else .slice x.al x.nl x.cl]
 res:Blk w (w0.heap.size+1) 26 rW
 j:0<c→w.ownsRow (w0.heap.size+2) 32 5 (.slice γ.aj x.nj γ.cj) x.nj (au aI st.jobs)
 n:1<c→w.ownsRow (w0.heap.size+2) 34 3 (.slice γ.an x.nn γ.cn) x.nn (au aB st.nodes)
 l:2<c→w.ownsRow (w0.heap.size+2) 36 3 (.slice γ.al x.nl γ.cl) x.nl (au av st.leases)
def KI (w0:World) (st:ah) (x:StA) (p:Nat) (γ:StA) (w:World):Prop:=BS w0 st x γ p (p - 3) w
theorem vF {B:Nat} {x γ γ':StA} (d:Nat) (h2:d≠2→γ'.aj=γ.aj∧γ'.cj=γ.cj) (h5:d≠5→γ'.an=γ.an∧γ'.cn=γ.cn) (h8:d≠8→γ'.al=γ.al∧γ'.cl=γ.cl):∀ j v,j≠d→FZ B x γ j v→FZ B x γ' j v:=by
 intro j v hj h
 match j,hj,h with
 | 0,_,h=>exact h
 | 1,_,h=>exact h
 | 2,hj,h=>obtain⟨e1,e2⟩:=h2 (fun e=>hj e.symm); exact (show v=_ by rw [e1,e2]; exact h)
 | 3,_,h=>exact h
 | 4,_,h=>exact h
 | 5,hj,h=>obtain⟨e1,e2⟩:=h5 (fun e=>hj e.symm); exact (show v=_ by rw [e1,e2]; exact h)
 | 6,_,h=>exact h
 | 7,_,h=>exact h
 | 8,hj,h=>obtain⟨e1,e2⟩:=h8 (fun e=>hj e.symm); exact (show v=_ by rw [e1,e2]; exact h)
 | 9,_,h=>exact h
 | 10,_,_=>trivial
 | 11,_,h=>exact h
 | 12,_,_=>trivial
 | 13,_,h=>exact h
 | _+14,_,_=>trivial
def Am (st:ah) (x:StA) (w:World) (e:Ending) (w':World):Prop:=
 ∃ x':StA,e = .returned (.agg (stC st x'))∧x'.nj=x.nj∧x'.nn=x.nn∧x'.nl=x.nl∧StOwn w' (w.heap.size+2) st x'∧Below w.heap.size w w'
theorem lF (st:ah) (x:StA) (w:World) (hS:StAt w w.heap.size st x) (h1:x.nj≤1000) (h2:x.nn≤1000) (h3:x.nl≤1000) :
 Calls Tryz.prog 59 #[.agg (stC st x)] w (Am st x w):=by
 have hb1:Below w.heap.size w (w.alloc (.cells (stC st x) 26)):=(Below.refl _ _).alloc (Nat.le_refl _) _
 have hb2:=hb1.alloc hb1.size (.cells rW 26)
 have H0:BS w st x x 0 0 (((w.alloc (.cells (stC st x) 26)).alloc (.cells rW 26))).drew:=
  { below:=hb2.drew
    blk:=Blk.alloc (show Blk _ _ _ _ from heap_alloc_new w _) _
    res:=by
     have h:=heap_alloc_new (w.alloc (.cells (stC st x) 26)) (.cells rW 26)
     rw [show (w.alloc (.cells (stC st x) 26)).heap.size=w.heap.size+1 by simp] at h
     exact h
    j:=fun h=>absurd h (by omega)
    n:=fun h=>absurd h (by omega)
    l:=fun h=>absurd h (by omega) }
 have HS:=hid hS
 clear hb1 hb2 hS
 go_enter Tryz.func59,Tryz.ntmps59
 unfold stC at *
 go_wp2_with fail
 refine gX (n:=16) (by kernel_rfl) (FZ w.heap.size x) [2,5,8,10,12,14] (KI w st x) x (by decide +kernel) (by decide +kernel) rfl H0 ?_ ?_
 · refine⟨?_,?_,?_,?_,?_,?_,?_,?_,?_,?_,?_,?_,?_,?_,?_,trivial⟩
   · refine⟨rfl,.inr ⟨by decide,0,6,by decide +kernel,by decide +kernel,fun p γ a wx _ hph hp hk=>?_⟩⟩
     have h1:=hk.k 1 rfl
     simp [go_sem,Oper.wp,execOp,Act.eval,h1]
     exact⟨_,rfl,rfl,hp⟩
   · refine⟨rfl,.inr ⟨by decide,0,0,by decide +kernel,by decide +kernel,fun p γ a wx _ hph hp hk=>?_⟩⟩
     obtain⟨u1,hu1,ru1⟩:=hk.g 0 3 rfl rfl
     replace ru1:u1=_:=ru1
     subst ru1
     have hc:wx.cell? ⟨w.heap.size,1,none⟩=some (.slice x.aj x.nj x.cj):=by
      have h:=hp.blk.cell 1
      simp only [List.getElem?_toArray,List.getElem?_cons_succ,List.getElem?_cons_zero] at h
      rw [h,if_neg (by omega)]
     simp [go_sem,Oper.wp,execOp,Act.eval,hu1,hc]
     exact⟨_,rfl,rfl,hp⟩
   · refine⟨rfl,.inl ⟨0,rfl,fun γ a wx hp hk=>?_⟩⟩
     obtain⟨u1,hu1,ru1⟩:=hk.g 1 4 rfl rfl
     replace ru1:u1=_:=ru1
     subst ru1
     simp [go_sem,Oper.wp,execOp,Act.eval,hu1]
     refine (DE st.jobs x.aj x.nj x.cj wx (HS.out.j.below hp.below |>.more hp.below.size) HS.out.lj (by omega)).mono ?_
     rintro e w' ⟨A',c',rfl,ho,hb⟩
     rw [HS.out.lj] at ho ⊢
     exact⟨_,rfl,{ γ with aj:=A',cj:=c' },vF 2 (fun h=>absurd rfl h) (fun _=>⟨rfl,rfl⟩) (fun _=>⟨rfl,rfl⟩),rfl,{ below:=hp.below.trans (hb.mono hp.below.size),blk:=Blk.eq (hp.blk.below hb hp.blk.lt) (by simp),res:=hp.res.below hb hp.res.lt,j:=fun _=>bK ho (by have:=hp.res.lt; omega),n:=fun h=>absurd h (by omega),l:=fun h=>absurd h (by omega) }⟩
   · refine⟨rfl,.inr ⟨by decide,0,6,by decide +kernel,by decide +kernel,fun p γ a wx _ hph hp hk=>?_⟩⟩
     have h1:=hk.k 1 rfl
     simp [go_sem,Oper.wp,execOp,Act.eval,h1]
     exact⟨_,rfl,rfl,hp⟩
   · refine⟨rfl,.inr ⟨by decide,0,1,by decide +kernel,by decide +kernel,fun p γ a wx _ hph hp hk=>?_⟩⟩
     obtain⟨u1,hu1,ru1⟩:=hk.g 3 6 rfl rfl
     replace ru1:u1=_:=ru1
     subst ru1
     have hc:wx.cell? ⟨w.heap.size,2,none⟩=some (.slice x.an x.nn x.cn):=by
      have h:=hp.blk.cell 2
      simp only [List.getElem?_toArray,List.getElem?_cons_succ,List.getElem?_cons_zero] at h
      rw [h,if_neg (by omega)]
     simp [go_sem,Oper.wp,execOp,Act.eval,hu1,hc]
     exact⟨_,rfl,rfl,hp⟩
   · refine⟨rfl,.inl ⟨1,rfl,fun γ a wx hp hk=>?_⟩⟩
     obtain⟨u1,hu1,ru1⟩:=hk.g 4 7 rfl rfl
     replace ru1:u1=_:=ru1
     subst ru1
     simp [go_sem,Oper.wp,execOp,Act.eval,hu1]
     refine (Bv st.nodes x.an x.nn x.cn wx (HS.out.n.below hp.below |>.more hp.below.size) HS.out.ln (by omega)).mono ?_
     rintro e w' ⟨A',c',rfl,ho,hb⟩
     rw [HS.out.ln] at ho ⊢
     exact⟨_,rfl,{ γ with an:=A',cn:=c' },vF 5 (fun _=>⟨rfl,rfl⟩) (fun h=>absurd rfl h) (fun _=>⟨rfl,rfl⟩),rfl,{ below:=hp.below.trans (hb.mono hp.below.size),blk:=Blk.eq (hp.blk.below hb hp.blk.lt) (by simp),res:=hp.res.below hb hp.res.lt,j:=fun _=>ay (hp.j (by omega)) hb,n:=fun _=>bK ho (by have:=hp.res.lt; omega),l:=fun h=>absurd h (by omega) }⟩
   · refine⟨rfl,.inr ⟨by decide,0,6,by decide +kernel,by decide +kernel,fun p γ a wx _ hph hp hk=>?_⟩⟩
     have h1:=hk.k 1 rfl
     simp [go_sem,Oper.wp,execOp,Act.eval,h1]
     exact⟨_,rfl,rfl,hp⟩
   · refine⟨rfl,.inr ⟨by decide,0,2,by decide +kernel,by decide +kernel,fun p γ a wx _ hph hp hk=>?_⟩⟩
     obtain⟨u1,hu1,ru1⟩:=hk.g 6 9 rfl rfl
     replace ru1:u1=_:=ru1
     subst ru1
     have hc:wx.cell? ⟨w.heap.size,3,none⟩=some (.slice x.al x.nl x.cl):=by
      have h:=hp.blk.cell 3
      simp only [List.getElem?_toArray,List.getElem?_cons_succ,List.getElem?_cons_zero] at h
      rw [h,if_neg (by omega)]
     simp [go_sem,Oper.wp,execOp,Act.eval,hu1,hc]
     exact⟨_,rfl,rfl,hp⟩
   · refine⟨rfl,.inl ⟨2,rfl,fun γ a wx hp hk=>?_⟩⟩
     obtain⟨u1,hu1,ru1⟩:=hk.g 7 10 rfl rfl
     replace ru1:u1=_:=ru1
     subst ru1
     simp [go_sem,Oper.wp,execOp,Act.eval,hu1]
     refine (zT st.leases x.al x.nl x.cl wx (HS.out.l.below hp.below |>.more hp.below.size) HS.out.ll (by omega)).mono ?_
     rintro e w' ⟨A',c',rfl,ho,hb⟩
     rw [HS.out.ll] at ho ⊢
     exact⟨_,rfl,{ γ with al:=A',cl:=c' },vF 8 (fun _=>⟨rfl,rfl⟩) (fun _=>⟨rfl,rfl⟩) (fun h=>absurd rfl h),rfl,{ below:=hp.below.trans (hb.mono hp.below.size),blk:=Blk.eq (hp.blk.below hb hp.blk.lt) (by simp),res:=hp.res.below hb hp.res.lt,j:=fun _=>ay (hp.j (by omega)) hb,n:=fun _=>ay (hp.n (by omega)) hb,l:=fun _=>bK ho (by have:=hp.res.lt; omega) }⟩
   · refine⟨rfl,.inr ⟨by decide,0,6,by decide +kernel,by decide +kernel,fun p γ a wx _ hph hp hk=>?_⟩⟩
     have h1:=hk.k 1 rfl
     simp [go_sem,Oper.wp,execOp,Act.eval,h1]
     exact⟨_,rfl,rfl,hp⟩
   · refine⟨rfl,.inl ⟨3,rfl,fun γ a wx hp hk=>?_⟩⟩
     obtain⟨u1,hu1,ru1⟩:=hk.g 9 12 rfl rfl
     replace ru1:u1=_:=ru1
     subst ru1
     obtain⟨u2,hu2,ru2⟩:=hk.g 2 5 rfl rfl
     replace ru2:u2=_:=ru2
     subst ru2
     have hc:wx.cell? ⟨w.heap.size,1,none⟩=some (.slice x.aj x.nj x.cj):=by
      have h:=hp.blk.cell 1
      simp only [List.getElem?_toArray,List.getElem?_cons_succ,List.getElem?_cons_zero] at h
      rw [h,if_neg (by omega)]
     have hz:wx.frozen? ⟨w.heap.size,1,none⟩=false:=hp.blk.thaw 1
     simp [go_sem,Oper.wp,execOp,Act.eval,hu1,hu2,hc,hz]
     exact⟨.int .i64 0,γ,fun _ _ _ h=>h,trivial,{ below:=dR hp.below (bE wx w.heap.size 1 _) (Nat.le_refl _),blk:=Blk.eq (hp.blk.set 1 _) rfl,res:=aD (bE wx w.heap.size 1 _) hp.res (by omega),j:=fun _=>bV (hp.j (by omega)) (bE wx w.heap.size 1 _) (by omega),n:=fun _=>bV (hp.n (by omega)) (bE wx w.heap.size 1 _) (by omega),l:=fun _=>bV (hp.l (by omega)) (bE wx w.heap.size 1 _) (by omega) }⟩
   · refine⟨rfl,.inr ⟨by decide,0,6,by decide +kernel,by decide +kernel,fun p γ a wx _ hph hp hk=>?_⟩⟩
     have h1:=hk.k 1 rfl
     simp [go_sem,Oper.wp,execOp,Act.eval,h1]
     exact⟨_,rfl,rfl,hp⟩
   · refine⟨rfl,.inl ⟨4,rfl,fun γ a wx hp hk=>?_⟩⟩
     obtain⟨u1,hu1,ru1⟩:=hk.g 11 13 rfl rfl
     replace ru1:u1=_:=ru1
     subst ru1
     obtain⟨u2,hu2,ru2⟩:=hk.g 5 8 rfl rfl
     replace ru2:u2=_:=ru2
     subst ru2
     have hc:wx.cell? ⟨w.heap.size,2,none⟩=some (.slice x.an x.nn x.cn):=by
      have h:=hp.blk.cell 2
      simp only [List.getElem?_toArray,List.getElem?_cons_succ,List.getElem?_cons_zero] at h
      rw [h,if_neg (by omega)]
     have hz:wx.frozen? ⟨w.heap.size,2,none⟩=false:=hp.blk.thaw 2
     simp [go_sem,Oper.wp,execOp,Act.eval,hu1,hu2,hc,hz]
     exact⟨.int .i64 0,γ,fun _ _ _ h=>h,trivial,{ below:=dR hp.below (bE wx w.heap.size 2 _) (Nat.le_refl _),blk:=Blk.eq (hp.blk.set 2 _) rfl,res:=aD (bE wx w.heap.size 2 _) hp.res (by omega),j:=fun _=>bV (hp.j (by omega)) (bE wx w.heap.size 2 _) (by omega),n:=fun _=>bV (hp.n (by omega)) (bE wx w.heap.size 2 _) (by omega),l:=fun _=>bV (hp.l (by omega)) (bE wx w.heap.size 2 _) (by omega) }⟩
   · refine⟨rfl,.inr ⟨by decide,0,6,by decide +kernel,by decide +kernel,fun p γ a wx _ hph hp hk=>?_⟩⟩
     have h1:=hk.k 1 rfl
     simp [go_sem,Oper.wp,execOp,Act.eval,h1]
     exact⟨_,rfl,rfl,hp⟩
   · refine⟨rfl,.inl ⟨5,rfl,fun γ a wx hp hk=>?_⟩⟩
     obtain⟨u1,hu1,ru1⟩:=hk.g 13 14 rfl rfl
     replace ru1:u1=_:=ru1
     subst ru1
     obtain⟨u2,hu2,ru2⟩:=hk.g 8 11 rfl rfl
     replace ru2:u2=_:=ru2
     subst ru2
     have hc:wx.cell? ⟨w.heap.size,3,none⟩=some (.slice x.al x.nl x.cl):=by
      have h:=hp.blk.cell 3
      simp only [List.getElem?_toArray,List.getElem?_cons_succ,List.getElem?_cons_zero] at h
      rw [h,if_neg (by omega)]
     have hz:wx.frozen? ⟨w.heap.size,3,none⟩=false:=hp.blk.thaw 3
     simp [go_sem,Oper.wp,execOp,Act.eval,hu1,hu2,hc,hz]
     exact⟨.int .i64 0,γ,fun _ _ _ h=>h,trivial,{ below:=dR hp.below (bE wx w.heap.size 3 _) (Nat.le_refl _),blk:=Blk.eq (hp.blk.set 3 _) rfl,res:=aD (bE wx w.heap.size 3 _) hp.res (by omega),j:=fun _=>bV (hp.j (by omega)) (bE wx w.heap.size 3 _) (by omega),n:=fun _=>bV (hp.n (by omega)) (bE wx w.heap.size 3 _) (by omega),l:=fun _=>bV (hp.l (by omega)) (bE wx w.heap.size 3 _) (by omega) }⟩
 · intro γ a wx hd
   have hp:BS w st x γ 6 3 wx:=hd.ph
   obtain⟨fv,rfl,-⟩:=hd.frame [3,4,5,6,7,8,9,10,11,12,13,14] rfl
   have hB:Blk wx w.heap.size 26 #[.int .i64 st.rev,.slice γ.aj x.nj γ.cj,.slice γ.an x.nn γ.cn,.slice γ.al x.nl γ.cl]:=hp.blk
   have hR:=hp.res
   have hbl:=hB.lt
   have hrl:=hR.lt
   obtain⟨b0,b1,b2,b3⟩:=Blk.c4 (hB)
   obtain⟨u0,u1,u2,u3⟩:=Blk.z4 (hR)
   obtain⟨s0,s1,s2,s3⟩:=Blk.c4 (hR)
   obtain⟨hR4,hG4⟩:=Blk.S4 (hR) (.int .i64 st.rev) (.slice γ.aj x.nj γ.cj) (.slice γ.an x.nn γ.cn) (.slice γ.al x.nl γ.cl)
   obtain⟨q0,q1,q2,q3⟩:=Blk.c4 hR4
   have aP:=hid (show Am st x w (.returned (.agg (stC st ⟨γ.aj,x.nj,γ.cj,γ.an,x.nn,γ.cn,γ.al,x.nl,γ.cl⟩))) _ from ⟨⟨γ.aj,x.nj,γ.cj,γ.an,x.nn,γ.cn,γ.al,x.nl,γ.cl⟩,rfl,rfl,rfl,rfl,⟨bV (hp.j (by omega)) hG4 (by omega),bV (hp.n (by omega)) hG4 (by omega),bV (hp.l (by omega)) hG4 (by omega),HS.out.lj,HS.out.ln,HS.out.ll⟩,dR hp.below hG4 (by omega)⟩)
   clear hd hp hB hR hR4 hG4 H0
   simp [Exit.then]
   go_wp2
   refine bodyPost_ret (v:=.agg #[.int .i64 st.rev,.slice γ.aj x.nj γ.cj,.slice γ.an x.nn γ.cn,.slice γ.al x.nl γ.cl]) (by simp [results,Tryz.results59,go_sem, *]) rfl ?_
   exact aP.out
end Go.Proofs.YtbllgmociapjeaaGreatDoor
/- (*work).do at the tick, and at the kinds that change nothing. -/
namespace Go.Proofs.YtbllgmociapjeaaGreatDoor
open Go.Lib (hid)
open List (foldl_cons foldl_nil setIfInBounds_toArray set_cons_succ set_cons_zero)
open Go.RowKit
theorem D4 (BP WK N:Nat) (t:Int) (w:World) (g:Option Nat) (hb:Blk w BP 195 #[.pointer (some ⟨WK,0,none⟩)]) (hk:Blk w WK 198 #[.pointer (some ⟨N,0,none⟩),.int .i64 t]) (hg:g≠some BP) (hg2:g≠some WK):uf (fun l=>decide (l.till≤t)) 164 #[.pointer (some ⟨BP,0,none⟩)] w g:=by
 intro W hW x
 have hb1:Blk W BP 195 #[.pointer (some ⟨WK,0,none⟩)]:=(hW.block BP hb.lt (fun e=>hg e.symm)).trans hb
 have hk1:Blk W WK 198 #[.pointer (some ⟨N,0,none⟩),.int .i64 t]:=(hW.block WK hk.lt (fun e=>hg2 e.symm)).trans hk
 have h1:W.cell? ⟨BP,0,none⟩=some (.pointer (some ⟨WK,0,none⟩)):=hb1.cell 0
 have h2:W.cell? ⟨WK,1,none⟩=some (.int .i64 t):=hk1.cell 1
 have hl:=hb1.lt
 have hl2:=hk1.lt
 obtain⟨job,node,till⟩:=x
 show Calls Tryz.prog 164 #[.agg #[.string job,.string node,.int .i64 till],.pointer (some ⟨BP,0,none⟩)] W _
 clear hb hk hW hb1 hk1
 go_enter Tryz.func164,Tryz.ntmps164
 go_wp2
 all_goals first | go_quiet (fail) | skip
 go_wp2
 go_ret
 exact⟨rfl,((Below.refl _ _).alloc (Nat.le_refl _) _).trans ⟨rfl,rfl,rfl,Nat.le_refl _,fun _ _=>rfl⟩⟩
theorem do_7 (base:Nat) (st:ah) (x:StA) (N WK:Nat) (now:Int) (q:aF) (w:World) (h:xg w base st x N WK now) (hq:q.kind=7) (hn0:0≤now) (hn1:now≤1099511627776) (hq0:0≤q.n) (hq1:q.n≤1099511627776) :
 Calls Tryz.prog 96 #[.pointer (some ⟨WK,0,none⟩),bH q] w (fR base N WK (if 1099511627776 - now<q.n then (1,st,now) else (0,sJ st (now+q.n),now+q.n)) w):=by
 obtain⟨W,hW⟩:∃ W,(w.alloc (.cells #[.pointer (some ⟨WK,0,none⟩)] 195)).alloc (.cells (aN q) 38)=W:=⟨_,rfl⟩
 have hbW:Below w.heap.size w W:=by rw [← hW]; exact ((Below.refl _ _).alloc (Nat.le_refl _) _).alloc (by simp) _
 have hbp:Blk W w.heap.size 195 #[.pointer (some ⟨WK,0,none⟩)]:=by rw [← hW]; exact Blk.alloc (show Blk _ _ _ _ from heap_alloc_new w _) _
 have hqb:Blk W (w.heap.size+1) 38 (aN q):=by
  rw [← hW]
  have:=heap_alloc_new (w.alloc (.cells #[.pointer (some ⟨WK,0,none⟩)] 195)) (.cells (aN q) 38)
  rwa [show (w.alloc (.cells #[.pointer (some ⟨WK,0,none⟩)] 195)).heap.size=w.heap.size+1 by simp] at this
 have hw:=h.w.below hbW
 have hk0:W.cell? ⟨w.heap.size+1,0,none⟩=some (.int .i64 7):=by rw [hqb.cell 0,← hq]; rfl
 have q13:W.cell? ⟨w.heap.size+1,13,none⟩=some (.int .i64 q.n):=hqb.cell 13
 have bp0:W.cell? ⟨w.heap.size,0,none⟩=some (.pointer (some ⟨WK,0,none⟩)):=hbp.cell 0
 have wk1:W.cell? ⟨WK,1,none⟩=some (.int .i64 now):=hw.wk.cell 1
 have wkz:W.frozen? ⟨WK,1,none⟩=false:=hw.wk.thaw 1
 have H:=hid h
 have Hw:=hid hw
 have HbW:=hid (hbW.mono h.w.bs)
 have Hbp:=hid hbp
 clear hbW hbp hqb hw h
 unfold bH
 unfold aN at hW ⊢
 clear hq
 by_cases hgt:1099511627776 - now<q.n
 · rw [if_pos hgt]
   have d1:decide (1099511627776 - now<q.n)=true:=decide_eq_true hgt
   go_enter Tryz.func96,Tryz.ntmps96
   go_wp2_with fail
   try rw [hW]
   clear hW
   go_region
   go_wp2
   go_ret
   exact⟨rfl,HbW.out.drew,fun h=>absurd h (by decide:(1:Int)≠0)⟩
 · rw [if_neg hgt]
   have d1:decide (1099511627776 - now<q.n)=false:=decide_eq_false hgt
   go_enter Tryz.func96,Tryz.ntmps96
   go_wp2_with fail
   try rw [hW]
   clear hW
   go_region
   go_wp2
   go_region
   obtain⟨W2,hW2⟩:∃ W2,(W.setCell ⟨WK,1,none⟩ (.int .i64 (now+q.n))).drew.drew=W2:=⟨_,rfl⟩
   have hw2:mN W2 base st x N WK (now+q.n):=by
    rw [← hW2]
    have ho:=Hw.out.own
    exact⟨aY Hw.out.nb Hw.out.wk (by decide),Blk.eq (Hw.out.wk.set 1 _) rfl,⟨(aR ho.j Hw.out.wk (by decide)).drew.drew,(aR ho.n Hw.out.wk (by decide)).drew.drew,(aR ho.l Hw.out.wk (by decide)).drew.drew,ho.lj,ho.ln,ho.ll⟩,Hw.out.bN,Hw.out.bW,by show base≤(W.setCell _ _).heap.size; simpa using Hw.out.bs⟩
   have hb2:Blk W2 w.heap.size 195 #[.pointer (some ⟨WK,0,none⟩)]:=by
    rw [← hW2]
    exact aY Hbp.out Hw.out.wk (by decide)
   have HbX:=hid (show Below base w W2 from by rw [← hW2]; exact (HbW.out.trans (aM (Below.refl _ _) Hw.out.bW)).drew.drew)
   have b0:W2.cell? ⟨w.heap.size,0,none⟩=some (.pointer (some ⟨WK,0,none⟩)):=hb2.cell 0
   have hol:=hw2.own.l
   have HWO:=hid (nX (fun l=>decide (l.till≤now+q.n)) 164 #[.pointer (some ⟨w.heap.size,0,none⟩)] base st x N WK (now+q.n) W2 hw2 (by have:=H.out.nl; omega) (enters_of Tryz.func164 (by kernel_rfl) rfl) (D4 w.heap.size WK N (now+q.n) W2 _ hb2 hw2.wk (jw hb2 hol (by decide)) (jw hw2.wk hol (by decide))))
   rw [hW2]
   clear hW2 hw2 hb2 hol Hw Hbp q13 bp0 wk1 wkz hk0
   go_wp2_with fail
   refine Calls.mono HWO.out ?_
   rintro e w5 ⟨rfl,⟨x',hwk⟩,hb5⟩
   have aP:=hid (show fR base N WK (0,sJ st (now+q.n),now+q.n) w (.returned (.int .i64 0)) w5 from ⟨rfl,HbX.out.trans hb5,fun _=>⟨x',hwk⟩⟩)
   clear hwk hb5 b0 HWO
   go_wp2
   go_ret
   exact aP.out
theorem do_8 (base:Nat) (st:ah) (x:StA) (N WK:Nat) (now:Int) (q:aF) (w:World) (h:xg w base st x N WK now) (hq:8≤q.kind) :
 Calls Tryz.prog 96 #[.pointer (some ⟨WK,0,none⟩),bH q] w (fR base N WK (0,st,now) w):=by
 obtain⟨W,hW⟩:∃ W,(w.alloc (.cells #[.pointer (some ⟨WK,0,none⟩)] 195)).alloc (.cells (aN q) 38)=W:=⟨_,rfl⟩
 have hbW:Below w.heap.size w W:=by rw [← hW]; exact ((Below.refl _ _).alloc (Nat.le_refl _) _).alloc (by simp) _
 have hqb:Blk W (w.heap.size+1) 38 (aN q):=by
  rw [← hW]
  have:=heap_alloc_new (w.alloc (.cells #[.pointer (some ⟨WK,0,none⟩)] 195)) (.cells (aN q) 38)
  rwa [show (w.alloc (.cells #[.pointer (some ⟨WK,0,none⟩)] 195)).heap.size=w.heap.size+1 by simp] at this
 have hw:=h.w.below hbW
 have hk0:W.cell? ⟨w.heap.size+1,0,none⟩=some (.int .i64 q.kind):=hqb.cell 0
 have aP:=hid (show fR base N WK (0,st,now) w (.returned (.int .i64 0)) W from ⟨rfl,hbW.mono h.w.bs,fun _=>⟨x,hw⟩⟩)
 have d1:(q.kind == 1)=false:=beq_false_of_ne (by omega)
 have d2:(q.kind == 2)=false:=beq_false_of_ne (by omega)
 have d3:(q.kind == 3)=false:=beq_false_of_ne (by omega)
 have d4:(q.kind == 4)=false:=beq_false_of_ne (by omega)
 have d5:(q.kind == 5)=false:=beq_false_of_ne (by omega)
 have d6:(q.kind == 6)=false:=beq_false_of_ne (by omega)
 have d7:(q.kind == 7)=false:=beq_false_of_ne (by omega)
 clear hbW hqb hw h hq
 unfold bH
 unfold aN at hW ⊢
 go_enter Tryz.func96,Tryz.ntmps96
 go_wp2
 go_ret
 try rw [hW]
 exact aP.out
end Go.Proofs.YtbllgmociapjeaaGreatDoor
/- (*work).grant, and (*work).do at the grant. -/
namespace Go.Proofs.YtbllgmociapjeaaGreatDoor
open Go.Lib (hid)
open List (foldl_cons foldl_nil setIfInBounds_toArray set_cons_succ set_cons_zero)
open Go.RowKit
theorem Ao {st:ah} {now:Int} {l:ak} (hs:bG aC.name st.jobs) (h:isL aC.name st.jobs l.job=false):kI st now l=(6,st,now):=by
 rw [mP hs] at h
 unfold kI dA
 cases hf:st.jobs.find? fun a=>decide (a.name=l.job) with
 | none=>rfl
 | some j=>rw [hf] at h; cases h
theorem Ap {st:ah} {now:Int} {l:ak} {j:aC} (hs:bG aC.name st.jobs) (hn:bG aA.name st.nodes) (hl:bG ak.job st.leases) (hj:st.jobs[dF aC.name st.jobs l.job]? = some j) (hk:j.name=l.job) :
 kI st now l=if isL aA.name st.nodes l.node=false then (6,st,now) else if isL ak.job st.leases l.job=true then (7,st,now) else if l.till≤now then (1,st,now) else if j.tries=100 then (2,st,now) else (aE (ny st j l),ny st j l,now):=by
 have h1:dA st.jobs l.job=some j:=I3 hs hj hk
 have h2:isL aA.name st.nodes l.node=(dh st.nodes l.node).isSome:=mP hn
 have h3:isL ak.job st.leases l.job=(eB st.leases l.job).isSome:=mP hl
 unfold kI
 rw [h1,h2,h3]
theorem Aq {l:List aC} {s:ByteArray} {j:aC} (hs:bG aC.name l) (hi:isL aC.name l s=true) (hj:l[dF aC.name l s]? = some j) (hk:j.name=s):j6 aC.name l (Ar j)=l.set (dF aC.name l s) (Ar j):=by
 have h1:aC.name (Ar j)=s:=hk
 rw [nZ hs,h1,if_pos hi,List.set_eq_take_append_cons_drop,if_pos (List.getElem?_eq_some_iff.1 hj).1]
structure q8 (w:World) (base:Nat) (st:ah) (x:StA) (N WK L:Nat) (now:Int) (l:ak) (wx:World):Prop where
 lb:Blk wx L 36 #[.string l.job,.string l.node,.int .i64 l.till]
 wa:mN wx base st x N WK now
 below:Below w.heap.size w wx
theorem q8.next {w w' wx:World} {base:Nat} {st:ah} {x:StA} {N WK L:Nat} {now:Int} {l:ak} (h:q8 w base st x N WK L now l wx) (hb:Below wx.heap.size wx w'):q8 w base st x N WK L now l w':=
 ⟨h.lb.below hb h.lb.lt,h.wa.below hb,h.below.trans (hb.mono h.below.size)⟩
structure Kk (w W:World) (base:Nat) (st:ah) (x:StA) (N WK L:Nat) (now:Int) (l:ak) (js:List aC) (ls:List ak) (p:Nat) (γ:nk) (wx:World):Prop where
 lb:Blk wx L 36 #[.string l.job,.string l.node,.int .i64 l.till]
 wk:Blk wx WK 198 #[.pointer (some ⟨N,0,none⟩),.int .i64 now]
 nb:Blk wx N 26 #[.int .i64 st.rev,.slice x.aj x.nj x.cj,.slice x.an x.nn x.cn,if p<2 then .slice x.al x.nl x.cl else .slice γ.A γ.m γ.c]
 below:Below base w wx
 j:wx.ownsRow base 32 5 (.slice x.aj x.nj x.cj) x.nj (au aI js)
 n:wx.ownsRow base 34 3 (.slice x.an x.nn x.cn) x.nn (au aB st.nodes)
 here:p=0→wx=W.drew
 unset:p=0→γ.s=false
 r:0<p→wx.ownsRow base 36 3 (.slice γ.A γ.m γ.c) γ.m (au av ls)∧γ.m=ls.length
def gr1V (N WK L:Nat) (x:StA) (l:ak) (t:Nat) (i:Bool):Nat→Value→Prop
 | 0,u=>u = .pointer (some ⟨WK,0,none⟩)
 | 1,u=>u = .pointer (some ⟨WK,0,none⟩)
 | 2,u=>u = .pointer (some ⟨WK,0,none⟩)
 | 3,u=>u = .pointer (some ⟨N,0,none⟩)
 | 4,u=>u = .pointer (some ⟨N,0,none⟩)
 | 5,u=>u = .pointer (some ⟨N,1,none⟩)
 | 6,u=>u = .slice x.aj x.nj x.cj
 | 7,u=>u = .pointer (some ⟨L,0,none⟩)
 | 8,u=>u = .string l.job
 | 9,u=>u = .tuple #[.int .i64 (t:Int),.bool i]
 | 10,u=>u = .tuple #[.int .i64 (t:Int),.bool i]
 | 11,u=>u = .int .i64 (t:Int)
 | 12,u=>u = .bool i
 | 13,u=>u = .int .i64 (t:Int)
 | 14,u=>u = .bool i
 | _,_=>False
def gr2V (N WK L:Nat) (x:StA) (l:ak) (t:Nat) (i:Bool):Nat→Value→Prop
 | 0,u=>u = .pointer (some ⟨WK,0,none⟩)
 | 1,u=>u = .pointer (some ⟨WK,0,none⟩)
 | 2,u=>u = .pointer (some ⟨WK,0,none⟩)
 | 3,u=>u = .pointer (some ⟨N,0,none⟩)
 | 4,u=>u = .pointer (some ⟨N,0,none⟩)
 | 5,u=>u = .pointer (some ⟨N,2,none⟩)
 | 6,u=>u = .slice x.an x.nn x.cn
 | 7,u=>u = .pointer (some ⟨L,1,none⟩)
 | 8,u=>u = .string l.node
 | 9,u=>u = .tuple #[.int .i64 (t:Int),.bool i]
 | 10,u=>u = .tuple #[.int .i64 (t:Int),.bool i]
 | 11,u=>u = .int .i64 (t:Int)
 | 12,u=>u = .bool i
 | 13,u=>u = .int .i64 (t:Int)
 | 14,u=>u = .bool i
 | _,_=>False
def gr5V (N WK L:Nat) (x:StA) (l:ak) (t:Nat) (i:Bool):Nat→Value→Prop
 | 0,u=>u = .pointer (some ⟨WK,0,none⟩)
 | 1,u=>u = .pointer (some ⟨WK,0,none⟩)
 | 2,u=>u = .pointer (some ⟨WK,0,none⟩)
 | 3,u=>u = .pointer (some ⟨N,0,none⟩)
 | 4,u=>u = .pointer (some ⟨N,0,none⟩)
 | 5,u=>u = .pointer (some ⟨N,3,none⟩)
 | 6,u=>u = .slice x.al x.nl x.cl
 | 7,u=>u = .pointer (some ⟨L,0,none⟩)
 | 8,u=>u = .string l.job
 | 9,u=>u = .tuple #[.int .i64 (t:Int),.bool i]
 | 10,u=>u = .tuple #[.int .i64 (t:Int),.bool i]
 | 11,u=>u = .int .i64 (t:Int)
 | 12,u=>u = .bool i
 | 13,u=>u = .int .i64 (t:Int)
 | 14,u=>u = .bool i
 | _,_=>False
def C9 (N WK L:Nat) (st:ah) (x:StA) (l:ak) (γ:nk):Nat→Value→Prop
 | 0,u=>u = .pointer (some ⟨WK,0,none⟩)
 | 1,u=>u = .pointer (some ⟨WK,0,none⟩)
 | 2,u=>u = .pointer (some ⟨WK,0,none⟩)
 | 3,u=>u = .pointer (some ⟨N,0,none⟩)
 | 4,u=>u = .pointer (some ⟨WK,0,none⟩)
 | 5,u=>u = .pointer (some ⟨WK,0,none⟩)
 | 6,u=>u = .pointer (some ⟨WK,0,none⟩)
 | 7,u=>u = .pointer (some ⟨N,0,none⟩)
 | 8,u=>u = .pointer (some ⟨N,0,none⟩)
 | 9,u=>u = .pointer (some ⟨N,3,none⟩)
 | 10,u=>u = .slice x.al x.nl x.cl
 | 11,u=>u = .agg #[.string l.job,.string l.node,.int .i64 l.till]
 | 12,u=>γ.s=true∧u = .slice γ.A γ.m γ.c
 | 13,u=>u = .pointer (some ⟨N,0,none⟩)
 | 14,u=>u = .pointer (some ⟨N,3,none⟩)
 | 15,_=>True
 | _,_=>False
theorem F0 {N WK L:Nat} {st:ah} {x:StA} {l:ak} {γ γ':nk} {j:Nat} {v:Value} (hn:γ.s=false) (h:C9 N WK L st x l γ j v):C9 N WK L st x l γ' j v:=by
 unfold C9 at *
 split at h
 all_goals first | exact h | (obtain⟨hs,_⟩:=h; rw [hn] at hs; cases hs)
theorem q8.As {w wx:World} {base:Nat} {st:ah} {x:StA} {N WK L:Nat} {now:Int} {l:ak} (h:q8 w base st x N WK L now l wx):q8 w base st x N WK L now l wx.drew:=
 h.next (Below.refl _ _).drew
theorem D5 (base:Nat) (st:ah) (x:StA) (N WK:Nat) (now:Int) (l:ak) (w:World) (h:xg w base st x N WK now) (hT:tL base w) (htr:∀ j ∈ st.jobs,0≤j.tries∧j.tries≤100) (hok:l.job.size≤9223372036854775807∧l.node.size≤9223372036854775807) :
 Calls Tryz.prog 162 #[.pointer (some ⟨WK,0,none⟩),.agg #[.string l.job,.string l.node,.int .i64 l.till]] w (fR base N WK (kI st now l) w):=by
 obtain⟨W,hW⟩:∃ W,w.alloc (.cells #[.string l.job,.string l.node,.int .i64 l.till] 36)=W:=⟨_,rfl⟩
 have hbW:Below w.heap.size w W:=by rw [← hW]; exact (Below.refl _ _).alloc (Nat.le_refl _) _
 have hlb:Blk W w.heap.size 36 #[.string l.job,.string l.node,.int .i64 l.till]:=by rw [← hW]; exact heap_alloc_new w _
 have H:=hid h
 have HT:=hid hT
 have H0:=hid (show q8 w base st x N WK w.heap.size now l W from ⟨hlb,h.w.below hbW,hbW⟩)
 have aP:=hid (fun (e:Int) (he:e≠0) (wx:World) (hp:q8 w base st x N WK w.heap.size now l wx)=>(show fR base N WK (e,st,now) w (.returned (.int .i64 e)) wx from ⟨rfl,hp.below.mono H.out.w.bs,fun h0=>absurd h0 he⟩))
 clear hbW hlb h hT
 obtain⟨pj,hpj⟩:∃ t,dF aC.name st.jobs l.job=t:=⟨_,rfl⟩
 obtain⟨ij,hij⟩:∃ t,isL aC.name st.jobs l.job=t:=⟨_,rfl⟩
 obtain⟨pn,hpn⟩:∃ t,dF aA.name st.nodes l.node=t:=⟨_,rfl⟩
 obtain⟨inn,hin⟩:∃ t,isL aA.name st.nodes l.node=t:=⟨_,rfl⟩
 obtain⟨pl,hpl⟩:∃ t,dF ak.job st.leases l.job=t:=⟨_,rfl⟩
 obtain⟨il,hil⟩:∃ t,isL ak.job st.leases l.job=t:=⟨_,rfl⟩
 obtain⟨R,hR⟩:∃ R,kI st now l=R:=⟨_,rfl⟩
 rw [hR]
 have HR:=hid hR
 clear hR
 have HP:=hid (fun (wx:World) (hp:q8 w base st x N WK w.heap.size now l wx)=>(show Calls Tryz.prog _ _ wx (dS aC.name st.jobs l.job wx) from sw l.job st.jobs x.aj x.nj x.cj wx (cO hp.wa.own.j) hp.wa.own.lj (by have:=H.out.nj; omega) H.out.sj))
 unfold dS at HP
 rw [hpj,hij] at HP
 have Hpj:=hid hpj
 have Hij:=hid hij
 clear hpj hij
 go_enter Tryz.func162,Tryz.ntmps162
 go_wp2_with fail
 try rw [hW]
 clear hW
 refine rq (Γ:=Unit) 114 (fun _=>gr1V N WK w.heap.size x l pj ij) [] (fun _ _ wx=>q8 w base st x N WK w.heap.size now l wx) () H0.out.As ?_ ?_
 · refine⟨?_,?_,?_,?_,?_,?_,?_,?_,?_,?_,?_,?_,?_,?_,?_,trivial⟩
   · exact ok0 0 0 0 rfl fun _=>rfl
   · exact ok1 0 0 0 12 rfl rfl (fun _ _ h=>h) fun _=>rfl
   · exact ok1 0 0 1 13 rfl rfl (fun _ _ h=>h) fun _=>rfl
   · refine okQ 0 0 fun p γ a wx hpl hph hp hk=>?_
     obtain⟨u1,h1,rfl⟩:=hk.g 2 14 rfl rfl
     have hc0:wx.cell? ⟨WK,0,none⟩=some (.pointer (some ⟨N,0,none⟩)):=hp.wa.wk.cell 0
     simp [go_sem,Oper.wp,execOp,Act.eval,h1,hc0]
     exact⟨_,rfl,rfl,hp⟩
   · exact ok1 0 0 3 15 rfl rfl (fun _ _ h=>h) fun _=>rfl
   · exact ok1 0 0 4 16 rfl rfl (fun _ _ h=>h) fun _=>rfl
   · refine okQ 0 0 fun p γ a wx hpl hph hp hk=>?_
     obtain⟨u1,h1,rfl⟩:=hk.g 5 17 rfl rfl
     have hc0:wx.cell? ⟨N,1,none⟩=some (.slice x.aj x.nj x.cj):=hp.wa.nb.cell 1
     simp [go_sem,Oper.wp,execOp,Act.eval,h1,hc0]
     exact⟨_,rfl,rfl,hp⟩
   · exact ok0 0 0 3 rfl fun _=>rfl
   · refine okQ 0 0 fun p γ a wx hpl hph hp hk=>?_
     obtain⟨u1,h1,rfl⟩:=hk.g 7 19 rfl rfl
     have hc0:wx.cell? ⟨w.heap.size,0,none⟩=some (.string l.job):=hp.lb.cell 0
     simp [go_sem,Oper.wp,execOp,Act.eval,h1,hc0]
     exact⟨_,rfl,rfl,hp⟩
   · refine okQ 0 0 fun p γ a wx hpl hph hp hk=>?_
     obtain⟨u1,h1,rfl⟩:=hk.g 6 18 rfl rfl
     obtain⟨u2,h2,rfl⟩:=hk.g 8 20 rfl rfl
     simp [go_sem,Oper.wp,execOp,Act.eval,h1,h2]
     refine (HP.out wx hp).mono ?_
     rintro e w' ⟨rfl,hb⟩
     exact⟨_,rfl,rfl,hp.next hb⟩
   · exact ok1 0 0 9 21 rfl rfl (fun _ _ h=>h) fun _=>rfl
   · exact ok1 0 0 10 11 rfl rfl (fun _ _ h=>h) fun _=>rfl
   · exact ok1 0 0 10 11 rfl rfl (fun _ _ h=>h) fun _=>rfl
   · exact ok1 0 0 11 22 rfl rfl (fun _ _ h=>h) fun _=>rfl
   · exact ok1 0 0 12 23 rfl rfl (fun _ _ h=>h) fun _=>rfl
 intro γ a wx hd
 clear HP H0
 have H0:=hid hd.ph
 obtain⟨fv,rfl,hfv⟩:=hd.frame [12,13,14,15,16,17,18,19,20,21,11,22,23,5,6] rfl
 have h5:fv 5 = .int .i64 (pj:Int):=hfv 13 _ 5 rfl rfl
 have h6:fv 6 = .bool ij:=hfv 14 _ 6 rfl rfl
 clear hd hfv
 simp only [foldl_cons,foldl_nil,setIfInBounds_toArray,set_cons_succ,set_cons_zero,h5,h6]
 clear h5 h6
 have HP:=hid (fun (wx:World) (hp:q8 w base st x N WK w.heap.size now l wx)=>(show Calls Tryz.prog _ _ wx (dS aA.name st.nodes l.node wx) from pW l.node st.nodes x.an x.nn x.cn wx (cO hp.wa.own.n) hp.wa.own.ln (by have:=H.out.nn; omega) H.out.sn))
 unfold dS at HP
 rw [hpn,hin] at HP
 have Hin:=hid hin
 clear hpn hin
 go_wp2_with fail
 refine rq (Γ:=Unit) 114 (fun _=>gr2V N WK w.heap.size x l pn inn) [] (fun _ _ wx=>q8 w base st x N WK w.heap.size now l wx) () H0.out.As ?_ ?_
 · refine⟨?_,?_,?_,?_,?_,?_,?_,?_,?_,?_,?_,?_,?_,?_,?_,trivial⟩
   · exact ok0 0 0 0 rfl fun _=>rfl
   · exact ok1 0 0 0 25 rfl rfl (fun _ _ h=>h) fun _=>rfl
   · exact ok1 0 0 1 26 rfl rfl (fun _ _ h=>h) fun _=>rfl
   · refine okQ 0 0 fun p γ a wx hpl hph hp hk=>?_
     obtain⟨u1,h1,rfl⟩:=hk.g 2 27 rfl rfl
     have hc0:wx.cell? ⟨WK,0,none⟩=some (.pointer (some ⟨N,0,none⟩)):=hp.wa.wk.cell 0
     simp [go_sem,Oper.wp,execOp,Act.eval,h1,hc0]
     exact⟨_,rfl,rfl,hp⟩
   · exact ok1 0 0 3 28 rfl rfl (fun _ _ h=>h) fun _=>rfl
   · exact ok1 0 0 4 29 rfl rfl (fun _ _ h=>h) fun _=>rfl
   · refine okQ 0 0 fun p γ a wx hpl hph hp hk=>?_
     obtain⟨u1,h1,rfl⟩:=hk.g 5 30 rfl rfl
     have hc0:wx.cell? ⟨N,2,none⟩=some (.slice x.an x.nn x.cn):=hp.wa.nb.cell 2
     simp [go_sem,Oper.wp,execOp,Act.eval,h1,hc0]
     exact⟨_,rfl,rfl,hp⟩
   · exact ok0 0 0 3 rfl fun _=>rfl
   · refine okQ 0 0 fun p γ a wx hpl hph hp hk=>?_
     obtain⟨u1,h1,rfl⟩:=hk.g 7 32 rfl rfl
     have hc0:wx.cell? ⟨w.heap.size,1,none⟩=some (.string l.node):=hp.lb.cell 1
     simp [go_sem,Oper.wp,execOp,Act.eval,h1,hc0]
     exact⟨_,rfl,rfl,hp⟩
   · refine okQ 0 0 fun p γ a wx hpl hph hp hk=>?_
     obtain⟨u1,h1,rfl⟩:=hk.g 6 31 rfl rfl
     obtain⟨u2,h2,rfl⟩:=hk.g 8 33 rfl rfl
     simp [go_sem,Oper.wp,execOp,Act.eval,h1,h2]
     refine (HP.out wx hp).mono ?_
     rintro e w' ⟨rfl,hb⟩
     exact⟨_,rfl,rfl,hp.next hb⟩
   · exact ok1 0 0 9 34 rfl rfl (fun _ _ h=>h) fun _=>rfl
   · exact ok1 0 0 10 24 rfl rfl (fun _ _ h=>h) fun _=>rfl
   · exact ok1 0 0 10 24 rfl rfl (fun _ _ h=>h) fun _=>rfl
   · exact ok1 0 0 11 35 rfl rfl (fun _ _ h=>h) fun _=>rfl
   · exact ok1 0 0 12 36 rfl rfl (fun _ _ h=>h) fun _=>rfl
 intro γ a wx hd
 clear HP H0
 have H0:=hid hd.ph
 obtain⟨fv,rfl,hfv⟩:=hd.frame [25,26,27,28,29,30,31,32,33,34,24,35,36,7,8] rfl
 have h7:fv 7 = .int .i64 (pn:Int):=hfv 13 _ 7 rfl rfl
 have h8:fv 8 = .bool inn:=hfv 14 _ 8 rfl rfl
 clear hd hfv
 simp only [foldl_cons,foldl_nil,setIfInBounds_toArray,set_cons_succ,set_cons_zero,h7,h8]
 clear h7 h8
 cases ij
 · obtain rfl:=(Ao H.out.sj Hij.out).symm.trans HR.out
   go_wp2
   go_ret
   exact aP.out 6 (by decide) _ H0.out
 obtain⟨j,hj,hjn⟩:=lJ Hij.out
 have HR2:=hid ((Ap H.out.sj H.out.sn H.out.sl hj hjn).symm.trans HR.out)
 cases inn
 · obtain rfl:=(if_pos Hin.out).symm.trans HR2.out
   go_wp2
   go_ret
   exact aP.out 6 (by decide) _ H0.out
 have HR3:=hid ((if_neg (by rw [Hin.out]; decide)).symm.trans HR2.out)
 clear HR2 HR
 have HP:=hid (fun (wx:World) (hp:q8 w base st x N WK w.heap.size now l wx)=>(show Calls Tryz.prog _ _ wx (dS ak.job st.leases l.job wx) from nU l.job st.leases x.al x.nl x.cl wx (cO hp.wa.own.l) hp.wa.own.ll (by have:=H.out.nl; omega) H.out.sl))
 unfold dS at HP
 rw [hpl,hil] at HP
 have Hil:=hid hil
 clear hpl hil
 go_wp2_with fail
 refine rq (Γ:=Unit) 114 (fun _=>gr5V N WK w.heap.size x l pl il) [] (fun _ _ wx=>q8 w base st x N WK w.heap.size now l wx) () H0.out.As ?_ ?_
 · refine⟨?_,?_,?_,?_,?_,?_,?_,?_,?_,?_,?_,?_,?_,?_,?_,trivial⟩
   · exact ok0 0 0 0 rfl fun _=>rfl
   · exact ok1 0 0 0 44 rfl rfl (fun _ _ h=>h) fun _=>rfl
   · exact ok1 0 0 1 45 rfl rfl (fun _ _ h=>h) fun _=>rfl
   · refine okQ 0 0 fun p γ a wx hpl hph hp hk=>?_
     obtain⟨u1,h1,rfl⟩:=hk.g 2 46 rfl rfl
     have hc0:wx.cell? ⟨WK,0,none⟩=some (.pointer (some ⟨N,0,none⟩)):=hp.wa.wk.cell 0
     simp [go_sem,Oper.wp,execOp,Act.eval,h1,hc0]
     exact⟨_,rfl,rfl,hp⟩
   · exact ok1 0 0 3 47 rfl rfl (fun _ _ h=>h) fun _=>rfl
   · exact ok1 0 0 4 48 rfl rfl (fun _ _ h=>h) fun _=>rfl
   · refine okQ 0 0 fun p γ a wx hpl hph hp hk=>?_
     obtain⟨u1,h1,rfl⟩:=hk.g 5 49 rfl rfl
     have hc0:wx.cell? ⟨N,3,none⟩=some (.slice x.al x.nl x.cl):=hp.wa.nb.cell 3
     simp [go_sem,Oper.wp,execOp,Act.eval,h1,hc0]
     exact⟨_,rfl,rfl,hp⟩
   · exact ok0 0 0 3 rfl fun _=>rfl
   · refine okQ 0 0 fun p γ a wx hpl hph hp hk=>?_
     obtain⟨u1,h1,rfl⟩:=hk.g 7 51 rfl rfl
     have hc0:wx.cell? ⟨w.heap.size,0,none⟩=some (.string l.job):=hp.lb.cell 0
     simp [go_sem,Oper.wp,execOp,Act.eval,h1,hc0]
     exact⟨_,rfl,rfl,hp⟩
   · refine okQ 0 0 fun p γ a wx hpl hph hp hk=>?_
     obtain⟨u1,h1,rfl⟩:=hk.g 6 50 rfl rfl
     obtain⟨u2,h2,rfl⟩:=hk.g 8 52 rfl rfl
     simp [go_sem,Oper.wp,execOp,Act.eval,h1,h2]
     refine (HP.out wx hp).mono ?_
     rintro e w' ⟨rfl,hb⟩
     exact⟨_,rfl,rfl,hp.next hb⟩
   · exact ok1 0 0 9 53 rfl rfl (fun _ _ h=>h) fun _=>rfl
   · exact ok1 0 0 10 43 rfl rfl (fun _ _ h=>h) fun _=>rfl
   · exact ok1 0 0 10 43 rfl rfl (fun _ _ h=>h) fun _=>rfl
   · exact ok1 0 0 11 54 rfl rfl (fun _ _ h=>h) fun _=>rfl
   · exact ok1 0 0 12 55 rfl rfl (fun _ _ h=>h) fun _=>rfl
 intro γ a wx hd
 clear HP H0
 have H0:=hid hd.ph
 obtain⟨fv,rfl,hfv⟩:=hd.frame [44,45,46,47,48,49,50,51,52,53,43,54,55,9,10] rfl
 have h9:fv 9 = .int .i64 (pl:Int):=hfv 13 _ 9 rfl rfl
 have h10:fv 10 = .bool il:=hfv 14 _ 10 rfl rfl
 clear hd hfv
 simp only [foldl_cons,foldl_nil,setIfInBounds_toArray,set_cons_succ,set_cons_zero,h9,h10]
 clear h9 h10
 cases il
 rotate_left
 · obtain rfl:=(if_pos Hil.out).symm.trans HR3.out
   go_wp2
   go_ret
   exact aP.out 7 (by decide) _ H0.out
 have HR4:=hid ((if_neg (by rw [Hil.out]; decide)).symm.trans HR3.out)
 clear HR3
 go_wp2_with fail
 have l2:wx.cell? ⟨w.heap.size,2,none⟩=some (.int .i64 l.till):=H0.out.lb.cell 2
 have k1:wx.cell? ⟨WK,1,none⟩=some (.int .i64 now):=H0.out.wa.wk.cell 1
 by_cases hti:l.till≤now
 · have dt:decide (l.till≤now)=true:=decide_eq_true hti
   obtain rfl:=(if_pos hti).symm.trans HR4.out
   clear hti HR4
   go_region
   go_wp2
   go_ret
   exact aP.out 1 (by decide) _ H0.out.As
 have dt:decide (l.till≤now)=false:=decide_eq_false hti
 have HR5:=hid ((if_neg hti).symm.trans HR4.out)
 clear hti HR4
 go_region
 clear l2 k1 dt
 have H1:=hid H0.out.As
 clear H0
 obtain⟨w1,hw1⟩:∃ w1,wx.drew=w1:=⟨_,rfl⟩
 rw [hw1] at H1 ⊢
 clear hw1
 obtain⟨b,off,hA,hbb,hbl,hcell⟩:=C0 (enc:=aI) (sz:=5) (fun _=>rfl) H1.out.wa.own.j H1.out.wa.own.lj hj
 have c3:=hcell 3 _ rfl
 have hpl:=(List.getElem?_eq_some_iff.1 hj).1
 rw [H1.out.wa.own.lj,Hpj.out] at hpl
 rw [Hpj.out] at c3
 have k0:w1.cell? ⟨WK,0,none⟩=some (.pointer (some ⟨N,0,none⟩)):=H1.out.wa.wk.cell 0
 have n1:w1.cell? ⟨N,1,none⟩=some (.slice x.aj x.nj x.cj):=H1.out.wa.nb.cell 1
 rw [hA] at n1
 have HA:=hid hA
 clear hA hcell
 have hz:=(xP (by rw [← HA.out]; exact H1.out.wa.own.j) (pj*5+3) (by omega) (.int .i64 (j.tries+1))).2.1
 rw [← Nat.add_assoc] at hz
 have hjm:=htr j (List.mem_of_getElem? hj)
 by_cases ht:j.tries=100
 · have dj:(j.tries == 100)=true:=by rw [ht]; rfl
   obtain rfl:=(if_pos ht).symm.trans HR5.out
   clear HR5 ht
   go_wp2
   go_ret
   exact aP.out 2 (by decide) _ H1.out
 have dj:(j.tries == 100)=false:=beq_false_of_ne ht
 obtain rfl:=(if_neg ht).symm.trans HR5.out
 clear HR5 ht
 go_wp2_with fail
 have hja:=H1.out.wa.own.j
 rw [HA.out] at hja
 have hset:=xP hja (pj*5+3) (by omega) (.int .i64 (j.tries+1))
 rw [← Nat.add_assoc] at hset
 obtain⟨hjs,_,_,hbb2,csb,hcb⟩:=hset
 rw [xQ (enc:=aI) (sz:=5) (fun _=>rfl) st.jobs pj 3 j (Ar j) (.int .i64 (j.tries+1)) (by rw [← Hpj.out]; exact hj) (by decide) rfl,← HA.out,(by rw [← Hpj.out]; exact (Aq H.out.sj Hij.out hj hjn).symm:st.jobs.set pj (Ar j)=j6 aC.name st.jobs (Ar j))] at hjs
 obtain⟨js,I4⟩:∃ js,j6 aC.name st.jobs (Ar j)=js:=⟨_,rfl⟩
 have hjl:js.length=x.nj:=by rw [← I4,Aq H.out.sj Hij.out hj hjn,List.length_set]; exact H1.out.wa.own.lj
 rw [I4] at hjs
 obtain⟨w2,hw2⟩:∃ w2,w1.setCell ⟨b,off+pj*5+3,none⟩ (.int .i64 (j.tries+1))=w2:=⟨_,rfl⟩
 rw [hw2] at hjs
 have hn2:w2.ownsRow base 34 3 (.slice x.an x.nn x.cn) x.nn (au aB st.nodes):=by rw [← hw2]; exact aR H1.out.wa.own.n hcb (by decide)
 have hl2:w2.ownsRow base 36 3 (.slice x.al x.nl x.cl) x.nl (au av st.leases):=by rw [← hw2]; exact aR H1.out.wa.own.l hcb (by decide)
 have KJ:Below base w w2:=by rw [← hw2]; exact (H1.out.below.mono H.out.w.bs).trans (aM (Below.refl _ _) hbb)
 have vG:base≤w2.drew.heap.size:=Nat.le_trans H.out.w.bs KJ.size
 have H13:Kk w w2 base st x N WK w.heap.size now l js (j6 ak.job st.leases l) 0 ⟨none,0,0,false⟩ w2.drew:=by
  refine⟨?_,?_,?_,KJ.drew,hjs.drew,hn2.drew,fun _=>rfl,fun _=>rfl,fun h=>absurd h (by decide)⟩
  · rw [← hw2]; exact aY H1.out.lb hcb (by decide)
  · rw [← hw2]; exact aY H1.out.wa.wk hcb (by decide)
  · rw [← hw2]; exact aY H1.out.wa.nb hcb (by decide)
 have HD:=hid (BD base x.al x.nl x.cl st.leases l w2.drew hl2.drew H1.out.wa.own.ll (by have:=H.out.nl; omega) H.out.sl vG)
 have HL:=hid hl2.drew
 have HBs:=hid vG
 have HbN:=hid H.out.w.bN
 have Hjl:=hid hjl
 have HjE:=hid I4
 have Hj:=hid hj
 rw [hw2]
 clear hw2 I4 hjl hjs hn2 hl2 KJ vG hcb hbb2 hja H1 c3 hpl k0 n1 hz hjm dj hjn aP HA
 refine rq 114 (C9 N WK w.heap.size st x l) [12,15] (Kk w w2 base st x N WK w.heap.size now l js (j6 ak.job st.leases l)) ⟨none,0,0,false⟩ H13 ?_ ?_
 · refine⟨?_,?_,?_,?_,?_,?_,?_,?_,?_,?_,?_,?_,?_,?_,?_,?_,trivial⟩
   · exact ok0 0 2 0 rfl fun _=>rfl
   · exact ok1 0 2 0 92 rfl rfl (fun _ _ h=>h) fun _=>rfl
   · exact ok1 0 2 1 93 rfl rfl (fun _ _ h=>h) fun _=>rfl
   · refine okQ 0 2 fun p γ a wx hpl hph hp hk=>?_
     obtain⟨u1,h1,rfl⟩:=hk.g 2 94 rfl rfl
     have hc0:wx.cell? ⟨WK,0,none⟩=some (.pointer (some ⟨N,0,none⟩)):=hp.wk.cell 0
     simp [go_sem,Oper.wp,execOp,Act.eval,h1,hc0]
     exact⟨_,rfl,γ,fun _ _ _ h=>h,rfl,hp⟩
   · exact ok0 0 2 0 rfl fun _=>rfl
   · exact ok1 0 2 4 96 rfl rfl (fun _ _ h=>h) fun _=>rfl
   · exact ok1 0 2 5 97 rfl rfl (fun _ _ h=>h) fun _=>rfl
   · refine okQ 0 2 fun p γ a wx hpl hph hp hk=>?_
     obtain⟨u1,h1,rfl⟩:=hk.g 6 98 rfl rfl
     have hc0:wx.cell? ⟨WK,0,none⟩=some (.pointer (some ⟨N,0,none⟩)):=hp.wk.cell 0
     simp [go_sem,Oper.wp,execOp,Act.eval,h1,hc0]
     exact⟨_,rfl,γ,fun _ _ _ h=>h,rfl,hp⟩
   · exact ok1 0 2 7 99 rfl rfl (fun _ _ h=>h) fun _=>rfl
   · exact ok1 0 2 8 100 rfl rfl (fun _ _ h=>h) fun _=>rfl
   · refine okQ 0 0 fun p γ a wx hpl hph hp hk=>?_
     obtain⟨u1,h1,rfl⟩:=hk.g 9 101 rfl rfl
     obtain rfl:p=0:=by omega
     have hc0:wx.cell? ⟨N,3,none⟩=some (.slice x.al x.nl x.cl):=hp.nb.cell 3
     simp [go_sem,Oper.wp,execOp,Act.eval,h1,hc0]
     exact⟨_,rfl,γ,fun _ _ _ h=>h,rfl,hp⟩
   · refine okQ 0 2 fun p γ a wx hpl hph hp hk=>?_
     have h1:=hk.k 3 rfl
     have hc0:wx.cell? ⟨w.heap.size,0,none⟩=some (.string l.job):=hp.lb.cell 0
     have hc1:wx.cell? ⟨w.heap.size,1,none⟩=some (.string l.node):=hp.lb.cell 1
     have hc2:wx.cell? ⟨w.heap.size,2,none⟩=some (.int .i64 l.till):=hp.lb.cell 2
     simp [go_sem,Oper.wp,execOp,Act.eval,h1,hc0,hc1,hc2]
     exact⟨_,rfl,γ,fun _ _ _ h=>h,rfl,hp⟩
   · refine .inl ⟨0,rfl,fun γ a wx hp hk=>bA rfl ?_⟩
     obtain⟨u1,h1,rfl⟩:=hk.g 10 102 rfl rfl
     obtain⟨u2,h2,rfl⟩:=hk.g 11 103 rfl rfl
     simp [go_sem,Oper.wp,execOp,Act.eval,h1,h2]
     obtain rfl:=hp.here rfl
     refine (HD.out).mono ?_
     rintro e w' ⟨A',m,c',rfl,hm,ho,hg⟩
     exact⟨_,rfl,⟨A',m,c',true⟩,fun j v hj h=>F0 (hp.unset rfl) h,⟨rfl,rfl⟩,⟨(hg.grown.block _ hp.lb.lt (fun e=>Nat.lt_irrefl _ ((H.out.w.own.l.lt _ e.symm).2))).trans hp.lb,Blk.gN hp.wk hg HL.out (by decide),Blk.eq (Blk.gN hp.nb hg HL.out (by decide)) rfl,hp.below.trans (hg.below HBs.out (fun q hq=>(HL.out.lt q hq).1)),bJ hp.j hg HL.out (by decide),bJ hp.n hg HL.out (by decide),fun h=>absurd h (by decide),fun h=>absurd h (by decide),fun _=>⟨ho,hm⟩⟩⟩
   · exact ok1 0 2 3 95 rfl rfl (fun _ _ h=>h) fun _=>rfl
   · exact ok1 0 2 13 105 rfl rfl (fun _ _ h=>h) fun _=>rfl
   · refine .inl ⟨1,rfl,fun γ a wx hp hk=>bA rfl ?_⟩
     obtain⟨u1,h1,rfl⟩:=hk.g 14 106 rfl rfl
     obtain⟨u2,h2,hs2,rfl⟩:=hk.g 12 104 rfl rfl
     have hc:wx.cell? ⟨N,3,none⟩=some (.slice x.al x.nl x.cl):=hp.nb.cell 3
     have hz:wx.frozen? ⟨N,3,none⟩=false:=hp.nb.thaw 3
     simp [go_sem,Oper.wp,execOp,Act.eval,h1,h2,hc,hz]
     exact⟨.int .i64 0,γ,fun _ _ _ h=>h,trivial,⟨aY hp.lb hp.nb (by decide),aY hp.wk hp.nb (by decide),Blk.eq (hp.nb.set 3 _) rfl,hp.below.trans (aM (Below.refl _ _) HbN.out),aR hp.j hp.nb (by decide),aR hp.n hp.nb (by decide),fun h=>absurd h (by decide),fun h=>absurd h (by decide),fun _=>⟨aR (hp.r (by decide)).1 hp.nb (by decide),(hp.r (by decide)).2⟩⟩⟩
 intro γ a wy hd
 have hp:=hd.ph
 obtain⟨fv,rfl,hfv⟩:=hd.frame [92,93,94,95,96,97,98,99,100,101,102,103,104,105,106] rfl
 have hnb:Blk wy N 26 #[.int .i64 st.rev,.slice x.aj x.nj x.cj,.slice x.an x.nn x.cn,.slice γ.A γ.m γ.c]:=hp.nb
 have hwa:mN wy base (⟨st.rev,js,st.nodes,j6 ak.job st.leases l⟩:ah) ⟨x.aj,x.nj,x.cj,x.an,x.nn,x.cn,γ.A,γ.m,γ.c⟩ N WK now:=⟨hnb,hp.wk,⟨hp.j,hp.n,(hp.r (by decide)).1,Hjl.out,H.out.w.own.ln,(hp.r (by decide)).2.symm⟩,H.out.w.bN,H.out.w.bW,Nat.le_trans H.out.w.bs hp.below.size⟩
 have hlen:=(hp.r (by decide)).2
 have qR:=og (key:=ak.job) (x:=l) H.out.sl
 have hjok:mB js:=by
  rw [← HjE.out]
  exact fun z hz=>(qU hz).elim (fun e=>by rw [e]; exact H.out.oj j (List.mem_of_getElem? Hj.out)) (H.out.oj z)
 have HC:=hid (show Calls Tryz.prog 58 #[.agg #[.int .i64 st.rev,.slice x.aj x.nj x.cj,.slice x.an x.nn x.cn,.slice γ.A γ.m γ.c]] wy _ from lD (⟨st.rev,js,st.nodes,j6 ak.job st.leases l⟩:ah) ⟨x.aj,x.nj,x.cj,x.an,x.nn,x.cn,γ.A,γ.m,γ.c⟩ wy (hwa.own.at2 (by have:=H.out.nj; show x.nj≤1000; omega) (by have:=H.out.nn; show x.nn≤1000; omega) (by have:=H.out.w.own.ll; have:=H.out.nl; show γ.m≤1000; omega) hjok H.out.on_ (fun z hz=>(qU hz).elim (fun e=>by rw [e]; exact hok) (H.out.ol z))) (HT.out _ hp.below))
 have HwA:=hid hwa
 have HbX:=hid hp.below
 have b1:wy.cell? ⟨WK,0,none⟩=some (.pointer (some ⟨N,0,none⟩)):=hp.wk.cell 0
 obtain⟨n0,n1,n2,n3⟩:=Blk.c4 (hnb)
 have hNl:=hnb.lt
 have Hst:=hid (show (⟨st.rev,js,st.nodes,j6 ak.job st.leases l⟩:ah)=ny st j l from by rw [← HjE.out]; rfl)
 clear hd hp hfv hnb hwa hlen qR H13 hjok hj
 simp only [foldl_cons,foldl_nil,setIfInBounds_toArray,set_cons_succ,set_cons_zero]
 go_wp2_with fail
 refine Calls.mono HC.out ?_
 rintro e w5 ⟨rfl,hb5⟩
 have bI:=hid (show fR base N WK (aE (⟨st.rev,js,st.nodes,j6 ak.job st.leases l⟩:ah),(⟨st.rev,js,st.nodes,j6 ak.job st.leases l⟩:ah),now) w (.returned (.int .i64 (aE (⟨st.rev,js,st.nodes,j6 ak.job st.leases l⟩:ah)))) w5 from ⟨rfl,HbX.out.trans (hb5.mono (Nat.le_trans H.out.w.bs HbX.out.size)),fun _=>⟨_,HwA.out.below hb5⟩⟩)
 rw [Hst.out] at bI ⊢
 clear hb5 b1 n0 n1 n2 n3 HC
 go_wp2
 go_ret
 exact bI.out
end Go.Proofs.YtbllgmociapjeaaGreatDoor
/- (*work).do at the grant; do at every kind. -/
namespace Go.Proofs.YtbllgmociapjeaaGreatDoor
open Go.Lib (hid)
open List (foldl_cons foldl_nil setIfInBounds_toArray set_cons_succ set_cons_zero)
open Go.RowKit
theorem do_5 (base:Nat) (st:ah) (x:StA) (N WK:Nat) (now:Int) (q:aF) (w:World) (h:xg w base st x N WK now) (hq:q.kind=5) (hT:tL base w) (htr:∀ j ∈ st.jobs,0≤j.tries∧j.tries≤100) (hok:q.lease.job.size≤9223372036854775807∧q.lease.node.size≤9223372036854775807) :
 Calls Tryz.prog 96 #[.pointer (some ⟨WK,0,none⟩),bH q] w (fR base N WK (kI st now q.lease) w):=by
 obtain⟨W,hW⟩:∃ W,(w.alloc (.cells #[.pointer (some ⟨WK,0,none⟩)] 195)).alloc (.cells (aN q) 38)=W:=⟨_,rfl⟩
 have hbW:Below w.heap.size w W:=by rw [← hW]; exact ((Below.refl _ _).alloc (Nat.le_refl _) _).alloc (by simp) _
 have hbp:Blk W w.heap.size 195 #[.pointer (some ⟨WK,0,none⟩)]:=by rw [← hW]; exact Blk.alloc (show Blk _ _ _ _ from heap_alloc_new w _) _
 have hqb:Blk W (w.heap.size+1) 38 (aN q):=by
  rw [← hW]
  have:=heap_alloc_new (w.alloc (.cells #[.pointer (some ⟨WK,0,none⟩)] 195)) (.cells (aN q) 38)
  rwa [show (w.alloc (.cells #[.pointer (some ⟨WK,0,none⟩)] 195)).heap.size=w.heap.size+1 by simp] at this
 have hw:=h.w.below hbW
 have hk0:W.cell? ⟨w.heap.size+1,0,none⟩=some (.int .i64 5):=by rw [hqb.cell 0,← hq]; rfl
 have q9:W.cell? ⟨w.heap.size+1,9,none⟩=some (.string q.lease.job):=hqb.cell 9
 have q10:W.cell? ⟨w.heap.size+1,10,none⟩=some (.string q.lease.node):=hqb.cell 10
 have q11:W.cell? ⟨w.heap.size+1,11,none⟩=some (.int .i64 q.lease.till):=hqb.cell 11
 have bp0:W.cell? ⟨w.heap.size,0,none⟩=some (.pointer (some ⟨WK,0,none⟩)):=hbp.cell 0
 have HG:=hid (D5 base st x N WK now q.lease W ⟨hw,h.nj,h.nn,h.nl,h.oj,h.on_,h.ol,h.sj,h.sn,h.sl⟩ (hT.next (hbW.mono h.w.bs)) htr hok)
 have HbW:=hid (hbW.mono h.w.bs)
 clear hbW hbp hqb hw h hq hT htr
 unfold bH
 unfold aN at hW ⊢
 obtain⟨R,hR⟩:∃ R,kI st now q.lease=R:=⟨_,rfl⟩
 rw [hR] at HG ⊢
 clear hR
 go_enter Tryz.func96,Tryz.ntmps96
 go_wp2_with fail
 try rw [hW]
 clear hW
 refine Calls.mono HG.out ?_
 rintro e w5 ⟨rfl,hb5,hk5⟩
 have aP:=hid (show fR base N WK R w (.returned (.int .i64 R.1)) w5 from ⟨rfl,HbW.out.trans hb5,hk5⟩)
 clear hb5 hk5 HG
 go_wp2
 go_ret
 exact aP.out
structure QOk (q:aF):Prop where
 j:q.job.name.size≤9223372036854775807∧q.job.tag.size≤9223372036854775807
 n:q.node.name.size≤9223372036854775807∧q.node.zone.size≤9223372036854775807
 l:q.lease.job.size≤9223372036854775807∧q.lease.node.size≤9223372036854775807
theorem yR (base:Nat) (st:ah) (x:StA) (N WK:Nat) (now:Int) (q:aF) (w:World) (h:xg w base st x N WK now) (hT:tL base w) (htr:∀ j ∈ st.jobs,0≤j.tries∧j.tries≤100) (hok:QOk q) (hk:1≤q.kind) (hn0:0≤now) (hn1:now≤1099511627776) (hq0:q.kind=7→0≤q.n∧q.n≤1099511627776) :
 Calls Tryz.prog 96 #[.pointer (some ⟨WK,0,none⟩),bH q] w (fR base N WK (doR st now q) w):=by
 unfold doR
 split
 · exact do_1 base st x N WK now q w h ‹_› hok.j hT
 split
 · exact do_2 base st x N WK now q w h ‹_› hok.n hT
 split
 · exact do_3 base st x N WK now q w h ‹_›
 split
 · exact do_4 base st x N WK now q w h ‹_›
 split
 · exact do_5 base st x N WK now q w h ‹_› hT htr hok.l
 split
 · exact do_6 base st x N WK now q w h ‹_›
 split
 · exact do_7 base st x N WK now q w h ‹_› hn0 hn1 (hq0 ‹_›).1 (hq0 ‹_›).2
 · exact do_8 base st x N WK now q w h (by omega)
end Go.Proofs.YtbllgmociapjeaaGreatDoor
