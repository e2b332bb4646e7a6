/- Of the proof of a statement: DoB. -/
import Derived.Test.YtbllgmociapjeaaGreatDoorVDoA
import Derived.Test.YtbllgmociapjeaaGreatDoorVRPhQ
set_option linter.unusedVariables false
set_option linter.unusedSimpArgs false
set_option maxRecDepth 100000
set_option maxHeartbeats 8000000
/- (*work).do at the kinds that take rows away. -/
namespace Go.Proofs.YtbllgmociapjeaaGreatDoor
open Go.Lib (hid)
open List (foldl_cons foldl_nil setIfInBounds_toArray set_cons_succ set_cons_zero)
open Go.RowKit
theorem jw {w:World} {base n g sz:Nat} {e t:TypeId} {v:Value} {xs:List Value} {cs:Array Value} (h:Blk w g t cs) (ho:w.ownsRow base e sz v n xs) (hne:t≠e):v.ownBlock≠some g:=by
 intro hb
 rcases ho.2 with ⟨h1,_⟩ | ⟨q,cap,cur,hv,_,hgq,_⟩
 · rw [h1] at hb; cases hb
 · rw [hv] at hb
   have:q=g:=by simpa [Value.ownBlock] using hb
   subst this
   unfold Blk at h
   rw [h] at hgq
   injection hgq with hgq
   injection hgq with _ h2
   exact hne h2
theorem FO (Q:Nat) (q:aF) (w:World) (g:Option Nat) (hq:Blk w Q 38 (aN q)) (hg:g≠some Q):uf (fun l=>decide (l.job=q.name)) 159 #[.pointer (some ⟨Q,0,none⟩)] w g:=by
 intro W hW x
 have hb:Blk W Q 38 (aN q):=(hW.block Q hq.lt (fun e=>hg e.symm)).trans hq
 have h1:W.cell? ⟨Q,12,none⟩=some (.string q.name):=hb.cell 12
 have hl:=hb.lt
 have Hd:=hid (qT x.job q.name)
 obtain⟨job,node,till⟩:=x
 show Calls Tryz.prog 159 #[.agg #[.string job,.string node,.int .i64 till],.pointer (some ⟨Q,0,none⟩)] W _
 clear hq hW hb
 go_enter Tryz.func159,Tryz.ntmps159
 go_wp2
 go_ret
 exact⟨cY Hd.out,(Below.refl _ _).alloc (Nat.le_refl _) _⟩
theorem DT (Q:Nat) (q:aF) (w:World) (g:Option Nat) (hq:Blk w Q 38 (aN q)) (hg:g≠some Q):uf (fun l=>decide (l.node=q.name)) 161 #[.pointer (some ⟨Q,0,none⟩)] w g:=by
 intro W hW x
 have hb:Blk W Q 38 (aN q):=(hW.block Q hq.lt (fun e=>hg e.symm)).trans hq
 have h1:W.cell? ⟨Q,12,none⟩=some (.string q.name):=hb.cell 12
 have hl:=hb.lt
 have Hd:=hid (qT x.node q.name)
 obtain⟨job,node,till⟩:=x
 show Calls Tryz.prog 161 #[.agg #[.string job,.string node,.int .i64 till],.pointer (some ⟨Q,0,none⟩)] W _
 clear hq hW hb
 go_enter Tryz.func161,Tryz.ntmps161
 go_wp2
 go_ret
 exact⟨cY Hd.out,(Below.refl _ _).alloc (Nat.le_refl _) _⟩
def C4 (N WK BP Q:Nat) (st:ah) (x:StA) (now:Int) (q:aF) (b:Bool) (γ:nk):Nat→Value→Prop
 | 0,u=>u = .pointer (some ⟨WK,0,none⟩)
 | 1,u=>u = .pointer (some ⟨WK,0,none⟩)
 | 2,u=>u = .pointer (some ⟨WK,0,none⟩)
 | 3,u=>u = .pointer (some ⟨N,0,none⟩)
 | 4,u=>u = .pointer (some ⟨WK,0,none⟩)
 | 5,u=>u = .pointer (some ⟨WK,0,none⟩)
 | 6,u=>u = .pointer (some ⟨WK,0,none⟩)
 | 7,u=>u = .pointer (some ⟨N,0,none⟩)
 | 8,u=>u = .pointer (some ⟨N,0,none⟩)
 | 9,u=>u = .pointer (some ⟨N,1,none⟩)
 | 10,u=>u = .slice x.aj x.nj x.cj
 | 11,u=>u = .pointer (some ⟨Q,12,none⟩)
 | 12,u=>u = .string q.name
 | 13,u=>γ.s=true∧u = .tuple #[.slice γ.A γ.m γ.c,.bool b]
 | 14,u=>γ.s=true∧u = .tuple #[.slice γ.A γ.m γ.c,.bool b]
 | 15,u=>γ.s=true∧u = .slice γ.A γ.m γ.c
 | 16,u=>u = .bool b
 | 17,u=>u = .pointer (some ⟨N,0,none⟩)
 | 18,u=>u = .pointer (some ⟨N,1,none⟩)
 | 19,_=>True
 | 20,u=>u = .bool b
 | _,_=>False
theorem FP {N WK BP Q:Nat} {st:ah} {x:StA} {now:Int} {q:aF} {b:Bool} {γ γ':nk} {j:Nat} {v:Value} (hn:γ.s=false) (h:C4 N WK BP Q st x now q b γ j v):C4 N WK BP Q st x now q b γ' j v:=by
 unfold C4 at *
 split at h
 all_goals first | exact h | (obtain⟨hs,_⟩:=h; rw [hn] at hs; cases hs)
theorem do_3 (base:Nat) (st:ah) (x:StA) (N WK:Nat) (now:Int) (q:aF) (w:World) (h:xg w base st x N WK now) (hq:q.kind=3) :
 Calls Tryz.prog 96 #[.pointer (some ⟨WK,0,none⟩),bH q] w (fR base N WK (if (dA st.jobs q.name).isSome=true then 0 else 6,sD st q.name,now) w):=by
 obtain⟨W,hW⟩:∃ W,(w.alloc (.cells #[.pointer (some ⟨WK,0,none⟩)] 195)).alloc (.cells (aN q) 38)=W:=⟨_,rfl⟩
 have hbW:Below w.heap.size w W:=by rw [← hW]; exact ((Below.refl _ _).alloc (Nat.le_refl _) _).alloc (by simp) _
 have hbp:Blk W w.heap.size 195 #[.pointer (some ⟨WK,0,none⟩)]:=by rw [← hW]; exact Blk.alloc (show Blk _ _ _ _ from heap_alloc_new w _) _
 have hqb:Blk W (w.heap.size+1) 38 (aN q):=by
  rw [← hW]
  have:=heap_alloc_new (w.alloc (.cells #[.pointer (some ⟨WK,0,none⟩)] 195)) (.cells (aN q) 38)
  rwa [show (w.alloc (.cells #[.pointer (some ⟨WK,0,none⟩)] 195)).heap.size=w.heap.size+1 by simp] at this
 have hw:=h.w.below hbW
 have hk0:W.cell? ⟨w.heap.size+1,0,none⟩=some (.int .i64 3):=by rw [hqb.cell 0,← hq]; rfl
 have hD:=DK base x.aj x.nj x.cj st.jobs q.name W.drew hw.own.j.drew hw.own.lj (by have:=h.nj; omega) h.sj
 rw [show (dA st.jobs q.name).isSome=isL aC.name st.jobs q.name from (mP h.sj).symm]
 obtain⟨b,hb⟩:∃ b,isL aC.name st.jobs q.name=b:=⟨_,rfl⟩
 rw [hb] at hD ⊢
 clear hb
 obtain⟨E,hE⟩:∃ E:Int,(if b=true then (0:Int) else 6)=E:=⟨_,rfl⟩
 rw [hE]
 have HE:=hid hE
 clear hE
 have HD:=hid hD
 have HL:=hid (show W.drew.ownsRow base 32 5 (.slice x.aj x.nj x.cj) x.nj (au aI st.jobs) from hw.own.j.drew)
 have HBs:=hid (show base≤W.drew.heap.size from hw.bs)
 have HbN:=hid hw.bN
 have H:=hid h
 have H0:C2 w W base st x N WK w.heap.size (w.heap.size+1) now q (st.jobs.filter fun a=>!decide (aC.name a=q.name)) 0 ⟨none,0,0,false⟩ W.drew:=⟨hbp,hqb,hw.wk,hw.nb,(hbW.mono h.w.bs).drew,hw.own.n.drew,hw.own.l.drew,fun _=>rfl,fun _=>rfl,fun h=>absurd h (by decide)⟩
 clear hbW hbp hqb hw hD h
 unfold bH
 unfold aN at hW ⊢
 clear hq
 go_enter Tryz.func96,Tryz.ntmps96
 go_wp2_with fail
 try rw [hW]
 clear hW hk0
 refine rq 157 (C4 N WK w.heap.size (w.heap.size+1) st x now q b) [13,19] (C2 w W base st x N WK w.heap.size (w.heap.size+1) now q (st.jobs.filter fun a=>!decide (aC.name a=q.name))) ⟨none,0,0,false⟩ H0 ?_ ?_
 · refine⟨?_,?_,?_,?_,?_,?_,?_,?_,?_,?_,?_,?_,?_,?_,?_,?_,?_,?_,?_,?_,?_,trivial⟩
   · refine okQ 0 2 fun p γ a wx _ _ hp hk=>?_
     have h1:=hk.k 2 rfl
     have hc0:wx.cell? ⟨w.heap.size,0,none⟩=some (.pointer (some ⟨WK,0,none⟩)):=hp.bp.cell 0
     simp [go_sem,Oper.wp,execOp,Act.eval,h1,hc0]
     exact⟨_,rfl,γ,fun _ _ _ h=>h,rfl,hp⟩
   · exact ok1 0 2 0 61 rfl rfl (fun _ _ h=>h) fun _=>rfl
   · exact ok1 0 2 1 62 rfl rfl (fun _ _ h=>h) fun _=>rfl
   · refine okQ 0 2 fun p γ a wx _ _ hp hk=>?_
     obtain⟨u1,h1,rfl⟩:=hk.g 2 63 rfl rfl
     have hc0:wx.cell? ⟨WK,0,none⟩=some (.pointer (some ⟨N,0,none⟩)):=hp.wk.cell 0
     simp [go_sem,Oper.wp,execOp,Act.eval,h1,hc0]
     exact⟨_,rfl,γ,fun _ _ _ h=>h,rfl,hp⟩
   · refine okQ 0 2 fun p γ a wx _ _ hp hk=>?_
     have h1:=hk.k 2 rfl
     have hc0:wx.cell? ⟨w.heap.size,0,none⟩=some (.pointer (some ⟨WK,0,none⟩)):=hp.bp.cell 0
     simp [go_sem,Oper.wp,execOp,Act.eval,h1,hc0]
     exact⟨_,rfl,γ,fun _ _ _ h=>h,rfl,hp⟩
   · exact ok1 0 2 4 65 rfl rfl (fun _ _ h=>h) fun _=>rfl
   · exact ok1 0 2 5 66 rfl rfl (fun _ _ h=>h) fun _=>rfl
   · refine okQ 0 2 fun p γ a wx _ _ hp hk=>?_
     obtain⟨u1,h1,rfl⟩:=hk.g 6 67 rfl rfl
     have hc0:wx.cell? ⟨WK,0,none⟩=some (.pointer (some ⟨N,0,none⟩)):=hp.wk.cell 0
     simp [go_sem,Oper.wp,execOp,Act.eval,h1,hc0]
     exact⟨_,rfl,γ,fun _ _ _ h=>h,rfl,hp⟩
   · exact ok1 0 2 7 68 rfl rfl (fun _ _ h=>h) fun _=>rfl
   · exact ok1 0 2 8 69 rfl rfl (fun _ _ h=>h) fun _=>rfl
   · refine okQ 0 0 fun p γ a wx _ _ hp hk=>?_
     obtain⟨u1,h1,rfl⟩:=hk.g 9 70 rfl rfl
     obtain rfl:p=0:=by omega
     have hc0:wx.cell? ⟨N,1,none⟩=some (.slice x.aj x.nj x.cj):=hp.nb.cell 1
     simp [go_sem,Oper.wp,execOp,Act.eval,h1,hc0]
     exact⟨_,rfl,γ,fun _ _ _ h=>h,rfl,hp⟩
   · exact ok0 0 2 3 rfl fun _=>rfl
   · refine okQ 0 2 fun p γ a wx _ _ hp hk=>?_
     obtain⟨u1,h1,rfl⟩:=hk.g 11 72 rfl rfl
     have hc0:wx.cell? ⟨w.heap.size+1,12,none⟩=some (.string q.name):=hp.q.cell 12
     simp [go_sem,Oper.wp,execOp,Act.eval,h1,hc0]
     exact⟨_,rfl,γ,fun _ _ _ h=>h,rfl,hp⟩
   · refine .inl ⟨0,rfl,fun γ a wx hp hk=>bA rfl ?_⟩
     obtain⟨u1,h1,rfl⟩:=hk.g 10 71 rfl rfl
     obtain⟨u2,h2,rfl⟩:=hk.g 12 73 rfl rfl
     simp [go_sem,Oper.wp,execOp,Act.eval,h1,h2]
     obtain rfl:=hp.here rfl
     refine (HD.out).mono ?_
     rintro e w' ⟨A',m,c',rfl,hm,ho,hg⟩
     exact⟨_,rfl,⟨A',m,c',true⟩,fun j v hj h=>FP (hp.unset rfl) h,⟨rfl,rfl⟩,⟨Blk.gN hp.bp hg HL.out (by decide),Blk.gN hp.q hg HL.out (by decide),Blk.gN hp.wk hg HL.out (by decide),Blk.eq (Blk.gN hp.nb hg HL.out (by decide)) rfl,hp.below.trans (hg.below HBs.out (fun q hq=>(HL.out.lt q hq).1)),bJ hp.n hg HL.out (by decide),bJ hp.l hg HL.out (by decide),fun h=>absurd h (by decide),fun h=>absurd h (by decide),fun _=>⟨ho,hm⟩⟩⟩
   · refine okQ 0 2 fun p γ a wx _ _ hp hk=>?_
     obtain⟨u1,h1,hs1,rfl⟩:=hk.g 13 74 rfl rfl
     simp [go_sem,Oper.wp,execOp,Act.eval,h1]
     exact⟨_,rfl,γ,fun _ _ _ h=>h,⟨hs1,rfl⟩,hp⟩
   · refine okQ 0 2 fun p γ a wx _ _ hp hk=>?_
     obtain⟨u1,h1,hs1,rfl⟩:=hk.g 14 60 rfl rfl
     simp [go_sem,Oper.wp,execOp,Act.eval,h1]
     exact⟨_,rfl,γ,fun _ _ _ h=>h,⟨hs1,rfl⟩,hp⟩
   · refine okQ 0 2 fun p γ a wx _ _ hp hk=>?_
     obtain⟨u1,h1,hs1,rfl⟩:=hk.g 14 60 rfl rfl
     simp [go_sem,Oper.wp,execOp,Act.eval,h1]
     exact⟨_,rfl,γ,fun _ _ _ h=>h,rfl,hp⟩
   · exact ok1 0 2 3 64 rfl rfl (fun _ _ h=>h) fun _=>rfl
   · exact ok1 0 2 17 77 rfl rfl (fun _ _ h=>h) fun _=>rfl
   · refine .inl ⟨1,rfl,fun γ a wx hp hk=>bA rfl ?_⟩
     obtain⟨u1,h1,rfl⟩:=hk.g 18 78 rfl rfl
     obtain⟨u2,h2,hs2,rfl⟩:=hk.g 15 75 rfl rfl
     have hc:wx.cell? ⟨N,1,none⟩=some (.slice x.aj x.nj x.cj):=hp.nb.cell 1
     have hz:wx.frozen? ⟨N,1,none⟩=false:=hp.nb.thaw 1
     simp [go_sem,Oper.wp,execOp,Act.eval,h1,h2,hc,hz]
     exact⟨.int .i64 0,γ,fun _ _ _ h=>h,trivial,⟨aY hp.bp hp.nb (by decide),aY hp.q hp.nb (by decide),aY hp.wk hp.nb (by decide),Blk.eq (hp.nb.set 1 _) rfl,hp.below.trans (aM (Below.refl _ _) HbN.out),aR hp.n hp.nb (by decide),aR hp.l hp.nb (by decide),fun h=>absurd h (by decide),fun h=>absurd h (by decide),fun _=>⟨aR (hp.r (by decide)).1 hp.nb (by decide),(hp.r (by decide)).2⟩⟩⟩
   · exact ok1 0 2 16 76 rfl rfl (fun _ _ h=>h) fun _=>rfl
 · intro γ a wx hd
   have hp:=hd.ph
   obtain⟨fv,rfl,hfv⟩:=hd.frame [61,62,63,64,65,66,67,68,69,70,71,72,73,74,60,75,76,77,78,5] rfl
   have h5:fv 5 = .bool b:=hfv 20 _ 5 rfl rfl
   have hnb:Blk wx N 26 #[.int .i64 st.rev,.slice γ.A γ.m γ.c,.slice x.an x.nn x.cn,.slice x.al x.nl x.cl]:=hp.nb
   have hwa:mN wx base (⟨st.rev,(st.jobs.filter fun a=>!decide (aC.name a=q.name)),st.nodes,st.leases⟩:ah) ⟨γ.A,γ.m,γ.c,x.an,x.nn,x.cn,x.al,x.nl,x.cl⟩ N WK now:=⟨hnb,hp.wk,⟨(hp.r (by decide)).1,hp.n,hp.l,(hp.r (by decide)).2.symm,H.out.w.own.ln,H.out.w.own.ll⟩,H.out.w.bN,H.out.w.bW,Nat.le_trans H.out.w.bs hp.below.size⟩
   have HbX:=hid hp.below
   have b0:wx.cell? ⟨w.heap.size,0,none⟩=some (.pointer (some ⟨WK,0,none⟩)):=hp.bp.cell 0
   have hon:=hwa.own.l
   have HWO:=hid (nX (fun l=>decide (l.job=q.name)) 159 #[.pointer (some ⟨w.heap.size+1,0,none⟩)] base (⟨st.rev,(st.jobs.filter fun a=>!decide (aC.name a=q.name)),st.nodes,st.leases⟩:ah) ⟨γ.A,γ.m,γ.c,x.an,x.nn,x.cn,x.al,x.nl,x.cl⟩ N WK now wx hwa (by have:=H.out.nl; show x.nl≤999; omega) (enters_of Tryz.func159 (by kernel_rfl) rfl) (FO _ q wx _ hp.q (jw hp.q hon (by decide))))
   clear hd hp hfv hnb hwa H0 hon
   simp only [foldl_cons,foldl_nil,setIfInBounds_toArray,set_cons_succ,set_cons_zero,h5]
   clear h5
   go_wp2_with fail
   refine Calls.mono HWO.out ?_
   rintro e w5 ⟨rfl,⟨x',hwk⟩,hb5⟩
   have aP:=hid (show fR base N WK (E,sD st q.name,now) w (.returned (.int .i64 E)) w5 from ⟨rfl,HbX.out.trans hb5,fun _=>⟨x',hwk⟩⟩)
   clear hwk hb5 b0 HWO
   cases b
   · obtain rfl:(6:Int)=E:=HE.out
     go_wp2
     go_ret
     exact aP.out
   · obtain rfl:(0:Int)=E:=HE.out
     go_wp2
     go_ret
     exact aP.out
def C5 (N WK BP Q:Nat) (st:ah) (x:StA) (now:Int) (q:aF) (b:Bool) (γ:nk):Nat→Value→Prop
 | 0,u=>u = .pointer (some ⟨WK,0,none⟩)
 | 1,u=>u = .pointer (some ⟨WK,0,none⟩)
 | 2,u=>u = .pointer (some ⟨WK,0,none⟩)
 | 3,u=>u = .pointer (some ⟨N,0,none⟩)
 | 4,u=>u = .pointer (some ⟨WK,0,none⟩)
 | 5,u=>u = .pointer (some ⟨WK,0,none⟩)
 | 6,u=>u = .pointer (some ⟨WK,0,none⟩)
 | 7,u=>u = .pointer (some ⟨N,0,none⟩)
 | 8,u=>u = .pointer (some ⟨N,0,none⟩)
 | 9,u=>u = .pointer (some ⟨N,2,none⟩)
 | 10,u=>u = .slice x.an x.nn x.cn
 | 11,u=>u = .pointer (some ⟨Q,12,none⟩)
 | 12,u=>u = .string q.name
 | 13,u=>γ.s=true∧u = .tuple #[.slice γ.A γ.m γ.c,.bool b]
 | 14,u=>γ.s=true∧u = .tuple #[.slice γ.A γ.m γ.c,.bool b]
 | 15,u=>γ.s=true∧u = .slice γ.A γ.m γ.c
 | 16,u=>u = .bool b
 | 17,u=>u = .pointer (some ⟨N,0,none⟩)
 | 18,u=>u = .pointer (some ⟨N,2,none⟩)
 | 19,_=>True
 | 20,u=>u = .bool b
 | _,_=>False
theorem FQ {N WK BP Q:Nat} {st:ah} {x:StA} {now:Int} {q:aF} {b:Bool} {γ γ':nk} {j:Nat} {v:Value} (hn:γ.s=false) (h:C5 N WK BP Q st x now q b γ j v):C5 N WK BP Q st x now q b γ' j v:=by
 unfold C5 at *
 split at h
 all_goals first | exact h | (obtain⟨hs,_⟩:=h; rw [hn] at hs; cases hs)
theorem do_4 (base:Nat) (st:ah) (x:StA) (N WK:Nat) (now:Int) (q:aF) (w:World) (h:xg w base st x N WK now) (hq:q.kind=4) :
 Calls Tryz.prog 96 #[.pointer (some ⟨WK,0,none⟩),bH q] w (fR base N WK (if (dh st.nodes q.name).isSome=true then 0 else 6,sE st q.name,now) w):=by
 obtain⟨W,hW⟩:∃ W,(w.alloc (.cells #[.pointer (some ⟨WK,0,none⟩)] 195)).alloc (.cells (aN q) 38)=W:=⟨_,rfl⟩
 have hbW:Below w.heap.size w W:=by rw [← hW]; exact ((Below.refl _ _).alloc (Nat.le_refl _) _).alloc (by simp) _
 have hbp:Blk W w.heap.size 195 #[.pointer (some ⟨WK,0,none⟩)]:=by rw [← hW]; exact Blk.alloc (show Blk _ _ _ _ from heap_alloc_new w _) _
 have hqb:Blk W (w.heap.size+1) 38 (aN q):=by
  rw [← hW]
  have:=heap_alloc_new (w.alloc (.cells #[.pointer (some ⟨WK,0,none⟩)] 195)) (.cells (aN q) 38)
  rwa [show (w.alloc (.cells #[.pointer (some ⟨WK,0,none⟩)] 195)).heap.size=w.heap.size+1 by simp] at this
 have hw:=h.w.below hbW
 have hk0:W.cell? ⟨w.heap.size+1,0,none⟩=some (.int .i64 4):=by rw [hqb.cell 0,← hq]; rfl
 have hD:=Bz base x.an x.nn x.cn st.nodes q.name W.drew hw.own.n.drew hw.own.ln (by have:=h.nn; omega) h.sn
 rw [show (dh st.nodes q.name).isSome=isL aA.name st.nodes q.name from (mP h.sn).symm]
 obtain⟨b,hb⟩:∃ b,isL aA.name st.nodes q.name=b:=⟨_,rfl⟩
 rw [hb] at hD ⊢
 clear hb
 obtain⟨E,hE⟩:∃ E:Int,(if b=true then (0:Int) else 6)=E:=⟨_,rfl⟩
 rw [hE]
 have HE:=hid hE
 clear hE
 have HD:=hid hD
 have HL:=hid (show W.drew.ownsRow base 34 3 (.slice x.an x.nn x.cn) x.nn (au aB st.nodes) from hw.own.n.drew)
 have HBs:=hid (show base≤W.drew.heap.size from hw.bs)
 have HbN:=hid hw.bN
 have H:=hid h
 have H0:C3 w W base st x N WK w.heap.size (w.heap.size+1) now q (st.nodes.filter fun a=>!decide (aA.name a=q.name)) 0 ⟨none,0,0,false⟩ W.drew:=⟨hbp,hqb,hw.wk,hw.nb,(hbW.mono h.w.bs).drew,hw.own.j.drew,hw.own.l.drew,fun _=>rfl,fun _=>rfl,fun h=>absurd h (by decide)⟩
 clear hbW hbp hqb hw hD h
 unfold bH
 unfold aN at hW ⊢
 clear hq
 go_enter Tryz.func96,Tryz.ntmps96
 go_wp2_with fail
 try rw [hW]
 clear hW hk0
 refine rq 157 (C5 N WK w.heap.size (w.heap.size+1) st x now q b) [13,19] (C3 w W base st x N WK w.heap.size (w.heap.size+1) now q (st.nodes.filter fun a=>!decide (aA.name a=q.name))) ⟨none,0,0,false⟩ H0 ?_ ?_
 · refine⟨?_,?_,?_,?_,?_,?_,?_,?_,?_,?_,?_,?_,?_,?_,?_,?_,?_,?_,?_,?_,?_,trivial⟩
   · refine okQ 0 2 fun p γ a wx _ _ hp hk=>?_
     have h1:=hk.k 2 rfl
     have hc0:wx.cell? ⟨w.heap.size,0,none⟩=some (.pointer (some ⟨WK,0,none⟩)):=hp.bp.cell 0
     simp [go_sem,Oper.wp,execOp,Act.eval,h1,hc0]
     exact⟨_,rfl,γ,fun _ _ _ h=>h,rfl,hp⟩
   · exact ok1 0 2 0 85 rfl rfl (fun _ _ h=>h) fun _=>rfl
   · exact ok1 0 2 1 86 rfl rfl (fun _ _ h=>h) fun _=>rfl
   · refine okQ 0 2 fun p γ a wx _ _ hp hk=>?_
     obtain⟨u1,h1,rfl⟩:=hk.g 2 87 rfl rfl
     have hc0:wx.cell? ⟨WK,0,none⟩=some (.pointer (some ⟨N,0,none⟩)):=hp.wk.cell 0
     simp [go_sem,Oper.wp,execOp,Act.eval,h1,hc0]
     exact⟨_,rfl,γ,fun _ _ _ h=>h,rfl,hp⟩
   · refine okQ 0 2 fun p γ a wx _ _ hp hk=>?_
     have h1:=hk.k 2 rfl
     have hc0:wx.cell? ⟨w.heap.size,0,none⟩=some (.pointer (some ⟨WK,0,none⟩)):=hp.bp.cell 0
     simp [go_sem,Oper.wp,execOp,Act.eval,h1,hc0]
     exact⟨_,rfl,γ,fun _ _ _ h=>h,rfl,hp⟩
   · exact ok1 0 2 4 89 rfl rfl (fun _ _ h=>h) fun _=>rfl
   · exact ok1 0 2 5 90 rfl rfl (fun _ _ h=>h) fun _=>rfl
   · refine okQ 0 2 fun p γ a wx _ _ hp hk=>?_
     obtain⟨u1,h1,rfl⟩:=hk.g 6 91 rfl rfl
     have hc0:wx.cell? ⟨WK,0,none⟩=some (.pointer (some ⟨N,0,none⟩)):=hp.wk.cell 0
     simp [go_sem,Oper.wp,execOp,Act.eval,h1,hc0]
     exact⟨_,rfl,γ,fun _ _ _ h=>h,rfl,hp⟩
   · exact ok1 0 2 7 92 rfl rfl (fun _ _ h=>h) fun _=>rfl
   · exact ok1 0 2 8 93 rfl rfl (fun _ _ h=>h) fun _=>rfl
   · refine okQ 0 0 fun p γ a wx _ _ hp hk=>?_
     obtain⟨u1,h1,rfl⟩:=hk.g 9 94 rfl rfl
     obtain rfl:p=0:=by omega
     have hc0:wx.cell? ⟨N,2,none⟩=some (.slice x.an x.nn x.cn):=hp.nb.cell 2
     simp [go_sem,Oper.wp,execOp,Act.eval,h1,hc0]
     exact⟨_,rfl,γ,fun _ _ _ h=>h,rfl,hp⟩
   · exact ok0 0 2 3 rfl fun _=>rfl
   · refine okQ 0 2 fun p γ a wx _ _ hp hk=>?_
     obtain⟨u1,h1,rfl⟩:=hk.g 11 96 rfl rfl
     have hc0:wx.cell? ⟨w.heap.size+1,12,none⟩=some (.string q.name):=hp.q.cell 12
     simp [go_sem,Oper.wp,execOp,Act.eval,h1,hc0]
     exact⟨_,rfl,γ,fun _ _ _ h=>h,rfl,hp⟩
   · refine .inl ⟨0,rfl,fun γ a wx hp hk=>bA rfl ?_⟩
     obtain⟨u1,h1,rfl⟩:=hk.g 10 95 rfl rfl
     obtain⟨u2,h2,rfl⟩:=hk.g 12 97 rfl rfl
     simp [go_sem,Oper.wp,execOp,Act.eval,h1,h2]
     obtain rfl:=hp.here rfl
     refine (HD.out).mono ?_
     rintro e w' ⟨A',m,c',rfl,hm,ho,hg⟩
     exact⟨_,rfl,⟨A',m,c',true⟩,fun j v hj h=>FQ (hp.unset rfl) h,⟨rfl,rfl⟩,⟨Blk.gN hp.bp hg HL.out (by decide),Blk.gN hp.q hg HL.out (by decide),Blk.gN hp.wk hg HL.out (by decide),Blk.eq (Blk.gN hp.nb hg HL.out (by decide)) rfl,hp.below.trans (hg.below HBs.out (fun q hq=>(HL.out.lt q hq).1)),bJ hp.j hg HL.out (by decide),bJ hp.l hg HL.out (by decide),fun h=>absurd h (by decide),fun h=>absurd h (by decide),fun _=>⟨ho,hm⟩⟩⟩
   · refine okQ 0 2 fun p γ a wx _ _ hp hk=>?_
     obtain⟨u1,h1,hs1,rfl⟩:=hk.g 13 98 rfl rfl
     simp [go_sem,Oper.wp,execOp,Act.eval,h1]
     exact⟨_,rfl,γ,fun _ _ _ h=>h,⟨hs1,rfl⟩,hp⟩
   · refine okQ 0 2 fun p γ a wx _ _ hp hk=>?_
     obtain⟨u1,h1,hs1,rfl⟩:=hk.g 14 84 rfl rfl
     simp [go_sem,Oper.wp,execOp,Act.eval,h1]
     exact⟨_,rfl,γ,fun _ _ _ h=>h,⟨hs1,rfl⟩,hp⟩
   · refine okQ 0 2 fun p γ a wx _ _ hp hk=>?_
     obtain⟨u1,h1,hs1,rfl⟩:=hk.g 14 84 rfl rfl
     simp [go_sem,Oper.wp,execOp,Act.eval,h1]
     exact⟨_,rfl,γ,fun _ _ _ h=>h,rfl,hp⟩
   · exact ok1 0 2 3 88 rfl rfl (fun _ _ h=>h) fun _=>rfl
   · exact ok1 0 2 17 101 rfl rfl (fun _ _ h=>h) fun _=>rfl
   · refine .inl ⟨1,rfl,fun γ a wx hp hk=>bA rfl ?_⟩
     obtain⟨u1,h1,rfl⟩:=hk.g 18 102 rfl rfl
     obtain⟨u2,h2,hs2,rfl⟩:=hk.g 15 99 rfl rfl
     have hc:wx.cell? ⟨N,2,none⟩=some (.slice x.an x.nn x.cn):=hp.nb.cell 2
     have hz:wx.frozen? ⟨N,2,none⟩=false:=hp.nb.thaw 2
     simp [go_sem,Oper.wp,execOp,Act.eval,h1,h2,hc,hz]
     exact⟨.int .i64 0,γ,fun _ _ _ h=>h,trivial,⟨aY hp.bp hp.nb (by decide),aY hp.q hp.nb (by decide),aY hp.wk hp.nb (by decide),Blk.eq (hp.nb.set 2 _) rfl,hp.below.trans (aM (Below.refl _ _) HbN.out),aR hp.j hp.nb (by decide),aR hp.l hp.nb (by decide),fun h=>absurd h (by decide),fun h=>absurd h (by decide),fun _=>⟨aR (hp.r (by decide)).1 hp.nb (by decide),(hp.r (by decide)).2⟩⟩⟩
   · exact ok1 0 2 16 100 rfl rfl (fun _ _ h=>h) fun _=>rfl
 · intro γ a wx hd
   have hp:=hd.ph
   obtain⟨fv,rfl,hfv⟩:=hd.frame [85,86,87,88,89,90,91,92,93,94,95,96,97,98,84,99,100,101,102,5] rfl
   have h5:fv 5 = .bool b:=hfv 20 _ 5 rfl rfl
   have hnb:Blk wx N 26 #[.int .i64 st.rev,.slice x.aj x.nj x.cj,.slice γ.A γ.m γ.c,.slice x.al x.nl x.cl]:=hp.nb
   have hwa:mN wx base (⟨st.rev,st.jobs,(st.nodes.filter fun a=>!decide (aA.name a=q.name)),st.leases⟩:ah) ⟨x.aj,x.nj,x.cj,γ.A,γ.m,γ.c,x.al,x.nl,x.cl⟩ N WK now:=⟨hnb,hp.wk,⟨hp.j,(hp.r (by decide)).1,hp.l,H.out.w.own.lj,(hp.r (by decide)).2.symm,H.out.w.own.ll⟩,H.out.w.bN,H.out.w.bW,Nat.le_trans H.out.w.bs hp.below.size⟩
   have HbX:=hid hp.below
   have b0:wx.cell? ⟨w.heap.size,0,none⟩=some (.pointer (some ⟨WK,0,none⟩)):=hp.bp.cell 0
   have hon:=hwa.own.l
   have HWO:=hid (nX (fun l=>decide (l.node=q.name)) 161 #[.pointer (some ⟨w.heap.size+1,0,none⟩)] base (⟨st.rev,st.jobs,(st.nodes.filter fun a=>!decide (aA.name a=q.name)),st.leases⟩:ah) ⟨x.aj,x.nj,x.cj,γ.A,γ.m,γ.c,x.al,x.nl,x.cl⟩ N WK now wx hwa (by have:=H.out.nl; show x.nl≤999; omega) (enters_of Tryz.func161 (by kernel_rfl) rfl) (DT _ q wx _ hp.q (jw hp.q hon (by decide))))
   clear hd hp hfv hnb hwa H0 hon
   simp only [foldl_cons,foldl_nil,setIfInBounds_toArray,set_cons_succ,set_cons_zero,h5]
   clear h5
   go_wp2_with fail
   refine Calls.mono HWO.out ?_
   rintro e w5 ⟨rfl,⟨x',hwk⟩,hb5⟩
   have aP:=hid (show fR base N WK (E,sE st q.name,now) w (.returned (.int .i64 E)) w5 from ⟨rfl,HbX.out.trans hb5,fun _=>⟨x',hwk⟩⟩)
   clear hwk hb5 b0 HWO
   cases b
   · obtain rfl:(6:Int)=E:=HE.out
     go_wp2
     go_ret
     exact aP.out
   · obtain rfl:(0:Int)=E:=HE.out
     go_wp2
     go_ret
     exact aP.out
def C6 (N WK BP Q:Nat) (st:ah) (x:StA) (now:Int) (q:aF) (b:Bool) (γ:nk):Nat→Value→Prop
 | 0,u=>u = .pointer (some ⟨WK,0,none⟩)
 | 1,u=>u = .pointer (some ⟨WK,0,none⟩)
 | 2,u=>u = .pointer (some ⟨WK,0,none⟩)
 | 3,u=>u = .pointer (some ⟨N,0,none⟩)
 | 4,u=>u = .pointer (some ⟨WK,0,none⟩)
 | 5,u=>u = .pointer (some ⟨WK,0,none⟩)
 | 6,u=>u = .pointer (some ⟨WK,0,none⟩)
 | 7,u=>u = .pointer (some ⟨N,0,none⟩)
 | 8,u=>u = .pointer (some ⟨N,0,none⟩)
 | 9,u=>u = .pointer (some ⟨N,3,none⟩)
 | 10,u=>u = .slice x.al x.nl x.cl
 | 11,u=>u = .pointer (some ⟨Q,12,none⟩)
 | 12,u=>u = .string q.name
 | 13,u=>γ.s=true∧u = .tuple #[.slice γ.A γ.m γ.c,.bool b]
 | 14,u=>γ.s=true∧u = .tuple #[.slice γ.A γ.m γ.c,.bool b]
 | 15,u=>γ.s=true∧u = .slice γ.A γ.m γ.c
 | 16,u=>u = .bool b
 | 17,u=>u = .pointer (some ⟨N,0,none⟩)
 | 18,u=>u = .pointer (some ⟨N,3,none⟩)
 | 19,_=>True
 | 20,u=>u = .bool b
 | _,_=>False
theorem FR {N WK BP Q:Nat} {st:ah} {x:StA} {now:Int} {q:aF} {b:Bool} {γ γ':nk} {j:Nat} {v:Value} (hn:γ.s=false) (h:C6 N WK BP Q st x now q b γ j v):C6 N WK BP Q st x now q b γ' j v:=by
 unfold C6 at *
 split at h
 all_goals first | exact h | (obtain⟨hs,_⟩:=h; rw [hn] at hs; cases hs)
theorem do_6 (base:Nat) (st:ah) (x:StA) (N WK:Nat) (now:Int) (q:aF) (w:World) (h:xg w base st x N WK now) (hq:q.kind=6) :
 Calls Tryz.prog 96 #[.pointer (some ⟨WK,0,none⟩),bH q] w (fR base N WK (if (eB st.leases q.name).isSome=true then 0 else 6,qd st q.name,now) w):=by
 obtain⟨W,hW⟩:∃ W,(w.alloc (.cells #[.pointer (some ⟨WK,0,none⟩)] 195)).alloc (.cells (aN q) 38)=W:=⟨_,rfl⟩
 have hbW:Below w.heap.size w W:=by rw [← hW]; exact ((Below.refl _ _).alloc (Nat.le_refl _) _).alloc (by simp) _
 have hbp:Blk W w.heap.size 195 #[.pointer (some ⟨WK,0,none⟩)]:=by rw [← hW]; exact Blk.alloc (show Blk _ _ _ _ from heap_alloc_new w _) _
 have hqb:Blk W (w.heap.size+1) 38 (aN q):=by
  rw [← hW]
  have:=heap_alloc_new (w.alloc (.cells #[.pointer (some ⟨WK,0,none⟩)] 195)) (.cells (aN q) 38)
  rwa [show (w.alloc (.cells #[.pointer (some ⟨WK,0,none⟩)] 195)).heap.size=w.heap.size+1 by simp] at this
 have hw:=h.w.below hbW
 have hk0:W.cell? ⟨w.heap.size+1,0,none⟩=some (.int .i64 6):=by rw [hqb.cell 0,← hq]; rfl
 have hD:=zY base x.al x.nl x.cl st.leases q.name W.drew hw.own.l.drew hw.own.ll (by have:=h.nl; omega) h.sl
 rw [show (eB st.leases q.name).isSome=isL ak.job st.leases q.name from (mP h.sl).symm]
 obtain⟨b,hb⟩:∃ b,isL ak.job st.leases q.name=b:=⟨_,rfl⟩
 rw [hb] at hD ⊢
 clear hb
 obtain⟨E,hE⟩:∃ E:Int,(if b=true then (0:Int) else 6)=E:=⟨_,rfl⟩
 rw [hE]
 have HE:=hid hE
 clear hE
 have HD:=hid hD
 have HL:=hid (show W.drew.ownsRow base 36 3 (.slice x.al x.nl x.cl) x.nl (au av st.leases) from hw.own.l.drew)
 have HBs:=hid (show base≤W.drew.heap.size from hw.bs)
 have HbN:=hid hw.bN
 have H:=hid h
 have H0:Kj w W base st x N WK w.heap.size (w.heap.size+1) now q (st.leases.filter fun a=>!decide (ak.job a=q.name)) 0 ⟨none,0,0,false⟩ W.drew:=⟨hbp,hqb,hw.wk,hw.nb,(hbW.mono h.w.bs).drew,hw.own.j.drew,hw.own.n.drew,fun _=>rfl,fun _=>rfl,fun h=>absurd h (by decide)⟩
 clear hbW hbp hqb hw hD h
 unfold bH
 unfold aN at hW ⊢
 clear hq
 go_enter Tryz.func96,Tryz.ntmps96
 go_wp2_with fail
 try rw [hW]
 clear hW hk0
 refine rq 157 (C6 N WK w.heap.size (w.heap.size+1) st x now q b) [13,19] (Kj w W base st x N WK w.heap.size (w.heap.size+1) now q (st.leases.filter fun a=>!decide (ak.job a=q.name))) ⟨none,0,0,false⟩ H0 ?_ ?_
 · refine⟨?_,?_,?_,?_,?_,?_,?_,?_,?_,?_,?_,?_,?_,?_,?_,?_,?_,?_,?_,?_,?_,trivial⟩
   · refine okQ 0 2 fun p γ a wx _ _ hp hk=>?_
     have h1:=hk.k 2 rfl
     have hc0:wx.cell? ⟨w.heap.size,0,none⟩=some (.pointer (some ⟨WK,0,none⟩)):=hp.bp.cell 0
     simp [go_sem,Oper.wp,execOp,Act.eval,h1,hc0]
     exact⟨_,rfl,γ,fun _ _ _ h=>h,rfl,hp⟩
   · exact ok1 0 2 0 115 rfl rfl (fun _ _ h=>h) fun _=>rfl
   · exact ok1 0 2 1 116 rfl rfl (fun _ _ h=>h) fun _=>rfl
   · refine okQ 0 2 fun p γ a wx _ _ hp hk=>?_
     obtain⟨u1,h1,rfl⟩:=hk.g 2 117 rfl rfl
     have hc0:wx.cell? ⟨WK,0,none⟩=some (.pointer (some ⟨N,0,none⟩)):=hp.wk.cell 0
     simp [go_sem,Oper.wp,execOp,Act.eval,h1,hc0]
     exact⟨_,rfl,γ,fun _ _ _ h=>h,rfl,hp⟩
   · refine okQ 0 2 fun p γ a wx _ _ hp hk=>?_
     have h1:=hk.k 2 rfl
     have hc0:wx.cell? ⟨w.heap.size,0,none⟩=some (.pointer (some ⟨WK,0,none⟩)):=hp.bp.cell 0
     simp [go_sem,Oper.wp,execOp,Act.eval,h1,hc0]
     exact⟨_,rfl,γ,fun _ _ _ h=>h,rfl,hp⟩
   · exact ok1 0 2 4 119 rfl rfl (fun _ _ h=>h) fun _=>rfl
   · exact ok1 0 2 5 120 rfl rfl (fun _ _ h=>h) fun _=>rfl
   · refine okQ 0 2 fun p γ a wx _ _ hp hk=>?_
     obtain⟨u1,h1,rfl⟩:=hk.g 6 121 rfl rfl
     have hc0:wx.cell? ⟨WK,0,none⟩=some (.pointer (some ⟨N,0,none⟩)):=hp.wk.cell 0
     simp [go_sem,Oper.wp,execOp,Act.eval,h1,hc0]
     exact⟨_,rfl,γ,fun _ _ _ h=>h,rfl,hp⟩
   · exact ok1 0 2 7 122 rfl rfl (fun _ _ h=>h) fun _=>rfl
   · exact ok1 0 2 8 123 rfl rfl (fun _ _ h=>h) fun _=>rfl
   · refine okQ 0 0 fun p γ a wx _ _ hp hk=>?_
     obtain⟨u1,h1,rfl⟩:=hk.g 9 124 rfl rfl
     obtain rfl:p=0:=by omega
     have hc0:wx.cell? ⟨N,3,none⟩=some (.slice x.al x.nl x.cl):=hp.nb.cell 3
     simp [go_sem,Oper.wp,execOp,Act.eval,h1,hc0]
     exact⟨_,rfl,γ,fun _ _ _ h=>h,rfl,hp⟩
   · exact ok0 0 2 3 rfl fun _=>rfl
   · refine okQ 0 2 fun p γ a wx _ _ hp hk=>?_
     obtain⟨u1,h1,rfl⟩:=hk.g 11 126 rfl rfl
     have hc0:wx.cell? ⟨w.heap.size+1,12,none⟩=some (.string q.name):=hp.q.cell 12
     simp [go_sem,Oper.wp,execOp,Act.eval,h1,hc0]
     exact⟨_,rfl,γ,fun _ _ _ h=>h,rfl,hp⟩
   · refine .inl ⟨0,rfl,fun γ a wx hp hk=>bA rfl ?_⟩
     obtain⟨u1,h1,rfl⟩:=hk.g 10 125 rfl rfl
     obtain⟨u2,h2,rfl⟩:=hk.g 12 127 rfl rfl
     simp [go_sem,Oper.wp,execOp,Act.eval,h1,h2]
     obtain rfl:=hp.here rfl
     refine (HD.out).mono ?_
     rintro e w' ⟨A',m,c',rfl,hm,ho,hg⟩
     exact⟨_,rfl,⟨A',m,c',true⟩,fun j v hj h=>FR (hp.unset rfl) h,⟨rfl,rfl⟩,⟨Blk.gN hp.bp hg HL.out (by decide),Blk.gN hp.q hg HL.out (by decide),Blk.gN hp.wk hg HL.out (by decide),Blk.eq (Blk.gN hp.nb hg HL.out (by decide)) rfl,hp.below.trans (hg.below HBs.out (fun q hq=>(HL.out.lt q hq).1)),bJ hp.j hg HL.out (by decide),bJ hp.n hg HL.out (by decide),fun h=>absurd h (by decide),fun h=>absurd h (by decide),fun _=>⟨ho,hm⟩⟩⟩
   · refine okQ 0 2 fun p γ a wx _ _ hp hk=>?_
     obtain⟨u1,h1,hs1,rfl⟩:=hk.g 13 128 rfl rfl
     simp [go_sem,Oper.wp,execOp,Act.eval,h1]
     exact⟨_,rfl,γ,fun _ _ _ h=>h,⟨hs1,rfl⟩,hp⟩
   · refine okQ 0 2 fun p γ a wx _ _ hp hk=>?_
     obtain⟨u1,h1,hs1,rfl⟩:=hk.g 14 114 rfl rfl
     simp [go_sem,Oper.wp,execOp,Act.eval,h1]
     exact⟨_,rfl,γ,fun _ _ _ h=>h,⟨hs1,rfl⟩,hp⟩
   · refine okQ 0 2 fun p γ a wx _ _ hp hk=>?_
     obtain⟨u1,h1,hs1,rfl⟩:=hk.g 14 114 rfl rfl
     simp [go_sem,Oper.wp,execOp,Act.eval,h1]
     exact⟨_,rfl,γ,fun _ _ _ h=>h,rfl,hp⟩
   · exact ok1 0 2 3 118 rfl rfl (fun _ _ h=>h) fun _=>rfl
   · exact ok1 0 2 17 131 rfl rfl (fun _ _ h=>h) fun _=>rfl
   · refine .inl ⟨1,rfl,fun γ a wx hp hk=>bA rfl ?_⟩
     obtain⟨u1,h1,rfl⟩:=hk.g 18 132 rfl rfl
     obtain⟨u2,h2,hs2,rfl⟩:=hk.g 15 129 rfl rfl
     have hc:wx.cell? ⟨N,3,none⟩=some (.slice x.al x.nl x.cl):=hp.nb.cell 3
     have hz:wx.frozen? ⟨N,3,none⟩=false:=hp.nb.thaw 3
     simp [go_sem,Oper.wp,execOp,Act.eval,h1,h2,hc,hz]
     exact⟨.int .i64 0,γ,fun _ _ _ h=>h,trivial,⟨aY hp.bp hp.nb (by decide),aY hp.q hp.nb (by decide),aY hp.wk hp.nb (by decide),Blk.eq (hp.nb.set 3 _) rfl,hp.below.trans (aM (Below.refl _ _) HbN.out),aR hp.j hp.nb (by decide),aR hp.n hp.nb (by decide),fun h=>absurd h (by decide),fun h=>absurd h (by decide),fun _=>⟨aR (hp.r (by decide)).1 hp.nb (by decide),(hp.r (by decide)).2⟩⟩⟩
   · exact ok1 0 2 16 130 rfl rfl (fun _ _ h=>h) fun _=>rfl
 · intro γ a wx hd
   have hp:=hd.ph
   obtain⟨fv,rfl,hfv⟩:=hd.frame [115,116,117,118,119,120,121,122,123,124,125,126,127,128,114,129,130,131,132,5] rfl
   have h5:fv 5 = .bool b:=hfv 20 _ 5 rfl rfl
   have hnb:Blk wx N 26 #[.int .i64 st.rev,.slice x.aj x.nj x.cj,.slice x.an x.nn x.cn,.slice γ.A γ.m γ.c]:=hp.nb
   have hwa:mN wx base (qd st q.name) ⟨x.aj,x.nj,x.cj,x.an,x.nn,x.cn,γ.A,γ.m,γ.c⟩ N WK now:=⟨hnb,hp.wk,⟨hp.j,hp.n,(hp.r (by decide)).1,H.out.w.own.lj,H.out.w.own.ln,(hp.r (by decide)).2.symm⟩,H.out.w.bN,H.out.w.bW,Nat.le_trans H.out.w.bs hp.below.size⟩
   have HbX:=hid hp.below
   have b0:wx.cell? ⟨w.heap.size,0,none⟩=some (.pointer (some ⟨WK,0,none⟩)):=hp.bp.cell 0
   have aP:=hid (show fR base N WK (E,qd st q.name,now) w (.returned (.int .i64 E)) wx from ⟨rfl,HbX.out,fun _=>⟨_,hwa⟩⟩)
   clear hd hp hfv hnb hwa H0
   simp only [foldl_cons,foldl_nil,setIfInBounds_toArray,set_cons_succ,set_cons_zero,h5]
   clear h5
   cases b
   · obtain rfl:(6:Int)=E:=HE.out
     go_wp2
     go_ret
     exact aP.out
   · obtain rfl:(0:Int)=E:=HE.out
     go_wp2
     go_ret
     exact aP.out
end Go.Proofs.YtbllgmociapjeaaGreatDoor
