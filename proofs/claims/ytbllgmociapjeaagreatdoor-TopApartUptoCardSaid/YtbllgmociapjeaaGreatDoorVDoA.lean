/- Of the proof of a statement: DoA. -/
import Derived.Test.YtbllgmociapjeaaGreatDoorVDelFunc
import Derived.Test.YtbllgmociapjeaaGreatDoorVRowsC
set_option linter.unusedVariables false
set_option linter.unusedSimpArgs false
set_option maxRecDepth 100000
set_option maxHeartbeats 8000000
/- (*work).do: what its kinds need; the kinds that put. -/
namespace Go.Proofs.YtbllgmociapjeaaGreatDoor
open Go.Lib (hid)
open List (foldl_cons foldl_nil setIfInBounds_toArray set_cons_succ set_cons_zero)
open Go.RowKit
def aN (q:aF):Array Value:=#[.int .i64 q.kind,.string q.job.name,.int .i64 q.job.prio,.int .i64 q.job.need,.int .i64 q.job.tries,.string q.job.tag,.string q.node.name,.int .i64 q.node.room,.string q.node.zone,.string q.lease.job,.string q.lease.node,.int .i64 q.lease.till,.string q.name,.int .i64 q.n]
def bH (q:aF):Value:=.agg (aN q)
abbrev pN (q:aF):Array Value:=#[.int .i64 q.kind,.string q.job.name,.int .i64 q.job.prio,.int .i64 q.job.need,.int .i64 q.job.tries,.string q.job.tag,.string q.node.name,.int .i64 q.node.room,.string q.node.zone,.string q.lease.job,.string q.lease.node,.int .i64 q.lease.till,.string q.name,.int .i64 q.n]
def fR (base:Nat) (N WK:Nat) (R:Int × ah × Int) (w:World) (e:Ending) (w':World):Prop:=
 e = .returned (.int .i64 R.1)∧Below base w w'∧(R.1=0→∃ x',mN w' base R.2.1 x' N WK R.2.2)
theorem StOwn.at2 {w:World} {base:Nat} {st:ah} {x:StA} (h:StOwn w base st x) (bj:x.nj≤1000) (bn:x.nn≤1000) (bl:x.nl≤1000) (oj:mB st.jobs) (on_:kN st.nodes) (ol:jv st.leases):StAt w w.heap.size st x:=
 ⟨cO h.j,cO h.n,cO h.l,h.lj,h.ln,h.ll,by omega,by omega,by omega,oj,on_,ol⟩
def tL (base:Nat) (w:World):Prop:=∀ W,Below base w W→Tabs W
theorem tL.next {base:Nat} {w w':World} (h:tL base w) (hb:Below base w w'):tL base w':=fun W hW=>h W (hb.trans hW)
theorem qU {α:Type} {key:α→ByteArray} {l:List α} {x z:α} (h:z ∈ j6 key l x):z=x∨z ∈ l:=by
 unfold j6 at h
 rw [jk] at h
 rcases h with h | h
 · exact .inl h.2
 · exact .inr h.1
structure C2 (w W:World) (base:Nat) (st:ah) (x:StA) (N WK BP Q:Nat) (now:Int) (q:aF) (ls:List aC) (p:Nat) (γ:nk) (wx:World):Prop where
 bp:Blk wx BP 195 #[.pointer (some ⟨WK,0,none⟩)]
 q:Blk wx Q 38 (aN q)
 wk:Blk wx WK 198 #[.pointer (some ⟨N,0,none⟩),.int .i64 now]
 nb:Blk wx N 26 #[.int .i64 st.rev,if p<2 then .slice x.aj x.nj x.cj else .slice γ.A γ.m γ.c,.slice x.an x.nn x.cn,.slice x.al x.nl x.cl]
 below:Below base w wx
 n:wx.ownsRow base 34 3 (.slice x.an x.nn x.cn) x.nn (au aB st.nodes)
 l:wx.ownsRow base 36 3 (.slice x.al x.nl x.cl) x.nl (au av st.leases)
 here:p=0→wx=W.drew
 unset:p=0→γ.s=false
 r:0<p→wx.ownsRow base 32 5 (.slice γ.A γ.m γ.c) γ.m (au aI ls)∧γ.m=ls.length
structure C3 (w W:World) (base:Nat) (st:ah) (x:StA) (N WK BP Q:Nat) (now:Int) (q:aF) (ls:List aA) (p:Nat) (γ:nk) (wx:World):Prop where
 bp:Blk wx BP 195 #[.pointer (some ⟨WK,0,none⟩)]
 q:Blk wx Q 38 (aN q)
 wk:Blk wx WK 198 #[.pointer (some ⟨N,0,none⟩),.int .i64 now]
 nb:Blk wx N 26 #[.int .i64 st.rev,.slice x.aj x.nj x.cj,if p<2 then .slice x.an x.nn x.cn else .slice γ.A γ.m γ.c,.slice x.al x.nl x.cl]
 below:Below base w wx
 j:wx.ownsRow base 32 5 (.slice x.aj x.nj x.cj) x.nj (au aI st.jobs)
 l:wx.ownsRow base 36 3 (.slice x.al x.nl x.cl) x.nl (au av st.leases)
 here:p=0→wx=W.drew
 unset:p=0→γ.s=false
 r:0<p→wx.ownsRow base 34 3 (.slice γ.A γ.m γ.c) γ.m (au aB ls)∧γ.m=ls.length
structure Kj (w W:World) (base:Nat) (st:ah) (x:StA) (N WK BP Q:Nat) (now:Int) (q:aF) (ls:List ak) (p:Nat) (γ:nk) (wx:World):Prop where
 bp:Blk wx BP 195 #[.pointer (some ⟨WK,0,none⟩)]
 q:Blk wx Q 38 (aN q)
 wk:Blk wx WK 198 #[.pointer (some ⟨N,0,none⟩),.int .i64 now]
 nb:Blk wx N 26 #[.int .i64 st.rev,.slice x.aj x.nj x.cj,.slice x.an x.nn x.cn,if p<2 then .slice x.al x.nl x.cl else .slice γ.A γ.m γ.c]
 below:Below base w wx
 j:wx.ownsRow base 32 5 (.slice x.aj x.nj x.cj) x.nj (au aI st.jobs)
 n:wx.ownsRow base 34 3 (.slice x.an x.nn x.cn) x.nn (au aB st.nodes)
 here:p=0→wx=W.drew
 unset:p=0→γ.s=false
 r:0<p→wx.ownsRow base 36 3 (.slice γ.A γ.m γ.c) γ.m (au av ls)∧γ.m=ls.length
def IS (N WK BP Q:Nat) (st:ah) (x:StA) (now:Int) (q:aF) (γ:nk):Nat→Value→Prop
 | 0,u=>u = .pointer (some ⟨WK,0,none⟩)
 | 1,u=>u = .pointer (some ⟨WK,0,none⟩)
 | 2,u=>u = .pointer (some ⟨WK,0,none⟩)
 | 3,u=>u = .pointer (some ⟨N,0,none⟩)
 | 4,u=>u = .pointer (some ⟨WK,0,none⟩)
 | 5,u=>u = .pointer (some ⟨WK,0,none⟩)
 | 6,u=>u = .pointer (some ⟨WK,0,none⟩)
 | 7,u=>u = .pointer (some ⟨N,0,none⟩)
 | 8,u=>u = .pointer (some ⟨N,0,none⟩)
 | 9,u=>u = .pointer (some ⟨N,1,none⟩)
 | 10,u=>u = .slice x.aj x.nj x.cj
 | 11,u=>u = .pointer (some ⟨Q,1,none⟩)
 | 12,u=>u = .agg #[.string q.job.name,.int .i64 q.job.prio,.int .i64 q.job.need,.int .i64 q.job.tries,.string q.job.tag]
 | 13,u=>γ.s=true∧u = .slice γ.A γ.m γ.c
 | 14,u=>u = .pointer (some ⟨N,0,none⟩)
 | 15,u=>u = .pointer (some ⟨N,1,none⟩)
 | 16,_=>True
 | _,_=>False
theorem IT {N WK BP Q:Nat} {st:ah} {x:StA} {now:Int} {q:aF} {γ γ':nk} {j:Nat} {v:Value} (hn:γ.s=false) (h:IS N WK BP Q st x now q γ j v):IS N WK BP Q st x now q γ' j v:=by
 unfold IS at *
 split at h
 all_goals first | exact h | (obtain⟨hs,_⟩:=h; rw [hn] at hs; cases hs)
structure xg (w:World) (base:Nat) (st:ah) (x:StA) (N WK:Nat) (now:Int):Prop where
 w:mN w base st x N WK now
 nj:x.nj≤40
 nn:x.nn≤40
 nl:x.nl≤40
 oj:mB st.jobs
 on_:kN st.nodes
 ol:jv st.leases
 sj:bG aC.name st.jobs
 sn:bG aA.name st.nodes
 sl:bG ak.job st.leases
theorem do_1 (base:Nat) (st:ah) (x:StA) (N WK:Nat) (now:Int) (q:aF) (w:World) (h:xg w base st x N WK now) (hq:q.kind=1) (hok:q.job.name.size≤9223372036854775807∧q.job.tag.size≤9223372036854775807) (hT:tL base w) :
 Calls Tryz.prog 96 #[.pointer (some ⟨WK,0,none⟩),bH q] w (fR base N WK (aE (kH st q.job),kH st q.job,now) w):=by
 obtain⟨W,hW⟩:∃ W,(w.alloc (.cells #[.pointer (some ⟨WK,0,none⟩)] 195)).alloc (.cells (aN q) 38)=W:=⟨_,rfl⟩
 have hbW:Below w.heap.size w W:=by rw [← hW]; exact ((Below.refl _ _).alloc (Nat.le_refl _) _).alloc (by simp) _
 have hbp:Blk W w.heap.size 195 #[.pointer (some ⟨WK,0,none⟩)]:=by rw [← hW]; exact Blk.alloc (show Blk _ _ _ _ from heap_alloc_new w _) _
 have hqb:Blk W (w.heap.size+1) 38 (aN q):=by
  rw [← hW]
  have:=heap_alloc_new (w.alloc (.cells #[.pointer (some ⟨WK,0,none⟩)] 195)) (.cells (aN q) 38)
  rwa [show (w.alloc (.cells #[.pointer (some ⟨WK,0,none⟩)] 195)).heap.size=w.heap.size+1 by simp] at this
 have hw:=h.w.below hbW
 have hk0:W.cell? ⟨w.heap.size+1,0,none⟩=some (.int .i64 1):=by rw [hqb.cell 0,← hq]; rfl
 have HD:=hid (FF base x.aj x.nj x.cj st.jobs q.job W.drew hw.own.j.drew hw.own.lj (by have:=h.nj; omega) h.sj hw.bs)
 have HL:=hid (show W.drew.ownsRow base 32 5 (.slice x.aj x.nj x.cj) x.nj (au aI st.jobs) from hw.own.j.drew)
 have HBs:=hid (show base≤W.drew.heap.size from hw.bs)
 have HbN:=hid hw.bN
 have H:=hid h
 have HbW:=hid (hbW.mono h.w.bs)
 have HT:=hid hT
 have H0:C2 w W base st x N WK w.heap.size (w.heap.size+1) now q (j6 aC.name st.jobs q.job) 0 ⟨none,0,0,false⟩ W.drew:=⟨hbp,hqb,hw.wk,hw.nb,(hbW.mono h.w.bs).drew,hw.own.n.drew,hw.own.l.drew,fun _=>rfl,fun _=>rfl,fun h=>absurd h (by decide)⟩
 clear hbW hbp hqb hw hT
 unfold bH
 unfold aN at hW ⊢
 clear hq
 go_enter Tryz.func96,Tryz.ntmps96
 go_wp2_with fail
 try rw [hW]
 clear hW hk0
 refine gX (n:=157) (by kernel_rfl) (IS N WK w.heap.size (w.heap.size+1) st x now q) [13,16] (C2 w W base st x N WK w.heap.size (w.heap.size+1) now q (j6 aC.name st.jobs q.job)) ⟨none,0,0,false⟩ (by decide +kernel) (by decide +kernel) rfl H0 ?_ ?_
 · refine⟨?_,?_,?_,?_,?_,?_,?_,?_,?_,?_,?_,?_,?_,?_,?_,?_,?_,trivial⟩
   · refine okP 0 2 fun p γ a wx hpl hph hp hk=>?_
     have h1:=hk.k 2 rfl
     have hc0:wx.cell? ⟨w.heap.size,0,none⟩=some (.pointer (some ⟨WK,0,none⟩)):=hp.bp.cell 0
     simp [go_sem,Oper.wp,execOp,Act.eval,h1,hc0]
     exact⟨_,rfl,rfl,hp⟩
   · refine okP 0 2 fun p γ a wx hpl hph hp hk=>?_
     obtain⟨u1,h1,rfl⟩:=hk.g 0 10 rfl rfl
     simp [go_sem,Oper.wp,execOp,Act.eval,h1]
     exact⟨_,rfl,rfl,hp⟩
   · refine okP 0 2 fun p γ a wx hpl hph hp hk=>?_
     obtain⟨u1,h1,rfl⟩:=hk.g 1 11 rfl rfl
     simp [go_sem,Oper.wp,execOp,Act.eval,h1]
     exact⟨_,rfl,rfl,hp⟩
   · refine okP 0 2 fun p γ a wx hpl hph hp hk=>?_
     obtain⟨u1,h1,rfl⟩:=hk.g 2 12 rfl rfl
     have hc0:wx.cell? ⟨WK,0,none⟩=some (.pointer (some ⟨N,0,none⟩)):=hp.wk.cell 0
     simp [go_sem,Oper.wp,execOp,Act.eval,h1,hc0]
     exact⟨_,rfl,rfl,hp⟩
   · refine okP 0 2 fun p γ a wx hpl hph hp hk=>?_
     have h1:=hk.k 2 rfl
     have hc0:wx.cell? ⟨w.heap.size,0,none⟩=some (.pointer (some ⟨WK,0,none⟩)):=hp.bp.cell 0
     simp [go_sem,Oper.wp,execOp,Act.eval,h1,hc0]
     exact⟨_,rfl,rfl,hp⟩
   · refine okP 0 2 fun p γ a wx hpl hph hp hk=>?_
     obtain⟨u1,h1,rfl⟩:=hk.g 4 14 rfl rfl
     simp [go_sem,Oper.wp,execOp,Act.eval,h1]
     exact⟨_,rfl,rfl,hp⟩
   · refine okP 0 2 fun p γ a wx hpl hph hp hk=>?_
     obtain⟨u1,h1,rfl⟩:=hk.g 5 15 rfl rfl
     simp [go_sem,Oper.wp,execOp,Act.eval,h1]
     exact⟨_,rfl,rfl,hp⟩
   · refine okP 0 2 fun p γ a wx hpl hph hp hk=>?_
     obtain⟨u1,h1,rfl⟩:=hk.g 6 16 rfl rfl
     have hc0:wx.cell? ⟨WK,0,none⟩=some (.pointer (some ⟨N,0,none⟩)):=hp.wk.cell 0
     simp [go_sem,Oper.wp,execOp,Act.eval,h1,hc0]
     exact⟨_,rfl,rfl,hp⟩
   · refine okP 0 2 fun p γ a wx hpl hph hp hk=>?_
     obtain⟨u1,h1,rfl⟩:=hk.g 7 17 rfl rfl
     simp [go_sem,Oper.wp,execOp,Act.eval,h1]
     exact⟨_,rfl,rfl,hp⟩
   · refine okP 0 2 fun p γ a wx hpl hph hp hk=>?_
     obtain⟨u1,h1,rfl⟩:=hk.g 8 18 rfl rfl
     simp [go_sem,Oper.wp,execOp,Act.eval,h1]
     exact⟨_,rfl,rfl,hp⟩
   · refine okP 0 0 fun p γ a wx hpl hph hp hk=>?_
     obtain⟨u1,h1,rfl⟩:=hk.g 9 19 rfl rfl
     obtain rfl:p=0:=by omega
     have hc0:wx.cell? ⟨N,1,none⟩=some (.slice x.aj x.nj x.cj):=hp.nb.cell 1
     simp [go_sem,Oper.wp,execOp,Act.eval,h1,hc0]
     exact⟨_,rfl,rfl,hp⟩
   · refine okP 0 2 fun p γ a wx hpl hph hp hk=>?_
     have h1:=hk.k 3 rfl
     simp [go_sem,Oper.wp,execOp,Act.eval,h1]
     exact⟨_,rfl,rfl,hp⟩
   · refine okP 0 2 fun p γ a wx hpl hph hp hk=>?_
     obtain⟨u1,h1,rfl⟩:=hk.g 11 21 rfl rfl
     have hc0:wx.cell? ⟨w.heap.size+1,1,none⟩=some (.string q.job.name):=hp.q.cell 1
     have hc1:wx.cell? ⟨w.heap.size+1,2,none⟩=some (.int .i64 q.job.prio):=hp.q.cell 2
     have hc2:wx.cell? ⟨w.heap.size+1,3,none⟩=some (.int .i64 q.job.need):=hp.q.cell 3
     have hc3:wx.cell? ⟨w.heap.size+1,4,none⟩=some (.int .i64 q.job.tries):=hp.q.cell 4
     have hc4:wx.cell? ⟨w.heap.size+1,5,none⟩=some (.string q.job.tag):=hp.q.cell 5
     simp [go_sem,Oper.wp,execOp,Act.eval,h1,hc0,hc1,hc2,hc3,hc4]
     exact⟨_,rfl,rfl,hp⟩
   · refine⟨rfl,.inl ⟨0,rfl,fun γ a wx hp hk=>?_⟩⟩
     obtain⟨u1,h1,rfl⟩:=hk.g 10 20 rfl rfl
     obtain⟨u2,h2,rfl⟩:=hk.g 12 22 rfl rfl
     simp [go_sem,Oper.wp,execOp,Act.eval,h1,h2]
     obtain rfl:=hp.here rfl
     refine (HD.out).mono ?_
     rintro e w' ⟨A',m,c',rfl,hm,ho,hg⟩
     exact⟨_,rfl,⟨A',m,c',true⟩,fun j v hj h=>IT (hp.unset rfl) h,⟨rfl,rfl⟩,⟨Blk.gN hp.bp hg HL.out (by decide),Blk.gN hp.q hg HL.out (by decide),Blk.gN hp.wk hg HL.out (by decide),Blk.eq (Blk.gN hp.nb hg HL.out (by decide)) rfl,hp.below.trans (hg.below HBs.out (fun q hq=>(HL.out.lt q hq).1)),bJ hp.n hg HL.out (by decide),bJ hp.l hg HL.out (by decide),fun h=>absurd h (by decide),fun h=>absurd h (by decide),fun _=>⟨ho,hm⟩⟩⟩
   · refine okP 0 2 fun p γ a wx hpl hph hp hk=>?_
     obtain⟨u1,h1,rfl⟩:=hk.g 3 13 rfl rfl
     simp [go_sem,Oper.wp,execOp,Act.eval,h1]
     exact⟨_,rfl,rfl,hp⟩
   · refine okP 0 2 fun p γ a wx hpl hph hp hk=>?_
     obtain⟨u1,h1,rfl⟩:=hk.g 14 24 rfl rfl
     simp [go_sem,Oper.wp,execOp,Act.eval,h1]
     exact⟨_,rfl,rfl,hp⟩
   · refine⟨rfl,.inl ⟨1,rfl,fun γ a wx hp hk=>?_⟩⟩
     obtain⟨u1,h1,rfl⟩:=hk.g 15 25 rfl rfl
     obtain⟨u2,h2,hs2,rfl⟩:=hk.g 13 23 rfl rfl
     have hc:wx.cell? ⟨N,1,none⟩=some (.slice x.aj x.nj x.cj):=hp.nb.cell 1
     have hz:wx.frozen? ⟨N,1,none⟩=false:=hp.nb.thaw 1
     simp [go_sem,Oper.wp,execOp,Act.eval,h1,h2,hc,hz]
     exact⟨.int .i64 0,γ,fun _ _ _ h=>h,trivial,⟨aY hp.bp hp.nb (by decide),aY hp.q hp.nb (by decide),aY hp.wk hp.nb (by decide),Blk.eq (hp.nb.set 1 _) rfl,hp.below.trans (aM (Below.refl _ _) HbN.out),aR hp.n hp.nb (by decide),aR hp.l hp.nb (by decide),fun h=>absurd h (by decide),fun h=>absurd h (by decide),fun _=>⟨aR (hp.r (by decide)).1 hp.nb (by decide),(hp.r (by decide)).2⟩⟩⟩
 · intro γ a wx hd
   have hp:=hd.ph
   obtain⟨fv,rfl,hfv⟩:=hd.frame [10,11,12,13,14,15,16,17,18,19,20,21,22,23,24,25] rfl
   have hnb:Blk wx N 26 #[.int .i64 st.rev,.slice γ.A γ.m γ.c,.slice x.an x.nn x.cn,.slice x.al x.nl x.cl]:=hp.nb
   have hwa:mN wx base (kH st q.job) ⟨γ.A,γ.m,γ.c,x.an,x.nn,x.cn,x.al,x.nl,x.cl⟩ N WK now:=⟨hnb,hp.wk,⟨(hp.r (by decide)).1,hp.n,hp.l,(hp.r (by decide)).2.symm,H.out.w.own.ln,H.out.w.own.ll⟩,H.out.w.bN,H.out.w.bW,Nat.le_trans H.out.w.bs hp.below.size⟩
   have hlen:=(hp.r (by decide)).2
   have qR:=og (key:=aC.name) (x:=q.job) H.out.sj
   have HC:=hid (show Calls Tryz.prog 58 #[.agg #[.int .i64 st.rev,.slice γ.A γ.m γ.c,.slice x.an x.nn x.cn,.slice x.al x.nl x.cl]] wx _ from lD (kH st q.job) ⟨γ.A,γ.m,γ.c,x.an,x.nn,x.cn,x.al,x.nl,x.cl⟩ wx (hwa.own.at2 (by have:=H.out.w.own.lj; have:=H.out.nj; show γ.m≤1000; omega) (by have:=H.out.nn; show x.nn≤1000; omega) (by have:=H.out.nl; show x.nl≤1000; omega) (fun z hz=>(qU hz).elim (fun e=>by rw [e]; exact hok) (H.out.oj z)) (H.out.on_) H.out.ol) (HT.out _ hp.below))
   have HwA:=hid hwa
   have HbX:=hid hp.below
   have b0:wx.cell? ⟨w.heap.size,0,none⟩=some (.pointer (some ⟨WK,0,none⟩)):=hp.bp.cell 0
   have b1:wx.cell? ⟨WK,0,none⟩=some (.pointer (some ⟨N,0,none⟩)):=hp.wk.cell 0
   obtain⟨n0,n1,n2,n3⟩:=Blk.c4 (hnb)
   have hNl:=hnb.lt
   clear hd hp hfv hnb hwa hlen qR H0
   simp only [foldl_cons,foldl_nil,setIfInBounds_toArray,set_cons_succ,set_cons_zero]
   go_wp2_with fail
   refine Calls.mono HC.out ?_
   rintro e w5 ⟨rfl,hb5⟩
   have aP:=hid (show fR base N WK (aE (kH st q.job),kH st q.job,now) w (.returned (.int .i64 (aE (kH st q.job)))) w5 from ⟨rfl,HbX.out.trans (hb5.mono (Nat.le_trans H.out.w.bs HbX.out.size)),fun _=>⟨_,HwA.out.below hb5⟩⟩)
   clear hb5 b0 b1 n0 n1 n2 n3 HC
   go_wp2
   go_ret
   exact aP.out
def IU (N WK BP Q:Nat) (st:ah) (x:StA) (now:Int) (q:aF) (γ:nk):Nat→Value→Prop
 | 0,u=>u = .pointer (some ⟨WK,0,none⟩)
 | 1,u=>u = .pointer (some ⟨WK,0,none⟩)
 | 2,u=>u = .pointer (some ⟨WK,0,none⟩)
 | 3,u=>u = .pointer (some ⟨N,0,none⟩)
 | 4,u=>u = .pointer (some ⟨WK,0,none⟩)
 | 5,u=>u = .pointer (some ⟨WK,0,none⟩)
 | 6,u=>u = .pointer (some ⟨WK,0,none⟩)
 | 7,u=>u = .pointer (some ⟨N,0,none⟩)
 | 8,u=>u = .pointer (some ⟨N,0,none⟩)
 | 9,u=>u = .pointer (some ⟨N,2,none⟩)
 | 10,u=>u = .slice x.an x.nn x.cn
 | 11,u=>u = .pointer (some ⟨Q,6,none⟩)
 | 12,u=>u = .agg #[.string q.node.name,.int .i64 q.node.room,.string q.node.zone]
 | 13,u=>γ.s=true∧u = .slice γ.A γ.m γ.c
 | 14,u=>u = .pointer (some ⟨N,0,none⟩)
 | 15,u=>u = .pointer (some ⟨N,2,none⟩)
 | 16,_=>True
 | _,_=>False
theorem IV {N WK BP Q:Nat} {st:ah} {x:StA} {now:Int} {q:aF} {γ γ':nk} {j:Nat} {v:Value} (hn:γ.s=false) (h:IU N WK BP Q st x now q γ j v):IU N WK BP Q st x now q γ' j v:=by
 unfold IU at *
 split at h
 all_goals first | exact h | (obtain⟨hs,_⟩:=h; rw [hn] at hs; cases hs)
theorem do_2 (base:Nat) (st:ah) (x:StA) (N WK:Nat) (now:Int) (q:aF) (w:World) (h:xg w base st x N WK now) (hq:q.kind=2) (hok:q.node.name.size≤9223372036854775807∧q.node.zone.size≤9223372036854775807) (hT:tL base w) :
 Calls Tryz.prog 96 #[.pointer (some ⟨WK,0,none⟩),bH q] w (fR base N WK (aE (lL st q.node),lL st q.node,now) w):=by
 obtain⟨W,hW⟩:∃ W,(w.alloc (.cells #[.pointer (some ⟨WK,0,none⟩)] 195)).alloc (.cells (aN q) 38)=W:=⟨_,rfl⟩
 have hbW:Below w.heap.size w W:=by rw [← hW]; exact ((Below.refl _ _).alloc (Nat.le_refl _) _).alloc (by simp) _
 have hbp:Blk W w.heap.size 195 #[.pointer (some ⟨WK,0,none⟩)]:=by rw [← hW]; exact Blk.alloc (show Blk _ _ _ _ from heap_alloc_new w _) _
 have hqb:Blk W (w.heap.size+1) 38 (aN q):=by
  rw [← hW]
  have:=heap_alloc_new (w.alloc (.cells #[.pointer (some ⟨WK,0,none⟩)] 195)) (.cells (aN q) 38)
  rwa [show (w.alloc (.cells #[.pointer (some ⟨WK,0,none⟩)] 195)).heap.size=w.heap.size+1 by simp] at this
 have hw:=h.w.below hbW
 have hk0:W.cell? ⟨w.heap.size+1,0,none⟩=some (.int .i64 2):=by rw [hqb.cell 0,← hq]; rfl
 have HD:=hid (DN base x.an x.nn x.cn st.nodes q.node W.drew hw.own.n.drew hw.own.ln (by have:=h.nn; omega) h.sn hw.bs)
 have HL:=hid (show W.drew.ownsRow base 34 3 (.slice x.an x.nn x.cn) x.nn (au aB st.nodes) from hw.own.n.drew)
 have HBs:=hid (show base≤W.drew.heap.size from hw.bs)
 have HbN:=hid hw.bN
 have H:=hid h
 have HbW:=hid (hbW.mono h.w.bs)
 have HT:=hid hT
 have H0:C3 w W base st x N WK w.heap.size (w.heap.size+1) now q (j6 aA.name st.nodes q.node) 0 ⟨none,0,0,false⟩ W.drew:=⟨hbp,hqb,hw.wk,hw.nb,(hbW.mono h.w.bs).drew,hw.own.j.drew,hw.own.l.drew,fun _=>rfl,fun _=>rfl,fun h=>absurd h (by decide)⟩
 clear hbW hbp hqb hw hT
 unfold bH
 unfold aN at hW ⊢
 clear hq
 go_enter Tryz.func96,Tryz.ntmps96
 go_wp2_with fail
 try rw [hW]
 clear hW hk0
 refine gX (n:=157) (by kernel_rfl) (IU N WK w.heap.size (w.heap.size+1) st x now q) [13,16] (C3 w W base st x N WK w.heap.size (w.heap.size+1) now q (j6 aA.name st.nodes q.node)) ⟨none,0,0,false⟩ (by decide +kernel) (by decide +kernel) rfl H0 ?_ ?_
 · refine⟨?_,?_,?_,?_,?_,?_,?_,?_,?_,?_,?_,?_,?_,?_,?_,?_,?_,trivial⟩
   · refine okP 0 2 fun p γ a wx hpl hph hp hk=>?_
     have h1:=hk.k 2 rfl
     have hc0:wx.cell? ⟨w.heap.size,0,none⟩=some (.pointer (some ⟨WK,0,none⟩)):=hp.bp.cell 0
     simp [go_sem,Oper.wp,execOp,Act.eval,h1,hc0]
     exact⟨_,rfl,rfl,hp⟩
   · refine okP 0 2 fun p γ a wx hpl hph hp hk=>?_
     obtain⟨u1,h1,rfl⟩:=hk.g 0 35 rfl rfl
     simp [go_sem,Oper.wp,execOp,Act.eval,h1]
     exact⟨_,rfl,rfl,hp⟩
   · refine okP 0 2 fun p γ a wx hpl hph hp hk=>?_
     obtain⟨u1,h1,rfl⟩:=hk.g 1 36 rfl rfl
     simp [go_sem,Oper.wp,execOp,Act.eval,h1]
     exact⟨_,rfl,rfl,hp⟩
   · refine okP 0 2 fun p γ a wx hpl hph hp hk=>?_
     obtain⟨u1,h1,rfl⟩:=hk.g 2 37 rfl rfl
     have hc0:wx.cell? ⟨WK,0,none⟩=some (.pointer (some ⟨N,0,none⟩)):=hp.wk.cell 0
     simp [go_sem,Oper.wp,execOp,Act.eval,h1,hc0]
     exact⟨_,rfl,rfl,hp⟩
   · refine okP 0 2 fun p γ a wx hpl hph hp hk=>?_
     have h1:=hk.k 2 rfl
     have hc0:wx.cell? ⟨w.heap.size,0,none⟩=some (.pointer (some ⟨WK,0,none⟩)):=hp.bp.cell 0
     simp [go_sem,Oper.wp,execOp,Act.eval,h1,hc0]
     exact⟨_,rfl,rfl,hp⟩
   · refine okP 0 2 fun p γ a wx hpl hph hp hk=>?_
     obtain⟨u1,h1,rfl⟩:=hk.g 4 39 rfl rfl
     simp [go_sem,Oper.wp,execOp,Act.eval,h1]
     exact⟨_,rfl,rfl,hp⟩
   · refine okP 0 2 fun p γ a wx hpl hph hp hk=>?_
     obtain⟨u1,h1,rfl⟩:=hk.g 5 40 rfl rfl
     simp [go_sem,Oper.wp,execOp,Act.eval,h1]
     exact⟨_,rfl,rfl,hp⟩
   · refine okP 0 2 fun p γ a wx hpl hph hp hk=>?_
     obtain⟨u1,h1,rfl⟩:=hk.g 6 41 rfl rfl
     have hc0:wx.cell? ⟨WK,0,none⟩=some (.pointer (some ⟨N,0,none⟩)):=hp.wk.cell 0
     simp [go_sem,Oper.wp,execOp,Act.eval,h1,hc0]
     exact⟨_,rfl,rfl,hp⟩
   · refine okP 0 2 fun p γ a wx hpl hph hp hk=>?_
     obtain⟨u1,h1,rfl⟩:=hk.g 7 42 rfl rfl
     simp [go_sem,Oper.wp,execOp,Act.eval,h1]
     exact⟨_,rfl,rfl,hp⟩
   · refine okP 0 2 fun p γ a wx hpl hph hp hk=>?_
     obtain⟨u1,h1,rfl⟩:=hk.g 8 43 rfl rfl
     simp [go_sem,Oper.wp,execOp,Act.eval,h1]
     exact⟨_,rfl,rfl,hp⟩
   · refine okP 0 0 fun p γ a wx hpl hph hp hk=>?_
     obtain⟨u1,h1,rfl⟩:=hk.g 9 44 rfl rfl
     obtain rfl:p=0:=by omega
     have hc0:wx.cell? ⟨N,2,none⟩=some (.slice x.an x.nn x.cn):=hp.nb.cell 2
     simp [go_sem,Oper.wp,execOp,Act.eval,h1,hc0]
     exact⟨_,rfl,rfl,hp⟩
   · refine okP 0 2 fun p γ a wx hpl hph hp hk=>?_
     have h1:=hk.k 3 rfl
     simp [go_sem,Oper.wp,execOp,Act.eval,h1]
     exact⟨_,rfl,rfl,hp⟩
   · refine okP 0 2 fun p γ a wx hpl hph hp hk=>?_
     obtain⟨u1,h1,rfl⟩:=hk.g 11 46 rfl rfl
     have hc0:wx.cell? ⟨w.heap.size+1,6,none⟩=some (.string q.node.name):=hp.q.cell 6
     have hc1:wx.cell? ⟨w.heap.size+1,7,none⟩=some (.int .i64 q.node.room):=hp.q.cell 7
     have hc2:wx.cell? ⟨w.heap.size+1,8,none⟩=some (.string q.node.zone):=hp.q.cell 8
     simp [go_sem,Oper.wp,execOp,Act.eval,h1,hc0,hc1,hc2]
     exact⟨_,rfl,rfl,hp⟩
   · refine⟨rfl,.inl ⟨0,rfl,fun γ a wx hp hk=>?_⟩⟩
     obtain⟨u1,h1,rfl⟩:=hk.g 10 45 rfl rfl
     obtain⟨u2,h2,rfl⟩:=hk.g 12 47 rfl rfl
     simp [go_sem,Oper.wp,execOp,Act.eval,h1,h2]
     obtain rfl:=hp.here rfl
     refine (HD.out).mono ?_
     rintro e w' ⟨A',m,c',rfl,hm,ho,hg⟩
     exact⟨_,rfl,⟨A',m,c',true⟩,fun j v hj h=>IV (hp.unset rfl) h,⟨rfl,rfl⟩,⟨Blk.gN hp.bp hg HL.out (by decide),Blk.gN hp.q hg HL.out (by decide),Blk.gN hp.wk hg HL.out (by decide),Blk.eq (Blk.gN hp.nb hg HL.out (by decide)) rfl,hp.below.trans (hg.below HBs.out (fun q hq=>(HL.out.lt q hq).1)),bJ hp.j hg HL.out (by decide),bJ hp.l hg HL.out (by decide),fun h=>absurd h (by decide),fun h=>absurd h (by decide),fun _=>⟨ho,hm⟩⟩⟩
   · refine okP 0 2 fun p γ a wx hpl hph hp hk=>?_
     obtain⟨u1,h1,rfl⟩:=hk.g 3 38 rfl rfl
     simp [go_sem,Oper.wp,execOp,Act.eval,h1]
     exact⟨_,rfl,rfl,hp⟩
   · refine okP 0 2 fun p γ a wx hpl hph hp hk=>?_
     obtain⟨u1,h1,rfl⟩:=hk.g 14 49 rfl rfl
     simp [go_sem,Oper.wp,execOp,Act.eval,h1]
     exact⟨_,rfl,rfl,hp⟩
   · refine⟨rfl,.inl ⟨1,rfl,fun γ a wx hp hk=>?_⟩⟩
     obtain⟨u1,h1,rfl⟩:=hk.g 15 50 rfl rfl
     obtain⟨u2,h2,hs2,rfl⟩:=hk.g 13 48 rfl rfl
     have hc:wx.cell? ⟨N,2,none⟩=some (.slice x.an x.nn x.cn):=hp.nb.cell 2
     have hz:wx.frozen? ⟨N,2,none⟩=false:=hp.nb.thaw 2
     simp [go_sem,Oper.wp,execOp,Act.eval,h1,h2,hc,hz]
     exact⟨.int .i64 0,γ,fun _ _ _ h=>h,trivial,⟨aY hp.bp hp.nb (by decide),aY hp.q hp.nb (by decide),aY hp.wk hp.nb (by decide),Blk.eq (hp.nb.set 2 _) rfl,hp.below.trans (aM (Below.refl _ _) HbN.out),aR hp.j hp.nb (by decide),aR hp.l hp.nb (by decide),fun h=>absurd h (by decide),fun h=>absurd h (by decide),fun _=>⟨aR (hp.r (by decide)).1 hp.nb (by decide),(hp.r (by decide)).2⟩⟩⟩
 · intro γ a wx hd
   have hp:=hd.ph
   obtain⟨fv,rfl,hfv⟩:=hd.frame [35,36,37,38,39,40,41,42,43,44,45,46,47,48,49,50] rfl
   have hnb:Blk wx N 26 #[.int .i64 st.rev,.slice x.aj x.nj x.cj,.slice γ.A γ.m γ.c,.slice x.al x.nl x.cl]:=hp.nb
   have hwa:mN wx base (lL st q.node) ⟨x.aj,x.nj,x.cj,γ.A,γ.m,γ.c,x.al,x.nl,x.cl⟩ N WK now:=⟨hnb,hp.wk,⟨hp.j,(hp.r (by decide)).1,hp.l,H.out.w.own.lj,(hp.r (by decide)).2.symm,H.out.w.own.ll⟩,H.out.w.bN,H.out.w.bW,Nat.le_trans H.out.w.bs hp.below.size⟩
   have hlen:=(hp.r (by decide)).2
   have qR:=og (key:=aA.name) (x:=q.node) H.out.sn
   have HC:=hid (show Calls Tryz.prog 58 #[.agg #[.int .i64 st.rev,.slice x.aj x.nj x.cj,.slice γ.A γ.m γ.c,.slice x.al x.nl x.cl]] wx _ from lD (lL st q.node) ⟨x.aj,x.nj,x.cj,γ.A,γ.m,γ.c,x.al,x.nl,x.cl⟩ wx (hwa.own.at2 (by have:=H.out.nj; show x.nj≤1000; omega) (by have:=H.out.w.own.ln; have:=H.out.nn; show γ.m≤1000; omega) (by have:=H.out.nl; show x.nl≤1000; omega) (H.out.oj) (fun z hz=>(qU hz).elim (fun e=>by rw [e]; exact hok) (H.out.on_ z)) H.out.ol) (HT.out _ hp.below))
   have HwA:=hid hwa
   have HbX:=hid hp.below
   have b0:wx.cell? ⟨w.heap.size,0,none⟩=some (.pointer (some ⟨WK,0,none⟩)):=hp.bp.cell 0
   have b1:wx.cell? ⟨WK,0,none⟩=some (.pointer (some ⟨N,0,none⟩)):=hp.wk.cell 0
   obtain⟨n0,n1,n2,n3⟩:=Blk.c4 (hnb)
   have hNl:=hnb.lt
   clear hd hp hfv hnb hwa hlen qR H0
   simp only [foldl_cons,foldl_nil,setIfInBounds_toArray,set_cons_succ,set_cons_zero]
   go_wp2_with fail
   refine Calls.mono HC.out ?_
   rintro e w5 ⟨rfl,hb5⟩
   have aP:=hid (show fR base N WK (aE (lL st q.node),lL st q.node,now) w (.returned (.int .i64 (aE (lL st q.node)))) w5 from ⟨rfl,HbX.out.trans (hb5.mono (Nat.le_trans H.out.w.bs HbX.out.size)),fun _=>⟨_,HwA.out.below hb5⟩⟩)
   clear hb5 b0 b1 n0 n1 n2 n3 HC
   go_wp2
   go_ret
   exact aP.out
end Go.Proofs.YtbllgmociapjeaaGreatDoor
