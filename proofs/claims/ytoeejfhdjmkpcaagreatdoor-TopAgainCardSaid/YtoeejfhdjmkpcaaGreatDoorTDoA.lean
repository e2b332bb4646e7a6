/- Of the proof of a statement: DoA, RcA. -/
import Derived.Test.YtoeejfhdjmkpcaaGreatDoorTDelFunc
import Derived.Test.YtoeejfhdjmkpcaaGreatDoorTPlSrv
set_option linter.unusedVariables false
set_option linter.unusedSimpArgs false
set_option maxRecDepth 100000
set_option maxHeartbeats 8000000
/- (*work).do: what its kinds need; the kinds that put. -/
namespace Go.Proofs.YtoeejfhdjmkpcaaGreatDoor
open Go.Lib (hid)
open List (foldl_cons foldl_nil setIfInBounds_toArray set_cons_succ set_cons_zero)
open Go.RowKit
def aB (q:aH):Array Value:=#[.int .i64 q.kind,.string q.job.name,.int .i64 q.job.prio,.int .i64 q.job.need,.int .i64 q.job.tries,.string q.job.tag,.string q.node.name,.int .i64 q.node.room,.string q.node.zone,.string q.lease.job,.string q.lease.node,.int .i64 q.lease.till,.string q.name,.int .i64 q.n]
def bP (q:aH):Value:=.agg (aB q)
abbrev mg (q:aH):Array Value:=#[.int .i64 q.kind,.string q.job.name,.int .i64 q.job.prio,.int .i64 q.job.need,.int .i64 q.job.tries,.string q.job.tag,.string q.node.name,.int .i64 q.node.room,.string q.node.zone,.string q.lease.job,.string q.lease.node,.int .i64 q.lease.till,.string q.name,.int .i64 q.n]
def fK (base:Nat) (N WK:Nat) (R:Int × ah × Int) (w:World) (e:Ending) (w':World):Prop:=
 e = .returned (.int .i64 R.1)∧Below base w w'∧(R.1=0→∃ x',lQ w' base R.2.1 x' N WK R.2.2)
theorem StOwn.at2 {w:World} {base:Nat} {st:ah} {x:StA} (h:StOwn w base st x) (bj:x.nj≤1000) (bn:x.nn≤1000) (bl:x.nl≤1000) (oj:lB st.jobs) (on_:jR st.nodes) (ol:iS st.leases):StAt w w.heap.size st x:=
 ⟨cS h.j,cS h.n,cS h.l,h.lj,h.ln,h.ll,by omega,by omega,by omega,oj,on_,ol⟩
def rT (base:Nat) (w:World):Prop:=∀ W,Below base w W→Tabs W
theorem rT.next {base:Nat} {w w':World} (h:rT base w) (hb:Below base w w'):rT base w':=fun W hW=>h W (hb.trans hW)
theorem pX {α:Type} {key:α→ByteArray} {l:List α} {x z:α} (h:z ∈ hM key l x):z=x∨z ∈ l:=by
 unfold hM at h
 rw [gM] at h
 rcases h with h | h
 · exact .inl h.2
 · exact .inr h.1
structure Bt (w W:World) (base:Nat) (st:ah) (x:StA) (N WK BP Q:Nat) (now:Int) (q:aH) (ls:List aD) (p:Nat) (γ:mh) (wx:World):Prop where
 bp:Blk wx BP 111 #[.pointer (some ⟨WK,0,none⟩)]
 q:Blk wx Q 40 (aB q)
 wk:Blk wx WK 114 #[.pointer (some ⟨N,0,none⟩),.int .i64 now]
 nb:Blk wx N 26 #[.int .i64 st.rev,if p<2 then .slice x.aj x.nj x.cj else .slice γ.A γ.m γ.c,.slice x.an x.nn x.cn,.slice x.al x.nl x.cl]
 below:Below base w wx
 n:wx.ownsRow base 36 3 (.slice x.an x.nn x.cn) x.nn (au aC st.nodes)
 l:wx.ownsRow base 38 3 (.slice x.al x.nl x.cl) x.nl (au av st.leases)
 here:p=0→wx=W.drew
 unset:p=0→γ.s=false
 r:0<p→wx.ownsRow base 34 5 (.slice γ.A γ.m γ.c) γ.m (au aL ls)∧γ.m=ls.length
structure Bu (w W:World) (base:Nat) (st:ah) (x:StA) (N WK BP Q:Nat) (now:Int) (q:aH) (ls:List aA) (p:Nat) (γ:mh) (wx:World):Prop where
 bp:Blk wx BP 111 #[.pointer (some ⟨WK,0,none⟩)]
 q:Blk wx Q 40 (aB q)
 wk:Blk wx WK 114 #[.pointer (some ⟨N,0,none⟩),.int .i64 now]
 nb:Blk wx N 26 #[.int .i64 st.rev,.slice x.aj x.nj x.cj,if p<2 then .slice x.an x.nn x.cn else .slice γ.A γ.m γ.c,.slice x.al x.nl x.cl]
 below:Below base w wx
 j:wx.ownsRow base 34 5 (.slice x.aj x.nj x.cj) x.nj (au aL st.jobs)
 l:wx.ownsRow base 38 3 (.slice x.al x.nl x.cl) x.nl (au av st.leases)
 here:p=0→wx=W.drew
 unset:p=0→γ.s=false
 r:0<p→wx.ownsRow base 36 3 (.slice γ.A γ.m γ.c) γ.m (au aC ls)∧γ.m=ls.length
structure G3 (w W:World) (base:Nat) (st:ah) (x:StA) (N WK BP Q:Nat) (now:Int) (q:aH) (ls:List ak) (p:Nat) (γ:mh) (wx:World):Prop where
 bp:Blk wx BP 111 #[.pointer (some ⟨WK,0,none⟩)]
 q:Blk wx Q 40 (aB q)
 wk:Blk wx WK 114 #[.pointer (some ⟨N,0,none⟩),.int .i64 now]
 nb:Blk wx N 26 #[.int .i64 st.rev,.slice x.aj x.nj x.cj,.slice x.an x.nn x.cn,if p<2 then .slice x.al x.nl x.cl else .slice γ.A γ.m γ.c]
 below:Below base w wx
 j:wx.ownsRow base 34 5 (.slice x.aj x.nj x.cj) x.nj (au aL st.jobs)
 n:wx.ownsRow base 36 3 (.slice x.an x.nn x.cn) x.nn (au aC st.nodes)
 here:p=0→wx=W.drew
 unset:p=0→γ.s=false
 r:0<p→wx.ownsRow base 38 3 (.slice γ.A γ.m γ.c) γ.m (au av ls)∧γ.m=ls.length
def FM (N WK BP Q:Nat) (st:ah) (x:StA) (now:Int) (q:aH) (γ:mh):Nat→Value→Prop
 | 0,u=>u = .pointer (some ⟨WK,0,none⟩)
 | 1,u=>u = .pointer (some ⟨WK,0,none⟩)
 | 2,u=>u = .pointer (some ⟨WK,0,none⟩)
 | 3,u=>u = .pointer (some ⟨N,0,none⟩)
 | 4,u=>u = .pointer (some ⟨WK,0,none⟩)
 | 5,u=>u = .pointer (some ⟨WK,0,none⟩)
 | 6,u=>u = .pointer (some ⟨WK,0,none⟩)
 | 7,u=>u = .pointer (some ⟨N,0,none⟩)
 | 8,u=>u = .pointer (some ⟨N,0,none⟩)
 | 9,u=>u = .pointer (some ⟨N,1,none⟩)
 | 10,u=>u = .slice x.aj x.nj x.cj
 | 11,u=>u = .pointer (some ⟨Q,1,none⟩)
 | 12,u=>u = .agg #[.string q.job.name,.int .i64 q.job.prio,.int .i64 q.job.need,.int .i64 q.job.tries,.string q.job.tag]
 | 13,u=>γ.s=true∧u = .slice γ.A γ.m γ.c
 | 14,u=>u = .pointer (some ⟨N,0,none⟩)
 | 15,u=>u = .pointer (some ⟨N,1,none⟩)
 | 16,_=>True
 | _,_=>False
theorem FN {N WK BP Q:Nat} {st:ah} {x:StA} {now:Int} {q:aH} {γ γ':mh} {j:Nat} {v:Value} (hn:γ.s=false) (h:FM N WK BP Q st x now q γ j v):FM N WK BP Q st x now q γ' j v:=by
 unfold FM at *
 split at h
 all_goals first | exact h | (obtain⟨hs,_⟩:=h; rw [hn] at hs; cases hs)
structure vg (w:World) (base:Nat) (st:ah) (x:StA) (N WK:Nat) (now:Int):Prop where
 w:lQ w base st x N WK now
 nj:x.nj≤40
 nn:x.nn≤40
 nl:x.nl≤40
 oj:lB st.jobs
 on_:jR st.nodes
 ol:iS st.leases
 sj:bE aD.name st.jobs
 sn:bE aA.name st.nodes
 sl:bE ak.job st.leases
theorem do_1 (base:Nat) (st:ah) (x:StA) (N WK:Nat) (now:Int) (q:aH) (w:World) (h:vg w base st x N WK now) (hq:q.kind=1) (hok:q.job.name.size≤9223372036854775807∧q.job.tag.size≤9223372036854775807) (hT:rT base w) :
 Calls Tryz.prog 45 #[.pointer (some ⟨WK,0,none⟩),bP q] w (fK base N WK (aG (iR st q.job),iR st q.job,now) w):=by
 obtain⟨W,hW⟩:∃ W,(w.alloc (.cells #[.pointer (some ⟨WK,0,none⟩)] 111)).alloc (.cells (aB q) 40)=W:=⟨_,rfl⟩
 have hbW:Below w.heap.size w W:=by rw [← hW]; exact ((Below.refl _ _).alloc (Nat.le_refl _) _).alloc (by simp) _
 have hbp:Blk W w.heap.size 111 #[.pointer (some ⟨WK,0,none⟩)]:=by rw [← hW]; exact Blk.alloc (show Blk _ _ _ _ from heap_alloc_new w _) _
 have hqb:Blk W (w.heap.size+1) 40 (aB q):=by
  rw [← hW]
  have:=heap_alloc_new (w.alloc (.cells #[.pointer (some ⟨WK,0,none⟩)] 111)) (.cells (aB q) 40)
  rwa [show (w.alloc (.cells #[.pointer (some ⟨WK,0,none⟩)] 111)).heap.size=w.heap.size+1 by simp] at this
 have hw:=h.w.below hbW
 have hk0:W.cell? ⟨w.heap.size+1,0,none⟩=some (.int .i64 1):=by rw [hqb.cell 0,← hq]; rfl
 have HD:=hid (DK base x.aj x.nj x.cj st.jobs q.job W.drew hw.own.j.drew hw.own.lj (by have:=h.nj; omega) h.sj hw.bs)
 have HL:=hid (show W.drew.ownsRow base 34 5 (.slice x.aj x.nj x.cj) x.nj (au aL st.jobs) from hw.own.j.drew)
 have HBs:=hid (show base≤W.drew.heap.size from hw.bs)
 have HbN:=hid hw.bN
 have H:=hid h
 have HbW:=hid (hbW.mono h.w.bs)
 have HT:=hid hT
 have H0:Bt w W base st x N WK w.heap.size (w.heap.size+1) now q (hM aD.name st.jobs q.job) 0 ⟨none,0,0,false⟩ W.drew:=⟨hbp,hqb,hw.wk,hw.nb,(hbW.mono h.w.bs).drew,hw.own.n.drew,hw.own.l.drew,fun _=>rfl,fun _=>rfl,fun h=>absurd h (by decide)⟩
 clear hbW hbp hqb hw hT
 unfold bP
 unfold aB at hW ⊢
 clear hq
 go_enter Tryz.func45,Tryz.ntmps45
 go_wp2_with fail
 try rw [hW]
 clear hW hk0
 refine gQ (n:=157) (by kernel_rfl) (FM N WK w.heap.size (w.heap.size+1) st x now q) [13,16] (Bt w W base st x N WK w.heap.size (w.heap.size+1) now q (hM aD.name st.jobs q.job)) ⟨none,0,0,false⟩ (by decide +kernel) (by decide +kernel) rfl H0 ?_ ?_
 · refine⟨?_,?_,?_,?_,?_,?_,?_,?_,?_,?_,?_,?_,?_,?_,?_,?_,?_,trivial⟩
   · refine okP 0 2 fun p γ a wx hpl hph hp hk=>?_
     have h1:=hk.k 2 rfl
     have hc0:wx.cell? ⟨w.heap.size,0,none⟩=some (.pointer (some ⟨WK,0,none⟩)):=hp.bp.cell 0
     simp [go_sem,Oper.wp,execOp,Act.eval,h1,hc0]
     exact⟨_,rfl,rfl,hp⟩
   · refine okP 0 2 fun p γ a wx hpl hph hp hk=>?_
     obtain⟨u1,h1,rfl⟩:=hk.g 0 10 rfl rfl
     simp [go_sem,Oper.wp,execOp,Act.eval,h1]
     exact⟨_,rfl,rfl,hp⟩
   · refine okP 0 2 fun p γ a wx hpl hph hp hk=>?_
     obtain⟨u1,h1,rfl⟩:=hk.g 1 11 rfl rfl
     simp [go_sem,Oper.wp,execOp,Act.eval,h1]
     exact⟨_,rfl,rfl,hp⟩
   · refine okP 0 2 fun p γ a wx hpl hph hp hk=>?_
     obtain⟨u1,h1,rfl⟩:=hk.g 2 12 rfl rfl
     have hc0:wx.cell? ⟨WK,0,none⟩=some (.pointer (some ⟨N,0,none⟩)):=hp.wk.cell 0
     simp [go_sem,Oper.wp,execOp,Act.eval,h1,hc0]
     exact⟨_,rfl,rfl,hp⟩
   · refine okP 0 2 fun p γ a wx hpl hph hp hk=>?_
     have h1:=hk.k 2 rfl
     have hc0:wx.cell? ⟨w.heap.size,0,none⟩=some (.pointer (some ⟨WK,0,none⟩)):=hp.bp.cell 0
     simp [go_sem,Oper.wp,execOp,Act.eval,h1,hc0]
     exact⟨_,rfl,rfl,hp⟩
   · refine okP 0 2 fun p γ a wx hpl hph hp hk=>?_
     obtain⟨u1,h1,rfl⟩:=hk.g 4 14 rfl rfl
     simp [go_sem,Oper.wp,execOp,Act.eval,h1]
     exact⟨_,rfl,rfl,hp⟩
   · refine okP 0 2 fun p γ a wx hpl hph hp hk=>?_
     obtain⟨u1,h1,rfl⟩:=hk.g 5 15 rfl rfl
     simp [go_sem,Oper.wp,execOp,Act.eval,h1]
     exact⟨_,rfl,rfl,hp⟩
   · refine okP 0 2 fun p γ a wx hpl hph hp hk=>?_
     obtain⟨u1,h1,rfl⟩:=hk.g 6 16 rfl rfl
     have hc0:wx.cell? ⟨WK,0,none⟩=some (.pointer (some ⟨N,0,none⟩)):=hp.wk.cell 0
     simp [go_sem,Oper.wp,execOp,Act.eval,h1,hc0]
     exact⟨_,rfl,rfl,hp⟩
   · refine okP 0 2 fun p γ a wx hpl hph hp hk=>?_
     obtain⟨u1,h1,rfl⟩:=hk.g 7 17 rfl rfl
     simp [go_sem,Oper.wp,execOp,Act.eval,h1]
     exact⟨_,rfl,rfl,hp⟩
   · refine okP 0 2 fun p γ a wx hpl hph hp hk=>?_
     obtain⟨u1,h1,rfl⟩:=hk.g 8 18 rfl rfl
     simp [go_sem,Oper.wp,execOp,Act.eval,h1]
     exact⟨_,rfl,rfl,hp⟩
   · refine okP 0 0 fun p γ a wx hpl hph hp hk=>?_
     obtain⟨u1,h1,rfl⟩:=hk.g 9 19 rfl rfl
     obtain rfl:p=0:=by omega
     have hc0:wx.cell? ⟨N,1,none⟩=some (.slice x.aj x.nj x.cj):=hp.nb.cell 1
     simp [go_sem,Oper.wp,execOp,Act.eval,h1,hc0]
     exact⟨_,rfl,rfl,hp⟩
   · refine okP 0 2 fun p γ a wx hpl hph hp hk=>?_
     have h1:=hk.k 3 rfl
     simp [go_sem,Oper.wp,execOp,Act.eval,h1]
     exact⟨_,rfl,rfl,hp⟩
   · refine okP 0 2 fun p γ a wx hpl hph hp hk=>?_
     obtain⟨u1,h1,rfl⟩:=hk.g 11 21 rfl rfl
     have hc0:wx.cell? ⟨w.heap.size+1,1,none⟩=some (.string q.job.name):=hp.q.cell 1
     have hc1:wx.cell? ⟨w.heap.size+1,2,none⟩=some (.int .i64 q.job.prio):=hp.q.cell 2
     have hc2:wx.cell? ⟨w.heap.size+1,3,none⟩=some (.int .i64 q.job.need):=hp.q.cell 3
     have hc3:wx.cell? ⟨w.heap.size+1,4,none⟩=some (.int .i64 q.job.tries):=hp.q.cell 4
     have hc4:wx.cell? ⟨w.heap.size+1,5,none⟩=some (.string q.job.tag):=hp.q.cell 5
     simp [go_sem,Oper.wp,execOp,Act.eval,h1,hc0,hc1,hc2,hc3,hc4]
     exact⟨_,rfl,rfl,hp⟩
   · refine⟨rfl,.inl ⟨0,rfl,fun γ a wx hp hk=>?_⟩⟩
     obtain⟨u1,h1,rfl⟩:=hk.g 10 20 rfl rfl
     obtain⟨u2,h2,rfl⟩:=hk.g 12 22 rfl rfl
     simp [go_sem,Oper.wp,execOp,Act.eval,h1,h2]
     obtain rfl:=hp.here rfl
     refine (HD.out).mono ?_
     rintro e w' ⟨A',m,c',rfl,hm,ho,hg⟩
     exact⟨_,rfl,⟨A',m,c',true⟩,fun j v hj h=>FN (hp.unset rfl) h,⟨rfl,rfl⟩,⟨Blk.gE hp.bp hg HL.out (by decide),Blk.gE hp.q hg HL.out (by decide),Blk.gE hp.wk hg HL.out (by decide),Blk.eq (Blk.gE hp.nb hg HL.out (by decide)) rfl,hp.below.trans (hg.below HBs.out (fun q hq=>(HL.out.lt q hq).1)),bJ hp.n hg HL.out (by decide),bJ hp.l hg HL.out (by decide),fun h=>absurd h (by decide),fun h=>absurd h (by decide),fun _=>⟨ho,hm⟩⟩⟩
   · refine okP 0 2 fun p γ a wx hpl hph hp hk=>?_
     obtain⟨u1,h1,rfl⟩:=hk.g 3 13 rfl rfl
     simp [go_sem,Oper.wp,execOp,Act.eval,h1]
     exact⟨_,rfl,rfl,hp⟩
   · refine okP 0 2 fun p γ a wx hpl hph hp hk=>?_
     obtain⟨u1,h1,rfl⟩:=hk.g 14 24 rfl rfl
     simp [go_sem,Oper.wp,execOp,Act.eval,h1]
     exact⟨_,rfl,rfl,hp⟩
   · refine⟨rfl,.inl ⟨1,rfl,fun γ a wx hp hk=>?_⟩⟩
     obtain⟨u1,h1,rfl⟩:=hk.g 15 25 rfl rfl
     obtain⟨u2,h2,hs2,rfl⟩:=hk.g 13 23 rfl rfl
     have hc:wx.cell? ⟨N,1,none⟩=some (.slice x.aj x.nj x.cj):=hp.nb.cell 1
     have hz:wx.frozen? ⟨N,1,none⟩=false:=hp.nb.thaw 1
     simp [go_sem,Oper.wp,execOp,Act.eval,h1,h2,hc,hz]
     exact⟨.int .i64 0,γ,fun _ _ _ h=>h,trivial,⟨aY hp.bp hp.nb (by decide),aY hp.q hp.nb (by decide),aY hp.wk hp.nb (by decide),Blk.eq (hp.nb.set 1 _) rfl,hp.below.trans (aN (Below.refl _ _) HbN.out),aP hp.n hp.nb (by decide),aP hp.l hp.nb (by decide),fun h=>absurd h (by decide),fun h=>absurd h (by decide),fun _=>⟨aP (hp.r (by decide)).1 hp.nb (by decide),(hp.r (by decide)).2⟩⟩⟩
 · intro γ a wx hd
   have hp:=hd.ph
   obtain⟨fv,rfl,hfv⟩:=hd.frame [10,11,12,13,14,15,16,17,18,19,20,21,22,23,24,25] rfl
   have hnb:Blk wx N 26 #[.int .i64 st.rev,.slice γ.A γ.m γ.c,.slice x.an x.nn x.cn,.slice x.al x.nl x.cl]:=hp.nb
   have hwa:lQ wx base (iR st q.job) ⟨γ.A,γ.m,γ.c,x.an,x.nn,x.cn,x.al,x.nl,x.cl⟩ N WK now:=⟨hnb,hp.wk,⟨(hp.r (by decide)).1,hp.n,hp.l,(hp.r (by decide)).2.symm,H.out.w.own.ln,H.out.w.own.ll⟩,H.out.w.bN,H.out.w.bW,Nat.le_trans H.out.w.bs hp.below.size⟩
   have hlen:=(hp.r (by decide)).2
   have pU:=mZ (key:=aD.name) (x:=q.job) H.out.sj
   have HC:=hid (show Calls Tryz.prog 37 #[.agg #[.int .i64 st.rev,.slice γ.A γ.m γ.c,.slice x.an x.nn x.cn,.slice x.al x.nl x.cl]] wx _ from l9 (iR st q.job) ⟨γ.A,γ.m,γ.c,x.an,x.nn,x.cn,x.al,x.nl,x.cl⟩ wx (hwa.own.at2 (by have:=H.out.w.own.lj; have:=H.out.nj; show γ.m≤1000; omega) (by have:=H.out.nn; show x.nn≤1000; omega) (by have:=H.out.nl; show x.nl≤1000; omega) (fun z hz=>(pX hz).elim (fun e=>by rw [e]; exact hok) (H.out.oj z)) (H.out.on_) H.out.ol) (HT.out _ hp.below))
   have HwA:=hid hwa
   have HbX:=hid hp.below
   have b0:wx.cell? ⟨w.heap.size,0,none⟩=some (.pointer (some ⟨WK,0,none⟩)):=hp.bp.cell 0
   have b1:wx.cell? ⟨WK,0,none⟩=some (.pointer (some ⟨N,0,none⟩)):=hp.wk.cell 0
   obtain⟨n0,n1,n2,n3⟩:=Blk.c4 (hnb)
   have hNl:=hnb.lt
   clear hd hp hfv hnb hwa hlen pU H0
   simp only [foldl_cons,foldl_nil,setIfInBounds_toArray,set_cons_succ,set_cons_zero]
   go_wp2_with fail
   refine Calls.mono HC.out ?_
   rintro e w5 ⟨rfl,hb5⟩
   have aR:=hid (show fK base N WK (aG (iR st q.job),iR st q.job,now) w (.returned (.int .i64 (aG (iR st q.job)))) w5 from ⟨rfl,HbX.out.trans (hb5.mono (Nat.le_trans H.out.w.bs HbX.out.size)),fun _=>⟨_,HwA.out.below hb5⟩⟩)
   clear hb5 b0 b1 n0 n1 n2 n3 HC
   go_wp2
   go_ret
   exact aR.out
def FO (N WK BP Q:Nat) (st:ah) (x:StA) (now:Int) (q:aH) (γ:mh):Nat→Value→Prop
 | 0,u=>u = .pointer (some ⟨WK,0,none⟩)
 | 1,u=>u = .pointer (some ⟨WK,0,none⟩)
 | 2,u=>u = .pointer (some ⟨WK,0,none⟩)
 | 3,u=>u = .pointer (some ⟨N,0,none⟩)
 | 4,u=>u = .pointer (some ⟨WK,0,none⟩)
 | 5,u=>u = .pointer (some ⟨WK,0,none⟩)
 | 6,u=>u = .pointer (some ⟨WK,0,none⟩)
 | 7,u=>u = .pointer (some ⟨N,0,none⟩)
 | 8,u=>u = .pointer (some ⟨N,0,none⟩)
 | 9,u=>u = .pointer (some ⟨N,2,none⟩)
 | 10,u=>u = .slice x.an x.nn x.cn
 | 11,u=>u = .pointer (some ⟨Q,6,none⟩)
 | 12,u=>u = .agg #[.string q.node.name,.int .i64 q.node.room,.string q.node.zone]
 | 13,u=>γ.s=true∧u = .slice γ.A γ.m γ.c
 | 14,u=>u = .pointer (some ⟨N,0,none⟩)
 | 15,u=>u = .pointer (some ⟨N,2,none⟩)
 | 16,_=>True
 | _,_=>False
theorem FP {N WK BP Q:Nat} {st:ah} {x:StA} {now:Int} {q:aH} {γ γ':mh} {j:Nat} {v:Value} (hn:γ.s=false) (h:FO N WK BP Q st x now q γ j v):FO N WK BP Q st x now q γ' j v:=by
 unfold FO at *
 split at h
 all_goals first | exact h | (obtain⟨hs,_⟩:=h; rw [hn] at hs; cases hs)
theorem do_2 (base:Nat) (st:ah) (x:StA) (N WK:Nat) (now:Int) (q:aH) (w:World) (h:vg w base st x N WK now) (hq:q.kind=2) (hok:q.node.name.size≤9223372036854775807∧q.node.zone.size≤9223372036854775807) (hT:rT base w) :
 Calls Tryz.prog 45 #[.pointer (some ⟨WK,0,none⟩),bP q] w (fK base N WK (aG (je st q.node),je st q.node,now) w):=by
 obtain⟨W,hW⟩:∃ W,(w.alloc (.cells #[.pointer (some ⟨WK,0,none⟩)] 111)).alloc (.cells (aB q) 40)=W:=⟨_,rfl⟩
 have hbW:Below w.heap.size w W:=by rw [← hW]; exact ((Below.refl _ _).alloc (Nat.le_refl _) _).alloc (by simp) _
 have hbp:Blk W w.heap.size 111 #[.pointer (some ⟨WK,0,none⟩)]:=by rw [← hW]; exact Blk.alloc (show Blk _ _ _ _ from heap_alloc_new w _) _
 have hqb:Blk W (w.heap.size+1) 40 (aB q):=by
  rw [← hW]
  have:=heap_alloc_new (w.alloc (.cells #[.pointer (some ⟨WK,0,none⟩)] 111)) (.cells (aB q) 40)
  rwa [show (w.alloc (.cells #[.pointer (some ⟨WK,0,none⟩)] 111)).heap.size=w.heap.size+1 by simp] at this
 have hw:=h.w.below hbW
 have hk0:W.cell? ⟨w.heap.size+1,0,none⟩=some (.int .i64 2):=by rw [hqb.cell 0,← hq]; rfl
 have HD:=hid (B2 base x.an x.nn x.cn st.nodes q.node W.drew hw.own.n.drew hw.own.ln (by have:=h.nn; omega) h.sn hw.bs)
 have HL:=hid (show W.drew.ownsRow base 36 3 (.slice x.an x.nn x.cn) x.nn (au aC st.nodes) from hw.own.n.drew)
 have HBs:=hid (show base≤W.drew.heap.size from hw.bs)
 have HbN:=hid hw.bN
 have H:=hid h
 have HbW:=hid (hbW.mono h.w.bs)
 have HT:=hid hT
 have H0:Bu w W base st x N WK w.heap.size (w.heap.size+1) now q (hM aA.name st.nodes q.node) 0 ⟨none,0,0,false⟩ W.drew:=⟨hbp,hqb,hw.wk,hw.nb,(hbW.mono h.w.bs).drew,hw.own.j.drew,hw.own.l.drew,fun _=>rfl,fun _=>rfl,fun h=>absurd h (by decide)⟩
 clear hbW hbp hqb hw hT
 unfold bP
 unfold aB at hW ⊢
 clear hq
 go_enter Tryz.func45,Tryz.ntmps45
 go_wp2_with fail
 try rw [hW]
 clear hW hk0
 refine gQ (n:=157) (by kernel_rfl) (FO N WK w.heap.size (w.heap.size+1) st x now q) [13,16] (Bu w W base st x N WK w.heap.size (w.heap.size+1) now q (hM aA.name st.nodes q.node)) ⟨none,0,0,false⟩ (by decide +kernel) (by decide +kernel) rfl H0 ?_ ?_
 · refine⟨?_,?_,?_,?_,?_,?_,?_,?_,?_,?_,?_,?_,?_,?_,?_,?_,?_,trivial⟩
   · refine okP 0 2 fun p γ a wx hpl hph hp hk=>?_
     have h1:=hk.k 2 rfl
     have hc0:wx.cell? ⟨w.heap.size,0,none⟩=some (.pointer (some ⟨WK,0,none⟩)):=hp.bp.cell 0
     simp [go_sem,Oper.wp,execOp,Act.eval,h1,hc0]
     exact⟨_,rfl,rfl,hp⟩
   · refine okP 0 2 fun p γ a wx hpl hph hp hk=>?_
     obtain⟨u1,h1,rfl⟩:=hk.g 0 35 rfl rfl
     simp [go_sem,Oper.wp,execOp,Act.eval,h1]
     exact⟨_,rfl,rfl,hp⟩
   · refine okP 0 2 fun p γ a wx hpl hph hp hk=>?_
     obtain⟨u1,h1,rfl⟩:=hk.g 1 36 rfl rfl
     simp [go_sem,Oper.wp,execOp,Act.eval,h1]
     exact⟨_,rfl,rfl,hp⟩
   · refine okP 0 2 fun p γ a wx hpl hph hp hk=>?_
     obtain⟨u1,h1,rfl⟩:=hk.g 2 37 rfl rfl
     have hc0:wx.cell? ⟨WK,0,none⟩=some (.pointer (some ⟨N,0,none⟩)):=hp.wk.cell 0
     simp [go_sem,Oper.wp,execOp,Act.eval,h1,hc0]
     exact⟨_,rfl,rfl,hp⟩
   · refine okP 0 2 fun p γ a wx hpl hph hp hk=>?_
     have h1:=hk.k 2 rfl
     have hc0:wx.cell? ⟨w.heap.size,0,none⟩=some (.pointer (some ⟨WK,0,none⟩)):=hp.bp.cell 0
     simp [go_sem,Oper.wp,execOp,Act.eval,h1,hc0]
     exact⟨_,rfl,rfl,hp⟩
   · refine okP 0 2 fun p γ a wx hpl hph hp hk=>?_
     obtain⟨u1,h1,rfl⟩:=hk.g 4 39 rfl rfl
     simp [go_sem,Oper.wp,execOp,Act.eval,h1]
     exact⟨_,rfl,rfl,hp⟩
   · refine okP 0 2 fun p γ a wx hpl hph hp hk=>?_
     obtain⟨u1,h1,rfl⟩:=hk.g 5 40 rfl rfl
     simp [go_sem,Oper.wp,execOp,Act.eval,h1]
     exact⟨_,rfl,rfl,hp⟩
   · refine okP 0 2 fun p γ a wx hpl hph hp hk=>?_
     obtain⟨u1,h1,rfl⟩:=hk.g 6 41 rfl rfl
     have hc0:wx.cell? ⟨WK,0,none⟩=some (.pointer (some ⟨N,0,none⟩)):=hp.wk.cell 0
     simp [go_sem,Oper.wp,execOp,Act.eval,h1,hc0]
     exact⟨_,rfl,rfl,hp⟩
   · refine okP 0 2 fun p γ a wx hpl hph hp hk=>?_
     obtain⟨u1,h1,rfl⟩:=hk.g 7 42 rfl rfl
     simp [go_sem,Oper.wp,execOp,Act.eval,h1]
     exact⟨_,rfl,rfl,hp⟩
   · refine okP 0 2 fun p γ a wx hpl hph hp hk=>?_
     obtain⟨u1,h1,rfl⟩:=hk.g 8 43 rfl rfl
     simp [go_sem,Oper.wp,execOp,Act.eval,h1]
     exact⟨_,rfl,rfl,hp⟩
   · refine okP 0 0 fun p γ a wx hpl hph hp hk=>?_
     obtain⟨u1,h1,rfl⟩:=hk.g 9 44 rfl rfl
     obtain rfl:p=0:=by omega
     have hc0:wx.cell? ⟨N,2,none⟩=some (.slice x.an x.nn x.cn):=hp.nb.cell 2
     simp [go_sem,Oper.wp,execOp,Act.eval,h1,hc0]
     exact⟨_,rfl,rfl,hp⟩
   · refine okP 0 2 fun p γ a wx hpl hph hp hk=>?_
     have h1:=hk.k 3 rfl
     simp [go_sem,Oper.wp,execOp,Act.eval,h1]
     exact⟨_,rfl,rfl,hp⟩
   · refine okP 0 2 fun p γ a wx hpl hph hp hk=>?_
     obtain⟨u1,h1,rfl⟩:=hk.g 11 46 rfl rfl
     have hc0:wx.cell? ⟨w.heap.size+1,6,none⟩=some (.string q.node.name):=hp.q.cell 6
     have hc1:wx.cell? ⟨w.heap.size+1,7,none⟩=some (.int .i64 q.node.room):=hp.q.cell 7
     have hc2:wx.cell? ⟨w.heap.size+1,8,none⟩=some (.string q.node.zone):=hp.q.cell 8
     simp [go_sem,Oper.wp,execOp,Act.eval,h1,hc0,hc1,hc2]
     exact⟨_,rfl,rfl,hp⟩
   · refine⟨rfl,.inl ⟨0,rfl,fun γ a wx hp hk=>?_⟩⟩
     obtain⟨u1,h1,rfl⟩:=hk.g 10 45 rfl rfl
     obtain⟨u2,h2,rfl⟩:=hk.g 12 47 rfl rfl
     simp [go_sem,Oper.wp,execOp,Act.eval,h1,h2]
     obtain rfl:=hp.here rfl
     refine (HD.out).mono ?_
     rintro e w' ⟨A',m,c',rfl,hm,ho,hg⟩
     exact⟨_,rfl,⟨A',m,c',true⟩,fun j v hj h=>FP (hp.unset rfl) h,⟨rfl,rfl⟩,⟨Blk.gE hp.bp hg HL.out (by decide),Blk.gE hp.q hg HL.out (by decide),Blk.gE hp.wk hg HL.out (by decide),Blk.eq (Blk.gE hp.nb hg HL.out (by decide)) rfl,hp.below.trans (hg.below HBs.out (fun q hq=>(HL.out.lt q hq).1)),bJ hp.j hg HL.out (by decide),bJ hp.l hg HL.out (by decide),fun h=>absurd h (by decide),fun h=>absurd h (by decide),fun _=>⟨ho,hm⟩⟩⟩
   · refine okP 0 2 fun p γ a wx hpl hph hp hk=>?_
     obtain⟨u1,h1,rfl⟩:=hk.g 3 38 rfl rfl
     simp [go_sem,Oper.wp,execOp,Act.eval,h1]
     exact⟨_,rfl,rfl,hp⟩
   · refine okP 0 2 fun p γ a wx hpl hph hp hk=>?_
     obtain⟨u1,h1,rfl⟩:=hk.g 14 49 rfl rfl
     simp [go_sem,Oper.wp,execOp,Act.eval,h1]
     exact⟨_,rfl,rfl,hp⟩
   · refine⟨rfl,.inl ⟨1,rfl,fun γ a wx hp hk=>?_⟩⟩
     obtain⟨u1,h1,rfl⟩:=hk.g 15 50 rfl rfl
     obtain⟨u2,h2,hs2,rfl⟩:=hk.g 13 48 rfl rfl
     have hc:wx.cell? ⟨N,2,none⟩=some (.slice x.an x.nn x.cn):=hp.nb.cell 2
     have hz:wx.frozen? ⟨N,2,none⟩=false:=hp.nb.thaw 2
     simp [go_sem,Oper.wp,execOp,Act.eval,h1,h2,hc,hz]
     exact⟨.int .i64 0,γ,fun _ _ _ h=>h,trivial,⟨aY hp.bp hp.nb (by decide),aY hp.q hp.nb (by decide),aY hp.wk hp.nb (by decide),Blk.eq (hp.nb.set 2 _) rfl,hp.below.trans (aN (Below.refl _ _) HbN.out),aP hp.j hp.nb (by decide),aP hp.l hp.nb (by decide),fun h=>absurd h (by decide),fun h=>absurd h (by decide),fun _=>⟨aP (hp.r (by decide)).1 hp.nb (by decide),(hp.r (by decide)).2⟩⟩⟩
 · intro γ a wx hd
   have hp:=hd.ph
   obtain⟨fv,rfl,hfv⟩:=hd.frame [35,36,37,38,39,40,41,42,43,44,45,46,47,48,49,50] rfl
   have hnb:Blk wx N 26 #[.int .i64 st.rev,.slice x.aj x.nj x.cj,.slice γ.A γ.m γ.c,.slice x.al x.nl x.cl]:=hp.nb
   have hwa:lQ wx base (je st q.node) ⟨x.aj,x.nj,x.cj,γ.A,γ.m,γ.c,x.al,x.nl,x.cl⟩ N WK now:=⟨hnb,hp.wk,⟨hp.j,(hp.r (by decide)).1,hp.l,H.out.w.own.lj,(hp.r (by decide)).2.symm,H.out.w.own.ll⟩,H.out.w.bN,H.out.w.bW,Nat.le_trans H.out.w.bs hp.below.size⟩
   have hlen:=(hp.r (by decide)).2
   have pU:=mZ (key:=aA.name) (x:=q.node) H.out.sn
   have HC:=hid (show Calls Tryz.prog 37 #[.agg #[.int .i64 st.rev,.slice x.aj x.nj x.cj,.slice γ.A γ.m γ.c,.slice x.al x.nl x.cl]] wx _ from l9 (je st q.node) ⟨x.aj,x.nj,x.cj,γ.A,γ.m,γ.c,x.al,x.nl,x.cl⟩ wx (hwa.own.at2 (by have:=H.out.nj; show x.nj≤1000; omega) (by have:=H.out.w.own.ln; have:=H.out.nn; show γ.m≤1000; omega) (by have:=H.out.nl; show x.nl≤1000; omega) (H.out.oj) (fun z hz=>(pX hz).elim (fun e=>by rw [e]; exact hok) (H.out.on_ z)) H.out.ol) (HT.out _ hp.below))
   have HwA:=hid hwa
   have HbX:=hid hp.below
   have b0:wx.cell? ⟨w.heap.size,0,none⟩=some (.pointer (some ⟨WK,0,none⟩)):=hp.bp.cell 0
   have b1:wx.cell? ⟨WK,0,none⟩=some (.pointer (some ⟨N,0,none⟩)):=hp.wk.cell 0
   obtain⟨n0,n1,n2,n3⟩:=Blk.c4 (hnb)
   have hNl:=hnb.lt
   clear hd hp hfv hnb hwa hlen pU H0
   simp only [foldl_cons,foldl_nil,setIfInBounds_toArray,set_cons_succ,set_cons_zero]
   go_wp2_with fail
   refine Calls.mono HC.out ?_
   rintro e w5 ⟨rfl,hb5⟩
   have aR:=hid (show fK base N WK (aG (je st q.node),je st q.node,now) w (.returned (.int .i64 (aG (je st q.node)))) w5 from ⟨rfl,HbX.out.trans (hb5.mono (Nat.le_trans H.out.w.bs HbX.out.size)),fun _=>⟨_,HwA.out.below hb5⟩⟩)
   clear hb5 b0 b1 n0 n1 n2 n3 HC
   go_wp2
   go_ret
   exact aR.out
end Go.Proofs.YtoeejfhdjmkpcaaGreatDoor
/- req.partOf: the part of a request that its kind names; the parts' into; req.whole: a request with its kind's part alone. -/
namespace Go.Proofs.YtoeejfhdjmkpcaaGreatDoor
open Go.Lib (hid)
open List (foldl_cons foldl_nil setIfInBounds_toArray set_cons_succ set_cons_zero)
open Go.RowKit
def kL (T t:TypeId) (cs:Array Value) (w:World) (e:Ending) (w':World):Prop:=
 ∃ P,e = .returned (.iface T (.pointer (some ⟨P,0,none⟩)))∧w.heap.size≤P∧Blk w' P t cs∧Below w.heap.size w w'
def ng (S:Nat) (q:aH) (w:World) (e:Ending) (w':World):Prop:=
 e = .returned (.tuple #[])∧Blk w' S 40 (aB q)∧(∀ g,g<w.heap.size→g≠S→w'.heap[g]? = w.heap[g]?)∧Below S w w'
def bq (k:Int):aH:=⟨k,bZ,aU,aI,⟨#[]⟩,0⟩
theorem zZ (q:aH) (w:World) (hq:q.kind=1):Calls Tryz.prog 133 #[bP q] w (kL 325 327 #[.string q.job.name,.int .i64 q.job.prio,.int .i64 q.job.need,.int .i64 q.job.tries,.string q.job.tag] w):=by
 obtain⟨W,hW⟩:∃ W,w.alloc (.cells (aB q) 40)=W:=⟨_,rfl⟩
 have hb:Blk W w.heap.size 40 (aB q):=by rw [← hW]; exact heap_alloc_new w _
 have hbW:Below w.heap.size w W:=by rw [← hW]; exact (Below.refl _ _).alloc (Nat.le_refl _) _
 have h0:W.cell? ⟨w.heap.size,0,none⟩=some (.int .i64 1):=by rw [hb.cell 0,← hq]; rfl
 have h1:W.cell? ⟨w.heap.size,1,none⟩=some (.string q.job.name):=hb.cell 1
 have h2:W.cell? ⟨w.heap.size,2,none⟩=some (.int .i64 q.job.prio):=hb.cell 2
 have h3:W.cell? ⟨w.heap.size,3,none⟩=some (.int .i64 q.job.need):=hb.cell 3
 have h4:W.cell? ⟨w.heap.size,4,none⟩=some (.int .i64 q.job.tries):=hb.cell 4
 have h5:W.cell? ⟨w.heap.size,5,none⟩=some (.string q.job.tag):=hb.cell 5
 have HbW:=hid hbW
 unfold bP
 unfold aB at hW ⊢
 clear hq hb hbW
 go_enter Tryz.func133,Tryz.ntmps133
 go_wp2
 try rw [hW]
 clear hW
 go_ret
 exact⟨_,rfl,HbW.out.size,heap_alloc_new W _,HbW.out.alloc HbW.out.size _⟩
theorem DS (q:aH) (P S:Nat) (w:World) (hp:Blk w P 327 #[.string q.job.name,.int .i64 q.job.prio,.int .i64 q.job.need,.int .i64 q.job.tries,.string q.job.tag]) (hs:Blk w S 40 (aB (bq q.kind))):Calls Tryz.prog 467 #[.pointer (some ⟨P,0,none⟩),.pointer (some ⟨S,0,none⟩)] w (ng S ⟨q.kind,q.job,aU,aI,⟨#[]⟩,0⟩ w):=by
 obtain⟨p0,p1,p2,p3,p4⟩:=Blk.c5 (hp)
 have s1:w.cell? ⟨S,1,none⟩=some (.string ⟨#[]⟩):=hs.cell 1
 have s2:w.cell? ⟨S,2,none⟩=some (.int .i64 0):=hs.cell 2
 have s3:w.cell? ⟨S,3,none⟩=some (.int .i64 0):=hs.cell 3
 have s4:w.cell? ⟨S,4,none⟩=some (.int .i64 0):=hs.cell 4
 have s5:w.cell? ⟨S,5,none⟩=some (.string ⟨#[]⟩):=hs.cell 5
 have z1:w.frozen? ⟨S,1,none⟩=false:=hs.thaw 1
 have z2:w.frozen? ⟨S,2,none⟩=false:=hs.thaw 2
 have z3:w.frozen? ⟨S,3,none⟩=false:=hs.thaw 3
 have z4:w.frozen? ⟨S,4,none⟩=false:=hs.thaw 4
 have z5:w.frozen? ⟨S,5,none⟩=false:=hs.thaw 5
 have hlp:=hp.lt
 have hls:=hs.lt
 have Hs:=hid hs
 clear hp hs
 go_enter Tryz.func467,Tryz.ntmps467
 go_wp2
 go_end0
 exact⟨rfl,Blk.eq (Blk.set (Blk.set (Blk.set (Blk.set (Blk.set Hs.out 1 _) 2 _) 3 _) 4 _) 5 _) rfl,fun g hg hne=>(Below.heap_setCell _ ⟨S,5,none⟩ _ g hne).trans ((Below.heap_setCell _ ⟨S,4,none⟩ _ g hne).trans ((Below.heap_setCell _ ⟨S,3,none⟩ _ g hne).trans ((Below.heap_setCell _ ⟨S,2,none⟩ _ g hne).trans ((Below.heap_setCell _ ⟨S,1,none⟩ _ g hne).trans (rfl))))),aN (aN (aN (aN (aN (Below.refl _ _) (Nat.le_refl _)) (Nat.le_refl _)) (Nat.le_refl _)) (Nat.le_refl _)) (Nat.le_refl _)⟩
theorem If (q:aH) (w:World) (hq:q.kind=2):Calls Tryz.prog 133 #[bP q] w (kL 328 330 #[.string q.node.name,.int .i64 q.node.room,.string q.node.zone] w):=by
 obtain⟨W,hW⟩:∃ W,w.alloc (.cells (aB q) 40)=W:=⟨_,rfl⟩
 have hb:Blk W w.heap.size 40 (aB q):=by rw [← hW]; exact heap_alloc_new w _
 have hbW:Below w.heap.size w W:=by rw [← hW]; exact (Below.refl _ _).alloc (Nat.le_refl _) _
 have h0:W.cell? ⟨w.heap.size,0,none⟩=some (.int .i64 2):=by rw [hb.cell 0,← hq]; rfl
 have h6:W.cell? ⟨w.heap.size,6,none⟩=some (.string q.node.name):=hb.cell 6
 have h7:W.cell? ⟨w.heap.size,7,none⟩=some (.int .i64 q.node.room):=hb.cell 7
 have h8:W.cell? ⟨w.heap.size,8,none⟩=some (.string q.node.zone):=hb.cell 8
 have HbW:=hid hbW
 unfold bP
 unfold aB at hW ⊢
 clear hq hb hbW
 go_enter Tryz.func133,Tryz.ntmps133
 go_wp2
 try rw [hW]
 clear hW
 go_ret
 exact⟨_,rfl,HbW.out.size,heap_alloc_new W _,HbW.out.alloc HbW.out.size _⟩
theorem B8 (q:aH) (P S:Nat) (w:World) (hp:Blk w P 330 #[.string q.node.name,.int .i64 q.node.room,.string q.node.zone]) (hs:Blk w S 40 (aB (bq q.kind))):Calls Tryz.prog 471 #[.pointer (some ⟨P,0,none⟩),.pointer (some ⟨S,0,none⟩)] w (ng S ⟨q.kind,bZ,q.node,aI,⟨#[]⟩,0⟩ w):=by
 have p0:w.cell? ⟨P,0,none⟩=some (.string q.node.name):=hp.cell 0
 have p1:w.cell? ⟨P,1,none⟩=some (.int .i64 q.node.room):=hp.cell 1
 have p2:w.cell? ⟨P,2,none⟩=some (.string q.node.zone):=hp.cell 2
 have s6:w.cell? ⟨S,6,none⟩=some (.string ⟨#[]⟩):=hs.cell 6
 have s7:w.cell? ⟨S,7,none⟩=some (.int .i64 0):=hs.cell 7
 have s8:w.cell? ⟨S,8,none⟩=some (.string ⟨#[]⟩):=hs.cell 8
 have z6:w.frozen? ⟨S,6,none⟩=false:=hs.thaw 6
 have z7:w.frozen? ⟨S,7,none⟩=false:=hs.thaw 7
 have z8:w.frozen? ⟨S,8,none⟩=false:=hs.thaw 8
 have hlp:=hp.lt
 have hls:=hs.lt
 have Hs:=hid hs
 clear hp hs
 go_enter Tryz.func471,Tryz.ntmps471
 go_wp2
 go_end0
 exact⟨rfl,Blk.eq (Blk.set (Blk.set (Blk.set Hs.out 6 _) 7 _) 8 _) rfl,fun g hg hne=>(Below.heap_setCell _ ⟨S,8,none⟩ _ g hne).trans ((Below.heap_setCell _ ⟨S,7,none⟩ _ g hne).trans ((Below.heap_setCell _ ⟨S,6,none⟩ _ g hne).trans (rfl))),aN (aN (aN (Below.refl _ _) (Nat.le_refl _)) (Nat.le_refl _)) (Nat.le_refl _)⟩
theorem Ig (q:aH) (w:World) (hq:q.kind=5):Calls Tryz.prog 133 #[bP q] w (kL 331 333 #[.string q.lease.job,.string q.lease.node,.int .i64 q.lease.till] w):=by
 obtain⟨W,hW⟩:∃ W,w.alloc (.cells (aB q) 40)=W:=⟨_,rfl⟩
 have hb:Blk W w.heap.size 40 (aB q):=by rw [← hW]; exact heap_alloc_new w _
 have hbW:Below w.heap.size w W:=by rw [← hW]; exact (Below.refl _ _).alloc (Nat.le_refl _) _
 have h0:W.cell? ⟨w.heap.size,0,none⟩=some (.int .i64 5):=by rw [hb.cell 0,← hq]; rfl
 have h9:W.cell? ⟨w.heap.size,9,none⟩=some (.string q.lease.job):=hb.cell 9
 have h10:W.cell? ⟨w.heap.size,10,none⟩=some (.string q.lease.node):=hb.cell 10
 have h11:W.cell? ⟨w.heap.size,11,none⟩=some (.int .i64 q.lease.till):=hb.cell 11
 have HbW:=hid hbW
 unfold bP
 unfold aB at hW ⊢
 clear hq hb hbW
 go_enter Tryz.func133,Tryz.ntmps133
 go_wp2
 try rw [hW]
 clear hW
 go_ret
 exact⟨_,rfl,HbW.out.size,heap_alloc_new W _,HbW.out.alloc HbW.out.size _⟩
theorem Ar (q:aH) (P S:Nat) (w:World) (hp:Blk w P 333 #[.string q.lease.job,.string q.lease.node,.int .i64 q.lease.till]) (hs:Blk w S 40 (aB (bq q.kind))):Calls Tryz.prog 475 #[.pointer (some ⟨P,0,none⟩),.pointer (some ⟨S,0,none⟩)] w (ng S ⟨q.kind,bZ,aU,q.lease,⟨#[]⟩,0⟩ w):=by
 have p0:w.cell? ⟨P,0,none⟩=some (.string q.lease.job):=hp.cell 0
 have p1:w.cell? ⟨P,1,none⟩=some (.string q.lease.node):=hp.cell 1
 have p2:w.cell? ⟨P,2,none⟩=some (.int .i64 q.lease.till):=hp.cell 2
 have s9:w.cell? ⟨S,9,none⟩=some (.string ⟨#[]⟩):=hs.cell 9
 have s10:w.cell? ⟨S,10,none⟩=some (.string ⟨#[]⟩):=hs.cell 10
 have s11:w.cell? ⟨S,11,none⟩=some (.int .i64 0):=hs.cell 11
 have z9:w.frozen? ⟨S,9,none⟩=false:=hs.thaw 9
 have z10:w.frozen? ⟨S,10,none⟩=false:=hs.thaw 10
 have z11:w.frozen? ⟨S,11,none⟩=false:=hs.thaw 11
 have hlp:=hp.lt
 have hls:=hs.lt
 have Hs:=hid hs
 clear hp hs
 go_enter Tryz.func475,Tryz.ntmps475
 go_wp2
 go_end0
 exact⟨rfl,Blk.eq (Blk.set (Blk.set (Blk.set Hs.out 9 _) 10 _) 11 _) rfl,fun g hg hne=>(Below.heap_setCell _ ⟨S,11,none⟩ _ g hne).trans ((Below.heap_setCell _ ⟨S,10,none⟩ _ g hne).trans ((Below.heap_setCell _ ⟨S,9,none⟩ _ g hne).trans (rfl))),aN (aN (aN (Below.refl _ _) (Nat.le_refl _)) (Nat.le_refl _)) (Nat.le_refl _)⟩
theorem Ih (q:aH) (w:World) (hq:q.kind=3):Calls Tryz.prog 133 #[bP q] w (kL 335 334 #[.string q.name] w):=by
 obtain⟨W,hW⟩:∃ W,w.alloc (.cells (aB q) 40)=W:=⟨_,rfl⟩
 have hb:Blk W w.heap.size 40 (aB q):=by rw [← hW]; exact heap_alloc_new w _
 have hbW:Below w.heap.size w W:=by rw [← hW]; exact (Below.refl _ _).alloc (Nat.le_refl _) _
 have h0:W.cell? ⟨w.heap.size,0,none⟩=some (.int .i64 3):=by rw [hb.cell 0,← hq]; rfl
 have h12:W.cell? ⟨w.heap.size,12,none⟩=some (.string q.name):=hb.cell 12
 have HbW:=hid hbW
 unfold bP
 unfold aB at hW ⊢
 clear hq hb hbW
 go_enter Tryz.func133,Tryz.ntmps133
 go_wp2
 try rw [hW]
 clear hW
 go_ret
 exact⟨_,rfl,HbW.out.size,heap_alloc_new W _,HbW.out.alloc HbW.out.size _⟩
theorem Ii (q:aH) (w:World) (hq:q.kind=4):Calls Tryz.prog 133 #[bP q] w (kL 335 334 #[.string q.name] w):=by
 obtain⟨W,hW⟩:∃ W,w.alloc (.cells (aB q) 40)=W:=⟨_,rfl⟩
 have hb:Blk W w.heap.size 40 (aB q):=by rw [← hW]; exact heap_alloc_new w _
 have hbW:Below w.heap.size w W:=by rw [← hW]; exact (Below.refl _ _).alloc (Nat.le_refl _) _
 have h0:W.cell? ⟨w.heap.size,0,none⟩=some (.int .i64 4):=by rw [hb.cell 0,← hq]; rfl
 have h12:W.cell? ⟨w.heap.size,12,none⟩=some (.string q.name):=hb.cell 12
 have HbW:=hid hbW
 unfold bP
 unfold aB at hW ⊢
 clear hq hb hbW
 go_enter Tryz.func133,Tryz.ntmps133
 go_wp2
 try rw [hW]
 clear hW
 go_ret
 exact⟨_,rfl,HbW.out.size,heap_alloc_new W _,HbW.out.alloc HbW.out.size _⟩
theorem Ij (q:aH) (w:World) (hq:q.kind=6):Calls Tryz.prog 133 #[bP q] w (kL 335 334 #[.string q.name] w):=by
 obtain⟨W,hW⟩:∃ W,w.alloc (.cells (aB q) 40)=W:=⟨_,rfl⟩
 have hb:Blk W w.heap.size 40 (aB q):=by rw [← hW]; exact heap_alloc_new w _
 have hbW:Below w.heap.size w W:=by rw [← hW]; exact (Below.refl _ _).alloc (Nat.le_refl _) _
 have h0:W.cell? ⟨w.heap.size,0,none⟩=some (.int .i64 6):=by rw [hb.cell 0,← hq]; rfl
 have h12:W.cell? ⟨w.heap.size,12,none⟩=some (.string q.name):=hb.cell 12
 have HbW:=hid hbW
 unfold bP
 unfold aB at hW ⊢
 clear hq hb hbW
 go_enter Tryz.func133,Tryz.ntmps133
 go_wp2
 try rw [hW]
 clear hW
 go_ret
 exact⟨_,rfl,HbW.out.size,heap_alloc_new W _,HbW.out.alloc HbW.out.size _⟩
theorem B9 (q:aH) (P S:Nat) (w:World) (hp:Blk w P 334 #[.string q.name]) (hs:Blk w S 40 (aB (bq q.kind))):Calls Tryz.prog 479 #[.pointer (some ⟨P,0,none⟩),.pointer (some ⟨S,0,none⟩)] w (ng S ⟨q.kind,bZ,aU,aI,q.name,0⟩ w):=by
 have p0:w.cell? ⟨P,0,none⟩=some (.string q.name):=hp.cell 0
 have s12:w.cell? ⟨S,12,none⟩=some (.string ⟨#[]⟩):=hs.cell 12
 have z12:w.frozen? ⟨S,12,none⟩=false:=hs.thaw 12
 have hlp:=hp.lt
 have hls:=hs.lt
 have Hs:=hid hs
 clear hp hs
 go_enter Tryz.func479,Tryz.ntmps479
 go_wp2
 go_end0
 exact⟨rfl,Blk.eq (Blk.set Hs.out 12 _) rfl,fun g hg hne=>(Below.heap_setCell _ ⟨S,12,none⟩ _ g hne).trans (rfl),aN (Below.refl _ _) (Nat.le_refl _)⟩
theorem Ik (q:aH) (w:World) (hq:q.kind=7):Calls Tryz.prog 133 #[bP q] w (kL 337 336 #[.int .i64 q.n] w):=by
 obtain⟨W,hW⟩:∃ W,w.alloc (.cells (aB q) 40)=W:=⟨_,rfl⟩
 have hb:Blk W w.heap.size 40 (aB q):=by rw [← hW]; exact heap_alloc_new w _
 have hbW:Below w.heap.size w W:=by rw [← hW]; exact (Below.refl _ _).alloc (Nat.le_refl _) _
 have h0:W.cell? ⟨w.heap.size,0,none⟩=some (.int .i64 7):=by rw [hb.cell 0,← hq]; rfl
 have h13:W.cell? ⟨w.heap.size,13,none⟩=some (.int .i64 q.n):=hb.cell 13
 have HbW:=hid hbW
 unfold bP
 unfold aB at hW ⊢
 clear hq hb hbW
 go_enter Tryz.func133,Tryz.ntmps133
 go_wp2
 try rw [hW]
 clear hW
 go_ret
 exact⟨_,rfl,HbW.out.size,heap_alloc_new W _,HbW.out.alloc HbW.out.size _⟩
theorem As (q:aH) (P S:Nat) (w:World) (hp:Blk w P 336 #[.int .i64 q.n]) (hs:Blk w S 40 (aB (bq q.kind))):Calls Tryz.prog 483 #[.pointer (some ⟨P,0,none⟩),.pointer (some ⟨S,0,none⟩)] w (ng S ⟨q.kind,bZ,aU,aI,⟨#[]⟩,q.n⟩ w):=by
 have p0:w.cell? ⟨P,0,none⟩=some (.int .i64 q.n):=hp.cell 0
 have s13:w.cell? ⟨S,13,none⟩=some (.int .i64 0):=hs.cell 13
 have z13:w.frozen? ⟨S,13,none⟩=false:=hs.thaw 13
 have hlp:=hp.lt
 have hls:=hs.lt
 have Hs:=hid hs
 clear hp hs
 go_enter Tryz.func483,Tryz.ntmps483
 go_wp2
 go_end0
 exact⟨rfl,Blk.eq (Blk.set Hs.out 13 _) rfl,fun g hg hne=>(Below.heap_setCell _ ⟨S,13,none⟩ _ g hne).trans (rfl),aN (Below.refl _ _) (Nat.le_refl _)⟩
end Go.Proofs.YtoeejfhdjmkpcaaGreatDoor
