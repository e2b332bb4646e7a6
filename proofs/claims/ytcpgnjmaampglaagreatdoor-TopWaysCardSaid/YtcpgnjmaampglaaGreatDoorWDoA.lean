/- Of the proof of a statement: DoA, RcA, RcB, SlEqL, Pu16. -/
import Derived.Shelf.LaysM
import Derived.Shelf.Strconv.Lower
import Derived.Lib.Strings
import Derived.Lib.Walk
import Derived.Lib.ConvBytes
import Derived.Lib.AtoiAllMem
import Derived.Lib.Hide
import Derived.Laws.Strings3
import Derived.Laws.Closers25
import Derived.Laws.Closers25b
import Derived.WalkKit
import Derived.BigCall
import Derived.BigGuard
import Derived.Test.YtcpgnjmaampglaaGreatDoorWSlEq
set_option linter.unusedVariables false
set_option linter.unusedSimpArgs false
set_option maxRecDepth 100000
set_option maxHeartbeats 8000000
/- (*work).do: what its kinds need; the kinds that put. -/
namespace Go.Proofs.YtcpgnjmaampglaaGreatDoor
open Go.Lib (hid)
open List (foldl_cons foldl_nil setIfInBounds_toArray set_cons_succ set_cons_zero)
open Go.RowKit
open Go.Shelf Go.RowKit
def eM (q:cJ):Array Value:=#[.int .i64 q.kind,.string q.job.name,.int .i64 q.job.prio,.int .i64 q.job.need,.int .i64 q.job.tries,.string q.job.tag,.string q.node.name,.int .i64 q.node.room,.string q.node.zone,.string q.lease.job,.string q.lease.node,.int .i64 q.lease.till,.string q.name,.int .i64 q.n]
def gY (q:cJ):Value:=.agg (eM q)
abbrev Ie (q:cJ):Array Value:=#[.int .i64 q.kind,.string q.job.name,.int .i64 q.job.prio,.int .i64 q.job.need,.int .i64 q.job.tries,.string q.job.tag,.string q.node.name,.int .i64 q.node.room,.string q.node.zone,.string q.lease.job,.string q.lease.node,.int .i64 q.lease.till,.string q.name,.int .i64 q.n]
def Fy (base:Nat) (N WK:Nat) (R:Int × ah × Int) (w:World) (e:Ending) (w':World):Prop:=
 e = .returned (.int .i64 R.1)∧Below base w w'∧(R.1=0→∃ x',Fz w' base R.2.1 x' N WK R.2.2)
theorem StOwn.at2 {w:World} {base:Nat} {st:ah} {x:StA} (h:StOwn w base st x) (bj:x.nj≤1000) (bn:x.nn≤1000) (bl:x.nl≤1000) (oj:nP st.jobs) (on_:kX st.nodes) (ol:ji st.leases):StAt w w.heap.size st x:=
 ⟨cD h.j,cD h.n,cD h.l,h.lj,h.ln,h.ll,by omega,by omega,by omega,oj,on_,ol⟩
def DI (base:Nat) (w:World):Prop:=∀ W,Below base w W→Tabs W
theorem DI.next {base:Nat} {w w':World} (h:DI base w) (hb:Below base w w'):DI base w':=fun W hW=>h W (hb.trans hW)
theorem KU {α:Type} {key:α→ByteArray} {l:List α} {x z:α} (h:z ∈ pK key l x):z=x∨z ∈ l:=by
 unfold pK at h
 rw [gL] at h
 rcases h with h | h
 · exact .inl h.2
 · exact .inr h.1
structure O1 (w W:World) (base:Nat) (st:ah) (x:StA) (N WK BP Q:Nat) (now:Int) (q:cJ) (ls:List aB) (p:Nat) (γ:PC) (wx:World):Prop where
 bp:Blk wx BP 276 #[.pointer (some ⟨WK,0,none⟩)]
 q:Blk wx Q 65 (eM q)
 wk:Blk wx WK 279 #[.pointer (some ⟨N,0,none⟩),.int .i64 now]
 nb:Blk wx N 26 #[.int .i64 st.rev,if p<2 then .slice x.aj x.nj x.cj else .slice γ.A γ.m γ.c,.slice x.an x.nn x.cn,.slice x.al x.nl x.cl]
 below:Below base w wx
 n:wx.ownsRow base 61 3 (.slice x.an x.nn x.cn) x.nn (au aI st.nodes)
 l:wx.ownsRow base 63 3 (.slice x.al x.nl x.cl) x.nl (au aE st.leases)
 here:p=0→wx=W.drew
 unset:p=0→γ.s=false
 r:0<p→wx.ownsRow base 59 5 (.slice γ.A γ.m γ.c) γ.m (au aH ls)∧γ.m=ls.length
def Np (N WK BP Q:Nat) (st:ah) (x:StA) (now:Int) (q:cJ) (γ:PC):Nat→Value→Prop
 | 0,u=>u = .pointer (some ⟨WK,0,none⟩)
 | 1,u=>u = .pointer (some ⟨WK,0,none⟩)
 | 2,u=>u = .pointer (some ⟨WK,0,none⟩)
 | 3,u=>u = .pointer (some ⟨N,0,none⟩)
 | 4,u=>u = .pointer (some ⟨WK,0,none⟩)
 | 5,u=>u = .pointer (some ⟨WK,0,none⟩)
 | 6,u=>u = .pointer (some ⟨WK,0,none⟩)
 | 7,u=>u = .pointer (some ⟨N,0,none⟩)
 | 8,u=>u = .pointer (some ⟨N,0,none⟩)
 | 9,u=>u = .pointer (some ⟨N,1,none⟩)
 | 10,u=>u = .slice x.aj x.nj x.cj
 | 11,u=>u = .pointer (some ⟨Q,1,none⟩)
 | 12,u=>u = .agg #[.string q.job.name,.int .i64 q.job.prio,.int .i64 q.job.need,.int .i64 q.job.tries,.string q.job.tag]
 | 13,u=>γ.s=true∧u = .slice γ.A γ.m γ.c
 | 14,u=>u = .pointer (some ⟨N,0,none⟩)
 | 15,u=>u = .pointer (some ⟨N,1,none⟩)
 | 16,_=>True
 | _,_=>False
theorem Nq {N WK BP Q:Nat} {st:ah} {x:StA} {now:Int} {q:cJ} {γ γ':PC} {j:Nat} {v:Value} (hn:γ.s=false) (h:Np N WK BP Q st x now q γ j v):Np N WK BP Q st x now q γ' j v:=by
 unfold Np at *
 split at h
 all_goals first | exact h | (obtain⟨hs,_⟩:=h; rw [hn] at hs; cases hs)
structure DoIn (w:World) (base:Nat) (st:ah) (x:StA) (N WK:Nat) (now:Int):Prop where
 w:Fz w base st x N WK now
 nj:x.nj≤40
 nn:x.nn≤40
 nl:x.nl≤40
 oj:nP st.jobs
 on_:kX st.nodes
 ol:ji st.leases
 sj:aT aB.name st.jobs
 sn:aT av.name st.nodes
 sl:aT ak.job st.leases
theorem do_1 (base:Nat) (st:ah) (x:StA) (N WK:Nat) (now:Int) (q:cJ) (w:World) (h:DoIn w base st x N WK now) (hq:q.kind=1) (hok:q.job.name.size≤9223372036854775807∧q.job.tag.size≤9223372036854775807) (hT:DI base w) :
 Calls Tryz.prog 164 #[.pointer (some ⟨WK,0,none⟩),gY q] w (Fy base N WK (ay (lV st q.job),lV st q.job,now) w):=by
 obtain⟨W,hW⟩:∃ W,(w.alloc (.cells #[.pointer (some ⟨WK,0,none⟩)] 276)).alloc (.cells (eM q) 65)=W:=⟨_,rfl⟩
 have hbW:Below w.heap.size w W:=by rw [← hW]; exact ((Below.refl _ _).alloc (Nat.le_refl _) _).alloc (by simp) _
 have hbp:Blk W w.heap.size 276 #[.pointer (some ⟨WK,0,none⟩)]:=by rw [← hW]; exact Blk.alloc (show Blk _ _ _ _ from heap_alloc_new w _) _
 have hqb:Blk W (w.heap.size+1) 65 (eM q):=by
  rw [← hW]
  have:=heap_alloc_new (w.alloc (.cells #[.pointer (some ⟨WK,0,none⟩)] 276)) (.cells (eM q) 65)
  rwa [show (w.alloc (.cells #[.pointer (some ⟨WK,0,none⟩)] 276)).heap.size=w.heap.size+1 by simp] at this
 have hw:=h.w.below hbW
 have hk0:W.cell? ⟨w.heap.size+1,0,none⟩=some (.int .i64 1):=by rw [hqb.cell 0,← hq]; rfl
 have HD:=hid (KV base x.aj x.nj x.cj st.jobs q.job W.drew hw.own.j.drew hw.own.lj (by have:=h.nj; omega) h.sj hw.bs)
 have HL:=hid (show W.drew.ownsRow base 59 5 (.slice x.aj x.nj x.cj) x.nj (au aH st.jobs) from hw.own.j.drew)
 have HBs:=hid (show base≤W.drew.heap.size from hw.bs)
 have HbN:=hid hw.bN
 have H:=hid h
 have HbW:=hid (hbW.mono h.w.bs)
 have HT:=hid hT
 have H0:O1 w W base st x N WK w.heap.size (w.heap.size+1) now q (pK aB.name st.jobs q.job) 0 ⟨none,0,0,false⟩ W.drew:=⟨hbp,hqb,hw.wk,hw.nb,(hbW.mono h.w.bs).drew,hw.own.n.drew,hw.own.l.drew,fun _=>rfl,fun _=>rfl,fun h=>absurd h (by decide)⟩
 clear hbW hbp hqb hw hT
 unfold gY
 unfold eM at hW ⊢
 clear hq
 go_enter Tryz.func164,Tryz.ntmps164
 go_wp2_with fail
 try rw [hW]
 clear hW hk0
 refine bO (n:=157) (by kernel_rfl) (Np N WK w.heap.size (w.heap.size+1) st x now q) [13,16] (O1 w W base st x N WK w.heap.size (w.heap.size+1) now q (pK aB.name st.jobs q.job)) ⟨none,0,0,false⟩ (by decide +kernel) (by decide +kernel) rfl H0 ?_ ?_
 · refine⟨?_,?_,?_,?_,?_,?_,?_,?_,?_,?_,?_,?_,?_,?_,?_,?_,?_,trivial⟩
   · refine okP 0 2 fun p γ a wx hpl hph hp hk=>?_
     have h1:=hk.k 2 rfl
     have hc0:wx.cell? ⟨w.heap.size,0,none⟩=some (.pointer (some ⟨WK,0,none⟩)):=hp.bp.cell 0
     simp [go_sem,Oper.wp,execOp,Act.eval,h1,hc0]
     exact⟨_,rfl,rfl,hp⟩
   · refine okP 0 2 fun p γ a wx hpl hph hp hk=>?_
     obtain⟨u1,h1,rfl⟩:=hk.g 0 10 rfl rfl
     simp [go_sem,Oper.wp,execOp,Act.eval,h1]
     exact⟨_,rfl,rfl,hp⟩
   · refine okP 0 2 fun p γ a wx hpl hph hp hk=>?_
     obtain⟨u1,h1,rfl⟩:=hk.g 1 11 rfl rfl
     simp [go_sem,Oper.wp,execOp,Act.eval,h1]
     exact⟨_,rfl,rfl,hp⟩
   · refine okP 0 2 fun p γ a wx hpl hph hp hk=>?_
     obtain⟨u1,h1,rfl⟩:=hk.g 2 12 rfl rfl
     have hc0:wx.cell? ⟨WK,0,none⟩=some (.pointer (some ⟨N,0,none⟩)):=hp.wk.cell 0
     simp [go_sem,Oper.wp,execOp,Act.eval,h1,hc0]
     exact⟨_,rfl,rfl,hp⟩
   · refine okP 0 2 fun p γ a wx hpl hph hp hk=>?_
     have h1:=hk.k 2 rfl
     have hc0:wx.cell? ⟨w.heap.size,0,none⟩=some (.pointer (some ⟨WK,0,none⟩)):=hp.bp.cell 0
     simp [go_sem,Oper.wp,execOp,Act.eval,h1,hc0]
     exact⟨_,rfl,rfl,hp⟩
   · refine okP 0 2 fun p γ a wx hpl hph hp hk=>?_
     obtain⟨u1,h1,rfl⟩:=hk.g 4 14 rfl rfl
     simp [go_sem,Oper.wp,execOp,Act.eval,h1]
     exact⟨_,rfl,rfl,hp⟩
   · refine okP 0 2 fun p γ a wx hpl hph hp hk=>?_
     obtain⟨u1,h1,rfl⟩:=hk.g 5 15 rfl rfl
     simp [go_sem,Oper.wp,execOp,Act.eval,h1]
     exact⟨_,rfl,rfl,hp⟩
   · refine okP 0 2 fun p γ a wx hpl hph hp hk=>?_
     obtain⟨u1,h1,rfl⟩:=hk.g 6 16 rfl rfl
     have hc0:wx.cell? ⟨WK,0,none⟩=some (.pointer (some ⟨N,0,none⟩)):=hp.wk.cell 0
     simp [go_sem,Oper.wp,execOp,Act.eval,h1,hc0]
     exact⟨_,rfl,rfl,hp⟩
   · refine okP 0 2 fun p γ a wx hpl hph hp hk=>?_
     obtain⟨u1,h1,rfl⟩:=hk.g 7 17 rfl rfl
     simp [go_sem,Oper.wp,execOp,Act.eval,h1]
     exact⟨_,rfl,rfl,hp⟩
   · refine okP 0 2 fun p γ a wx hpl hph hp hk=>?_
     obtain⟨u1,h1,rfl⟩:=hk.g 8 18 rfl rfl
     simp [go_sem,Oper.wp,execOp,Act.eval,h1]
     exact⟨_,rfl,rfl,hp⟩
   · refine okP 0 0 fun p γ a wx hpl hph hp hk=>?_
     obtain⟨u1,h1,rfl⟩:=hk.g 9 19 rfl rfl
     obtain rfl:p=0:=by omega
     have hc0:wx.cell? ⟨N,1,none⟩=some (.slice x.aj x.nj x.cj):=hp.nb.cell 1
     simp [go_sem,Oper.wp,execOp,Act.eval,h1,hc0]
     exact⟨_,rfl,rfl,hp⟩
   · refine okP 0 2 fun p γ a wx hpl hph hp hk=>?_
     have h1:=hk.k 3 rfl
     simp [go_sem,Oper.wp,execOp,Act.eval,h1]
     exact⟨_,rfl,rfl,hp⟩
   · refine okP 0 2 fun p γ a wx hpl hph hp hk=>?_
     obtain⟨u1,h1,rfl⟩:=hk.g 11 21 rfl rfl
     have hc0:wx.cell? ⟨w.heap.size+1,1,none⟩=some (.string q.job.name):=hp.q.cell 1
     have hc1:wx.cell? ⟨w.heap.size+1,2,none⟩=some (.int .i64 q.job.prio):=hp.q.cell 2
     have hc2:wx.cell? ⟨w.heap.size+1,3,none⟩=some (.int .i64 q.job.need):=hp.q.cell 3
     have hc3:wx.cell? ⟨w.heap.size+1,4,none⟩=some (.int .i64 q.job.tries):=hp.q.cell 4
     have hc4:wx.cell? ⟨w.heap.size+1,5,none⟩=some (.string q.job.tag):=hp.q.cell 5
     simp [go_sem,Oper.wp,execOp,Act.eval,h1,hc0,hc1,hc2,hc3,hc4]
     exact⟨_,rfl,rfl,hp⟩
   · refine⟨rfl,.inl ⟨0,rfl,fun γ a wx hp hk=>?_⟩⟩
     obtain⟨u1,h1,rfl⟩:=hk.g 10 20 rfl rfl
     obtain⟨u2,h2,rfl⟩:=hk.g 12 22 rfl rfl
     simp [go_sem,Oper.wp,execOp,Act.eval,h1,h2]
     obtain rfl:=hp.here rfl
     refine (HD.out).mono ?_
     rintro e w' ⟨A',m,c',rfl,hm,ho,hg⟩
     exact⟨_,rfl,⟨A',m,c',true⟩,fun j v hj h=>Nq (hp.unset rfl) h,⟨rfl,rfl⟩,⟨Blk.If hp.bp hg HL.out (by decide),Blk.If hp.q hg HL.out (by decide),Blk.If hp.wk hg HL.out (by decide),Blk.eq (Blk.If hp.nb hg HL.out (by decide)) rfl,hp.below.trans (hg.below HBs.out (fun q hq=>(HL.out.lt q hq).1)),nV hp.n hg HL.out (by decide),nV hp.l hg HL.out (by decide),fun h=>absurd h (by decide),fun h=>absurd h (by decide),fun _=>⟨ho,hm⟩⟩⟩
   · refine okP 0 2 fun p γ a wx hpl hph hp hk=>?_
     obtain⟨u1,h1,rfl⟩:=hk.g 3 13 rfl rfl
     simp [go_sem,Oper.wp,execOp,Act.eval,h1]
     exact⟨_,rfl,rfl,hp⟩
   · refine okP 0 2 fun p γ a wx hpl hph hp hk=>?_
     obtain⟨u1,h1,rfl⟩:=hk.g 14 24 rfl rfl
     simp [go_sem,Oper.wp,execOp,Act.eval,h1]
     exact⟨_,rfl,rfl,hp⟩
   · refine⟨rfl,.inl ⟨1,rfl,fun γ a wx hp hk=>?_⟩⟩
     obtain⟨u1,h1,rfl⟩:=hk.g 15 25 rfl rfl
     obtain⟨u2,h2,hs2,rfl⟩:=hk.g 13 23 rfl rfl
     have hc:wx.cell? ⟨N,1,none⟩=some (.slice x.aj x.nj x.cj):=hp.nb.cell 1
     have hz:wx.frozen? ⟨N,1,none⟩=false:=hp.nb.thaw 1
     simp [go_sem,Oper.wp,execOp,Act.eval,h1,h2,hc,hz]
     exact⟨.int .i64 0,γ,fun _ _ _ h=>h,trivial,⟨pO hp.bp hp.nb (by decide),pO hp.q hp.nb (by decide),pO hp.wk hp.nb (by decide),Blk.eq (hp.nb.set 1 _) rfl,hp.below.trans (bX (Below.refl _ _) HbN.out),pP hp.n hp.nb (by decide),pP hp.l hp.nb (by decide),fun h=>absurd h (by decide),fun h=>absurd h (by decide),fun _=>⟨pP (hp.r (by decide)).1 hp.nb (by decide),(hp.r (by decide)).2⟩⟩⟩
 · intro γ a wx hd
   have hp:=hd.ph
   obtain⟨fv,rfl,hfv⟩:=hd.frame [10,11,12,13,14,15,16,17,18,19,20,21,22,23,24,25] rfl
   have hnb:Blk wx N 26 #[.int .i64 st.rev,.slice γ.A γ.m γ.c,.slice x.an x.nn x.cn,.slice x.al x.nl x.cl]:=hp.nb
   have hwa:Fz wx base (lV st q.job) ⟨γ.A,γ.m,γ.c,x.an,x.nn,x.cn,x.al,x.nl,x.cl⟩ N WK now:=⟨hnb,hp.wk,⟨(hp.r (by decide)).1,hp.n,hp.l,(hp.r (by decide)).2.symm,H.out.w.own.ln,H.out.w.own.ll⟩,H.out.w.bN,H.out.w.bW,Nat.le_trans H.out.w.bs hp.below.size⟩
   have hlen:=(hp.r (by decide)).2
   have Nr:=DJ (key:=aB.name) (x:=q.job) H.out.sj
   have HC:=hid (show Calls Tryz.prog 7 #[.agg #[.int .i64 st.rev,.slice γ.A γ.m γ.c,.slice x.an x.nn x.cn,.slice x.al x.nl x.cl]] wx _ from fq (lV st q.job) ⟨γ.A,γ.m,γ.c,x.an,x.nn,x.cn,x.al,x.nl,x.cl⟩ wx (hwa.own.at2 (by have:=H.out.w.own.lj; have:=H.out.nj; show γ.m≤1000; omega) (by have:=H.out.nn; show x.nn≤1000; omega) (by have:=H.out.nl; show x.nl≤1000; omega) (fun z hz=>(KU hz).elim (fun e=>by rw [e]; exact hok) (H.out.oj z)) (H.out.on_) H.out.ol) (HT.out _ hp.below))
   have HwA:=hid hwa
   have HbX:=hid hp.below
   have b0:wx.cell? ⟨w.heap.size,0,none⟩=some (.pointer (some ⟨WK,0,none⟩)):=hp.bp.cell 0
   have b1:wx.cell? ⟨WK,0,none⟩=some (.pointer (some ⟨N,0,none⟩)):=hp.wk.cell 0
   obtain⟨n0,n1,n2,n3⟩:=Blk.c4 (hnb)
   have hNl:=hnb.lt
   clear hd hp hfv hnb hwa hlen Nr H0
   simp only [foldl_cons,foldl_nil,setIfInBounds_toArray,set_cons_succ,set_cons_zero]
   go_wp2_with fail
   refine Calls.mono HC.out ?_
   rintro e w5 ⟨rfl,hb5⟩
   have cX:=hid (show Fy base N WK (ay (lV st q.job),lV st q.job,now) w (.returned (.int .i64 (ay (lV st q.job)))) w5 from ⟨rfl,HbX.out.trans (hb5.mono (Nat.le_trans H.out.w.bs HbX.out.size)),fun _=>⟨_,HwA.out.below hb5⟩⟩)
   clear hb5 b0 b1 n0 n1 n2 n3 HC
   go_wp2
   go_ret
   exact cX.out
def KW (T t:TypeId) (cs:Array Value) (w:World) (e:Ending) (w':World):Prop:=
 ∃ P,e = .returned (.iface T (.pointer (some ⟨P,0,none⟩)))∧w.heap.size≤P∧Blk w' P t cs∧Below w.heap.size w w'
def DK (S:Nat) (q:cJ) (w:World) (e:Ending) (w':World):Prop:=
 e = .returned (.tuple #[])∧Blk w' S 65 (eM q)∧(∀ g,g<w.heap.size→g≠S→w'.heap[g]? = w.heap[g]?)∧Below S w w'
def nF (k:Int):cJ:=⟨k,KX,kK,iU,⟨#[]⟩,0⟩
theorem FA (q:cJ) (w:World) (hq:q.kind=1):Calls Tryz.prog 116 #[gY q] w (KW 260 262 #[.string q.job.name,.int .i64 q.job.prio,.int .i64 q.job.need,.int .i64 q.job.tries,.string q.job.tag] w):=by
 obtain⟨W,hW⟩:∃ W,w.alloc (.cells (eM q) 65)=W:=⟨_,rfl⟩
 have hb:Blk W w.heap.size 65 (eM q):=by rw [← hW]; exact heap_alloc_new w _
 have hbW:Below w.heap.size w W:=by rw [← hW]; exact (Below.refl _ _).alloc (Nat.le_refl _) _
 have h0:W.cell? ⟨w.heap.size,0,none⟩=some (.int .i64 1):=by rw [hb.cell 0,← hq]; rfl
 have h1:W.cell? ⟨w.heap.size,1,none⟩=some (.string q.job.name):=hb.cell 1
 have h2:W.cell? ⟨w.heap.size,2,none⟩=some (.int .i64 q.job.prio):=hb.cell 2
 have h3:W.cell? ⟨w.heap.size,3,none⟩=some (.int .i64 q.job.need):=hb.cell 3
 have h4:W.cell? ⟨w.heap.size,4,none⟩=some (.int .i64 q.job.tries):=hb.cell 4
 have h5:W.cell? ⟨w.heap.size,5,none⟩=some (.string q.job.tag):=hb.cell 5
 have HbW:=hid hbW
 unfold gY
 unfold eM at hW ⊢
 clear hq hb hbW
 go_enter Tryz.func116,Tryz.ntmps116
 go_wp2
 try rw [hW]
 clear hW
 go_ret
 exact⟨_,rfl,HbW.out.size,heap_alloc_new W _,HbW.out.alloc HbW.out.size _⟩
theorem KY (q:cJ) (P S:Nat) (w:World) (hp:Blk w P 262 #[.string q.job.name,.int .i64 q.job.prio,.int .i64 q.job.need,.int .i64 q.job.tries,.string q.job.tag]) (hs:Blk w S 65 (eM (nF q.kind))):Calls Tryz.prog 319 #[.pointer (some ⟨P,0,none⟩),.pointer (some ⟨S,0,none⟩)] w (DK S ⟨q.kind,q.job,kK,iU,⟨#[]⟩,0⟩ w):=by
 obtain⟨p0,p1,p2,p3,p4⟩:=Blk.c5 (hp)
 have s1:w.cell? ⟨S,1,none⟩=some (.string ⟨#[]⟩):=hs.cell 1
 have s2:w.cell? ⟨S,2,none⟩=some (.int .i64 0):=hs.cell 2
 have s3:w.cell? ⟨S,3,none⟩=some (.int .i64 0):=hs.cell 3
 have s4:w.cell? ⟨S,4,none⟩=some (.int .i64 0):=hs.cell 4
 have s5:w.cell? ⟨S,5,none⟩=some (.string ⟨#[]⟩):=hs.cell 5
 have z1:w.frozen? ⟨S,1,none⟩=false:=hs.thaw 1
 have z2:w.frozen? ⟨S,2,none⟩=false:=hs.thaw 2
 have z3:w.frozen? ⟨S,3,none⟩=false:=hs.thaw 3
 have z4:w.frozen? ⟨S,4,none⟩=false:=hs.thaw 4
 have z5:w.frozen? ⟨S,5,none⟩=false:=hs.thaw 5
 have hlp:=hp.lt
 have hls:=hs.lt
 have Hs:=hid hs
 clear hp hs
 go_enter Tryz.func319,Tryz.ntmps319
 go_wp2
 go_end0
 exact⟨rfl,Blk.eq (Blk.set (Blk.set (Blk.set (Blk.set (Blk.set Hs.out 1 _) 2 _) 3 _) 4 _) 5 _) rfl,fun g hg hne=>(Below.heap_setCell _ ⟨S,5,none⟩ _ g hne).trans ((Below.heap_setCell _ ⟨S,4,none⟩ _ g hne).trans ((Below.heap_setCell _ ⟨S,3,none⟩ _ g hne).trans ((Below.heap_setCell _ ⟨S,2,none⟩ _ g hne).trans ((Below.heap_setCell _ ⟨S,1,none⟩ _ g hne).trans (rfl))))),bX (bX (bX (bX (bX (Below.refl _ _) (Nat.le_refl _)) (Nat.le_refl _)) (Nat.le_refl _)) (Nat.le_refl _)) (Nat.le_refl _)⟩
def vJ (w:World) (S:Nat) (h:cJ):World:=World.setCell (World.setCell (World.setCell (World.setCell (World.setCell (World.setCell (World.setCell (World.setCell (World.setCell (World.setCell (World.setCell (World.setCell (World.setCell (World.setCell w ⟨S,0,none⟩ (.int .i64 h.kind)) ⟨S,1,none⟩ (.string h.job.name)) ⟨S,2,none⟩ (.int .i64 h.job.prio)) ⟨S,3,none⟩ (.int .i64 h.job.need)) ⟨S,4,none⟩ (.int .i64 h.job.tries)) ⟨S,5,none⟩ (.string h.job.tag)) ⟨S,6,none⟩ (.string h.node.name)) ⟨S,7,none⟩ (.int .i64 h.node.room)) ⟨S,8,none⟩ (.string h.node.zone)) ⟨S,9,none⟩ (.string h.lease.job)) ⟨S,10,none⟩ (.string h.lease.node)) ⟨S,11,none⟩ (.int .i64 h.lease.till)) ⟨S,12,none⟩ (.string h.name)) ⟨S,13,none⟩ (.int .i64 h.n)
theorem yP {w:World} {S:Nat} {q0:cJ} (h:cJ) (h0:Blk w S 65 (eM q0)):Blk (vJ w S h) S 65 (eM h):=by
 have h14:=Blk.set (Blk.set (Blk.set (Blk.set (Blk.set (Blk.set (Blk.set (Blk.set (Blk.set (Blk.set (Blk.set (Blk.set (Blk.set (Blk.set h0 0 (.int .i64 h.kind)) 1 (.string h.job.name)) 2 (.int .i64 h.job.prio)) 3 (.int .i64 h.job.need)) 4 (.int .i64 h.job.tries)) 5 (.string h.job.tag)) 6 (.string h.node.name)) 7 (.int .i64 h.node.room)) 8 (.string h.node.zone)) 9 (.string h.lease.job)) 10 (.string h.lease.node)) 11 (.int .i64 h.lease.till)) 12 (.string h.name)) 13 (.int .i64 h.n)
 refine Blk.eq h14 ?_
 simp [eM]
theorem tR (w:World) (S:Nat) (h:cJ):Below S w (vJ w S h):=bX (bX (bX (bX (bX (bX (bX (bX (bX (bX (bX (bX (bX (bX (Below.refl _ _) (Nat.le_refl _)) (Nat.le_refl _)) (Nat.le_refl _)) (Nat.le_refl _)) (Nat.le_refl _)) (Nat.le_refl _)) (Nat.le_refl _)) (Nat.le_refl _)) (Nat.le_refl _)) (Nat.le_refl _)) (Nat.le_refl _)) (Nat.le_refl _)) (Nat.le_refl _)) (Nat.le_refl _)
theorem I8 (k:Int) (h:cJ) (T:TypeId) (F:FuncId) (v:Value) (w:World)
 (hm : ∀ w, (method 515 T v "bracken/req.into").run Tryz.prog w = .ok (F, v) w)
 (hc:∀ a (w:World),(callFunc F a).run Tryz.prog w = .ok (.enter F a) w)
 (HI:∀ W S,Below w.heap.size w W→w.heap.size≤S→Blk W S 65 (eM (nF k))→Calls Tryz.prog F #[v,.pointer (some ⟨S,0,none⟩)] W (DK S h W)) :
 Calls Tryz.prog 163 #[.int .i64 k,.iface T v] w fun e w'=>e = .returned (gY h)∧Below w.heap.size w w':=by
 obtain⟨W,hW⟩:∃ W,(w.alloc (.cells (eM (nF 0)) 65)).alloc (.cells (eM (nF k)) 65)=W:=⟨_,rfl⟩
 have hbW:Below w.heap.size w W:=by rw [← hW]; exact ((Below.refl _ _).alloc (Nat.le_refl _) _).alloc (by simp) _
 have hr:Blk W w.heap.size 65 (eM (nF 0)):=by rw [← hW]; exact Blk.alloc (show Blk _ _ _ _ from heap_alloc_new w _) _
 have hs:Blk W (w.heap.size+1) 65 (eM (nF k)):=by
  rw [← hW]
  have:=heap_alloc_new (w.alloc (.cells (eM (nF 0)) 65)) (.cells (eM (nF k)) 65)
  rwa [show (w.alloc (.cells (eM (nF 0)) 65)).heap.size=w.heap.size+1 by simp] at this
 have HI:=hid (HI W (w.heap.size+1) hbW (Nat.le_succ _) hs)
 have HbW:=hid hbW
 have Hr:=hid hr
 clear hbW hr hs
 unfold nF eM KX kK iU at hW
 have HW:=hid hW
 clear hW
 unfold gY eM
 go_enter Tryz.func163,Tryz.ntmps163
 go_wp2_with fail
 rw [HW.out]
 clear HW
 refine Calls.mono HI.out ?_
 rintro e w1 ⟨rfl,hs1,ho,hb1⟩
 have hr1:Blk w1 w.heap.size 65 (eM (nF 0)):=(ho _ Hr.out.lt (by omega)).trans Hr.out
 have bJ:=hid ((HbW.out.trans (hb1.mono (Nat.le_succ _))))
 obtain⟨s0,s1,s2,s3,s4,s5,s6,s7,s8,s9,s10,s11,s12,s13⟩:=Blk.c14 (hs1)
 obtain⟨r0,r1,r2,r3,r4,r5,r6,r7,r8,r9,r10,r11,r12,r13⟩:=Blk.c14 (show Blk w1 (w.heap.size) _ #[.int .i64 0,.string ⟨#[]⟩,.int .i64 0,.int .i64 0,.int .i64 0,.string ⟨#[]⟩,.string ⟨#[]⟩,.int .i64 0,.string ⟨#[]⟩,.string ⟨#[]⟩,.string ⟨#[]⟩,.int .i64 0,.string ⟨#[]⟩,.int .i64 0] from hr1)
 obtain⟨z0,z1,z2,z3,z4,z5,z6,z7,z8,z9,z10,z11,z12,z13⟩:=Blk.z14 (hr1)
 have hl1:=hs1.lt
 have hl2:=hr1.lt
 have Hr1:=hid hr1
 clear hs1 ho hb1 hr1 HI
 go_wp2
 have hf:=yP h Hr1.out
 have hB:=bJ.out.trans (tR w1 w.heap.size h)
 obtain⟨wf,hwf⟩:∃ wf,vJ w1 w.heap.size h=wf:=⟨_,rfl⟩
 rw [hwf] at hf hB
 unfold vJ at hwf
 simp only [hwf]
 clear hwf s0 r0 z0 s1 r1 z1 s2 r2 z2 s3 r3 z3 s4 r4 z4 s5 r5 z5 s6 r6 z6 s7 r7 z7 s8 r8 z8 s9 r9 z9 s10 r10 z10 s11 r11 z11 s12 r12 z12 s13 r13 z13 hl1 hl2 hm hc Hr1 bJ
 obtain⟨f0,f1,f2,f3,f4,f5,f6,f7,f8,f9,f10,f11,f12,f13⟩:=Blk.c14 (hf)
 have HB:=hid hB
 clear hf hB
 refine bodyPost_ret (v:=.agg #[.int .i64 h.kind,.string h.job.name,.int .i64 h.job.prio,.int .i64 h.job.need,.int .i64 h.job.tries,.string h.job.tag,.string h.node.name,.int .i64 h.node.room,.string h.node.zone,.string h.lease.job,.string h.lease.node,.int .i64 h.lease.till,.string h.name,.int .i64 h.n]) (by simp [results,Tryz.results163,go_sem, *]) rfl ?_
 exact⟨rfl,HB.out⟩
theorem Bq (q:cJ) (P:Nat) (w:World) (hp:Blk w P 262 #[.string q.job.name,.int .i64 q.job.prio,.int .i64 q.job.need,.int .i64 q.job.tries,.string q.job.tag]):Calls Tryz.prog 163 #[.int .i64 q.kind,.iface 260 (.pointer (some ⟨P,0,none⟩))] w fun e w'=>e = .returned (gY ⟨q.kind,q.job,kK,iU,⟨#[]⟩,0⟩)∧Below w.heap.size w w':=
 I8 q.kind _ _ 319 _ w (fun _=>by kernel_rfl) (fun _ _=>by kernel_rfl) (fun W S hb _ hs=>KY q P S W (hp.below hb hp.lt) hs)
theorem FC (xs ys:List ak) (A A':Option Addr) (n m c c':Nat) (w:World) (hx:aQ w w.heap.size 3 A n (au aE xs)) (hy:aQ w w.heap.size 3 A' m (au aE ys)) (lx:xs.length=n) (ly:ys.length=m) (hn:n≤9223372036854775807) (hm:m≤9223372036854775807) :
 Calls Tryz.prog 206 #[.slice A n c,.slice A' m c'] w (qL xs ys w):=by
 by_cases h:n=m
 · subst h
   have h0:((n:Int) != n)=false:=by simp
   have Lx:=hid lx
   have Ly:=hid ly
   clear lx ly
   go_enter Tryz.func206,Tryz.ntmps206
   go_wp2
   go_loopw [13] (fun i wr=>KZ xs ys n w i wr) (fun i _=>n - (intOf i).toNat)
   case atStart=>exact⟨0,Nat.zero_le _,rfl,rfl,Below.refl _ _⟩
   case round=>
    obtain⟨k,hk,rfl,he,hb⟩:=hrel
    have He:=hid he
    clear he
    by_cases hlt:k<n
    · obtain⟨x,hxk⟩:∃ x,xs[k]? = some x:=⟨_,List.getElem?_eq_getElem (by rw [Lx.out]; exact hlt)⟩
      obtain⟨y,hyk⟩:∃ y,ys[k]? = some y:=⟨_,List.getElem?_eq_getElem (by rw [Ly.out]; exact hlt)⟩
      obtain⟨b,off,rfl,hbB,hc⟩:=(hx.below hb).dF bB Lx.out hxk
      obtain⟨b',off',rfl,yT,hc'⟩:=(hy.below hb).dF bB Ly.out hyk
      obtain⟨jl,fU,fV⟩:=x
      obtain⟨iK,fA,fB⟩:=y
      have c0:wr.cell? ⟨b,off+k*3,none⟩=some (.string jl):=hc 0 _ rfl
      have d0:wr.cell? ⟨b',off'+k*3,none⟩=some (.string iK):=hc' 0 _ rfl
      have c1:wr.cell? ⟨b,off+k*3+1,none⟩=some (.string fU):=hc 1 _ rfl
      have d1:wr.cell? ⟨b',off'+k*3+1,none⟩=some (.string fA):=hc' 1 _ rfl
      have c2:wr.cell? ⟨b,off+k*3+2,none⟩=some (.int .i64 fV):=hc 2 _ rfl
      have d2:wr.cell? ⟨b',off'+k*3+2,none⟩=some (.int .i64 fB):=hc' 2 _ rfl
      have hsz:=hb.size
      have hlt1:b<wr.heap.size:=by omega
      have hlt2:b'<wr.heap.size:=by omega
      have Hb:=hid hb
      have Hxk:=hid hxk
      have Hyk:=hid hyk
      have fin:=hid Hb.out.drew
      have step:=hid (fun (h:(⟨jl,fU,fV⟩:ak)=⟨iK,fA,fB⟩)=>gV (hxk.trans (congrArg some h)) hyk He.out)
      have stop:=hid (fun (h:(⟨jl,fU,fV⟩:ak)≠⟨iK,fA,fB⟩)=>mI hxk hyk h)
      clear hc hc' hx hy hxk hyk hb
      obtain⟨t,ht,hrun,-⟩:=sQ jl iK fU fA fV fB
      have HT:=hid ht
      cases t
      · have DL:=hid (stop.out (fun h=>absurd (HT.out.2 h) (by decide)))
        have hrun':∀ W,(binOp .neq 63 (.agg #[.string jl,.string fU,.int .i64 fV]) (.agg #[.string iK,.string fA,.int .i64 fB])).run Tryz.prog W = .ok (.bool true) W:=hrun
        clear ht hrun step
        go_wp2
        go_region
        go_wp2
        go_ret
        exact⟨false,rfl,⟨fun h=>(by cases h),fun h=>absurd h DL.out⟩,fin.out⟩
      · have step2:=hid (step.out (HT.out.1 rfl))
        have hrun':∀ W,(binOp .neq 63 (.agg #[.string jl,.string fU,.int .i64 fV]) (.agg #[.string iK,.string fA,.int .i64 fB])).run Tryz.prog W = .ok (.bool false) W:=hrun
        clear ht hrun stop
        go_wp2
        go_region
        go_wp2
        go_roundw
        case rel=>exact⟨k+1,by omega,by go_num,step2.out,fin.out⟩
        case measure=>simp [intOf]; omega
    · have fin:=hid hb
      have same:=hid (show xs=ys by
       have e:=He.out
       rwa [List.take_of_length_le (by rw [Lx.out]; omega),List.take_of_length_le (by rw [Ly.out]; omega)] at e)
      clear hb hx hy
      go_wp2
      go_ret
      exact⟨true,rfl,⟨fun _=>same.out,fun _=>rfl⟩,fin.out⟩
 · have h0:((n:Int) != m)=true:=by simp; omega
   have fin:=hid (show xs≠ys by rintro rfl; omega)
   clear lx ly hx hy
   go_enter Tryz.func206,Tryz.ntmps206
   go_wp2
   go_ret
   exact⟨false,rfl,⟨fun h=>(by cases h),fun h=>absurd h fin.out⟩,Below.refl _ _⟩
variable {P:Program} {ρ:Ren}
def hxN (acc:Nat):List UInt8→Option Nat
 | []=>some acc
 | c :: r=>match tU c with
  | some d=>hxN (16*acc+d) r
  | none=>none
def hxV (T:TypeId):Option Nat→Value
 | some n=>.tuple #[.int .u64 (n:Int),.nilIface]
 | none=>.tuple #[.int .u64 0,.iface T (.int .i64 2)]
theorem Ig {c:UInt8} {d:Nat} (h:tU c=some d):d<16:=by
 unfold tU at h
 repeat' split at h
 all_goals first | (injection h with h; omega) | cases h
theorem K1:∀ c:Fin 256,(c.val<48∨57<c.val)→((97≤(c.val ||| 32)∧(c.val ||| 32)≤102)∧tU (UInt8.ofNat c.val)=some ((c.val ||| 32) - 87))∨(((c.val ||| 32)<97∨102<(c.val ||| 32))∧tU (UInt8.ofNat c.val)=none):=by decide +kernel
theorem or32 (c:UInt8) (h:c.toNat<48∨57<c.toNat):∃ v:Nat,bits .or .u8 (c.toNat:Int) 32=(v:Int)∧v<256∧(((97≤v∧v≤102)∧tU c=some (v - 87))∨((v<97∨102<v)∧tU c=none)):=by
 have hc:c.toNat<256:=c.toNat_lt
 refine⟨c.toNat ||| 32,?_,?_,?_⟩
 · rw [u8_or _ _ (by omega) (by omega) (by omega) (by omega)]
   simp
 · exact Nat.or_lt_two_pow (n:=8) hc (by decide)
 · have:=K1 ⟨c.toNat,hc⟩ h
   simpa using this
theorem Ns (L:Lays.n287 P ρ) (t:ByteArray) (h2:t.size=2) (w:World) :
 Calls P (ρ.f 287) #[.string t,.int .i64 16,.int .i64 8] w fun e w'=>e = .returned (hxV (ρ.t 167) (hxN 0 t.data.toList))∧w'=Lib.bytesWorld w (ρ.t 5) t:=by
 have mixed:=L.mixed
 have t9:=L.t9; have a9:=L.a9; have z9:=L.z9; have v9:=L.v9
 have t3:=L.t3; have a3:=L.a3; have z3:=L.z3; have v3:=L.v3
 have t53:=L.t53; have a53:=L.a53; have z53:=L.z53; have v53:=L.v53
 have t75:=L.t75; have a75:=L.a75; have z75:=L.z75; have v75:=L.v75
 have t4:=L.t4; have a4:=L.a4; have z4:=L.z4; have v4:=L.v4
 have t167:=L.t167; have a167:=L.a167; have z167:=L.z167; have v167:=L.v167
 have t5:=L.t5; have a5:=L.a5; have z5:=L.z5; have v5:=L.v5
 have t46:=L.t46; have a46:=L.a46; have z46:=L.z46; have v46:=L.v46
 have t37:=L.t37; have a37:=L.a37; have z37:=L.z37; have v37:=L.v37
 have t0:=L.t0; have a0:=L.a0; have z0:=L.z0; have v0:=L.v0
 have e321:∀ args w,(callFunc (ρ.f 321) args).run P w = .ok (.enter (ρ.f 321) args) w:=enters_of L.f321 (by kernel_rfl) rfl
 have hemp:t.toList.isEmpty=false:=by
  rw [← decide_eq_emptyBytes]
  exact decide_eq_false (fun h=>by rw [h] at h2; cases h2)
 have hcv:=Lib.run_convert_string_bytes (P:=P) w (ρ.t 9) (ρ.t 37) (ρ.t 5) t (u:=.string) L.t9 L.t37 L.t5
 have hB:∀ j,j<t.size→(Lib.bytesWorld w (ρ.t 5) t).cell? ⟨w.heap.size,j,none⟩=some (.int .u8 (t.data.toList.getD j 0).toNat):=fun j hj=>Lib.bytesWorld_cell w (ρ.t 5) t j hj
 obtain⟨W1,hW1⟩:∃ W1,W1=Lib.bytesWorld w (ρ.t 5) t:=⟨_,rfl⟩
 rw [← hW1] at hcv hB ⊢
 clear hW1
 obtain⟨bs,hL⟩:∃ bs,bs=t.data.toList:=⟨_,rfl⟩
 have hLn:bs.length=t.size:=by rw [hL,Lib.size_eq]
 rw [← hL] at hB ⊢
 clear hL
 have hmv:IntKind.u64.wrap (IntKind.u64.wrap 256 - 1)=255:=by
  rw [IntKind.wrap_u64,IntKind.wrap_u64]
  decide
 go_enter L.f287,Body.n287_ntmps ρ
 go_wp2
 go_loop [12,13,101] (fun vu vn vi=>∃ (k acc:Nat) (a:Int),vu = .bool false∧vn = .int .u64 a∧vi = .int .i64 k∧k≤t.size∧Hid (a=(acc:Int)∧acc<16 ^ k∧hxN 0 bs=hxN acc (bs.drop k)))
  (fun _ _ vi=>t.size - (intOf vi).toNat)
 case atStart=>exact⟨0,0,0,rfl,rfl,rfl,by omega,rfl,by decide,rfl⟩
 case round=>
  obtain⟨k,acc,a,rfl,rfl,rfl,hk,hh⟩:=hrel
  obtain⟨ha,hacc,hdec⟩:=hh.out
  clear hh
  by_cases hkn:k<t.size
  · have hc:=hB k hkn
    have hdrop:bs.drop k=bs[k]'(by omega) :: bs.drop (k+1):=List.drop_eq_getElem_cons (by omega)
    have hget:bs.getD k 0=bs[k]'(by omega):=by simp [List.getD,List.getElem?_eq_getElem (show k<bs.length by omega)]
    rw [hdrop] at hdec
    rw [hget] at hc
    generalize bs[k]'(by omega)=c at hc hdec
    have hc256:c.toNat<256:=c.toNat_lt
    have hacc':acc≤15:=by
     have:k=0∨k=1:=by omega
     rcases this with rfl | rfl
     · simp at hacc; omega
     · simp at hacc; omega
    have K6:∀ d,d<16→16*acc+d<16 ^ (k+1):=fun d hd=>by rw [Nat.pow_succ]; omega
    have a0:0≤a:=by omega
    have a1:a≤15:=by omega
    clear hB hdrop hget hacc
    by_cases hdig:48≤c.toNat∧c.toNat≤57
    · have hv:tU c=some (c.toNat - 48):=by unfold tU; rw [if_pos hdig]
      obtain⟨hd0,hd1⟩:=hdig
      have hF:hxN acc (c :: bs.drop (k+1))=hxN (16*acc+(c.toNat - 48)) (bs.drop (k+1)):=by rw [hxN,hv]
      have HN:Hid (a*16+((c.toNat:Int) - 48)=((16*acc+(c.toNat - 48):Nat):Int)∧16*acc+(c.toNat - 48)<16 ^ (k+1)∧hxN 0 bs=hxN (16*acc+(c.toNat - 48)) (bs.drop (k+1))):=hid ⟨by omega,K6 _ (by omega),hdec.trans hF⟩
      have iov:a*16+((c.toNat:Int) - 48)≤255:=by omega
      clear hacc' hF hdec ha hv K6
      go_wp2
      refine⟨⟨k+1,16*acc+(c.toNat - 48),a*16+((c.toNat:Int) - 48),rfl,(by first | rfl | (congr 1; omega)),(by first | rfl | (congr 1; omega)),by omega,HN⟩,by simp [intOf]; omega⟩
    · obtain⟨v,hv0,hv1,hvc⟩:=or32 c (by omega)
      rcases hvc with ⟨⟨g0,g1⟩,hv⟩ | ⟨hg,hv⟩
      · have hF:hxN acc (c :: bs.drop (k+1))=hxN (16*acc+(v - 87)) (bs.drop (k+1)):=by rw [hxN,hv]
        have HN:Hid (a*16+((v:Int) - 97+10)=((16*acc+(v - 87):Nat):Int)∧16*acc+(v - 87)<16 ^ (k+1)∧hxN 0 bs=hxN (16*acc+(v - 87)) (bs.drop (k+1))):=hid ⟨by omega,K6 _ (by omega),hdec.trans hF⟩
        have iov:a*16+((v:Int) - 97+10)≤255:=by omega
        have hne:¬ (c.toNat:Int)=95:=fun e=>by
         have:c=95:=UInt8.toNat_inj.1 (by have:(95:UInt8).toNat=95:=rfl; omega)
         subst this
         have h95:tU 95=none:=by decide
         rw [h95] at hv; cases hv
        clear hacc' hF hdec ha hv K6
        go_wp2_with (go_at_fn (ρ.f 321); refine (Any.internal_strconv_lower { L with } _ _).mono ?_; rintro e w' ⟨rfl,rfl⟩; try rw [hv0])
        all_goals refine⟨⟨k+1,16*acc+(v - 87),a*16+((v:Int) - 97+10),rfl,(by first | rfl | (congr 1; omega)),(by first | rfl | (congr 1; omega)),by omega,HN⟩,by simp [intOf]; omega⟩
      · have hF:hxN acc (c :: bs.drop (k+1))=none:=by rw [hxN,hv]
        rw [hF] at hdec
        clear hacc' hF ha hv K6
        go_wp2_with (go_at_fn (ρ.f 321); refine (Any.internal_strconv_lower { L with } _ _).mono ?_; rintro e w' ⟨rfl,rfl⟩; try rw [hv0])
        all_goals go_ret2
        all_goals first | exact⟨rfl,rfl⟩ | exact⟨by rw [hdec]; rfl,rfl⟩
  · have hkk:k=t.size:=by omega
    subst hkk
    have hF:hxN acc (bs.drop t.size)=some acc:=by rw [List.drop_eq_nil_of_le (by omega)]; rfl
    rw [hF] at hdec
    subst ha
    go_wp2
    go_ret2
    first | exact⟨rfl,rfl⟩ | exact⟨by rw [hdec]; rfl,rfl⟩
end Go.Proofs.YtcpgnjmaampglaaGreatDoor
