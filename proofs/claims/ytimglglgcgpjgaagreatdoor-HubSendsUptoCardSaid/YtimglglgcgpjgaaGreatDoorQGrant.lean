/- Of the proof of a statement: DoC, Grant, DoD. -/
import Derived.Test.YtimglglgcgpjgaaGreatDoorQDoB
set_option linter.unusedVariables false
set_option linter.unusedSimpArgs false
set_option maxRecDepth 100000
set_option maxHeartbeats 8000000
namespace Go.Proofs.YtimglglgcgpjgaaGreatDoor
open List (foldl_cons foldl_nil setIfInBounds_toArray set_cons_succ set_cons_zero)
open Go.RowKit
theorem Jf (b a N:Nat) (t:Int) (w:World) (g:Option Nat) (d:Blk w b 159 #[π a 0]) (i:Blk w a 162 #[π N 0,t]) (k:g≠some b) (l:g≠some a):zH (fun m=>decide (m.till<=t)) 151 #[π b 0] w g:=by
 intro W c x;have h:Blk W b 159 #[π a 0]:=(c.block b d.lt (fun e=>k e.symm)).trans d;have j:Blk W a 162 #[π N 0,t]:=(c.block a i.lt (fun e=>l e.symm)).trans i;have o:ζ W b 0 (π a 0):=h.cell 0;have p:ζ W a 1 (.int .i64 t):=j.cell 1;have q:=h.lt;have r:=j.lt;obtain⟨job,node,n⟩:=x
 show ψ 151 #[.agg #[job,node,n],π b 0] W _
 clear d i c h j;go_enter Tryz.func151,Tryz.ntmps151;go_wp2
 all_goals first | go_quiet (fail) | skip
 go_wp2;go_ret;exact⟨rfl,((θ).alloc lJ _).trans ⟨rfl,rfl,rfl,lJ,fun _ _=>rfl⟩⟩
theorem do_7 (base:Nat) (st:ah) (x:StA) (N a:Nat) (now:Int) (q:aK) (w:World) (h:An w base st x N a now) (C:q.kind=7) (S:0<=now) (T:now<=1099511627776) (U:0<=q.n) (V:q.n<=1099511627776) :
 ψ 81 #[π a 0,bP q] w (iE base N a (if 1099511627776 - now<q.n then (1,st,now) else (0,nF st (now+q.n),now+q.n)) w):=by
 obtain⟨W,d⟩:∃ W,(w.alloc (.cells #[π a 0] 159)).alloc (.cells (aV q) 87)=W:=⟨_,rfl⟩;have p:Below w w W:=by rw [<- d]; exact ((θ).alloc lJ _).alloc (by simp) _
 have r:Blk W w 159 #[π a 0]:=by rw [<- d]; exact Blk.alloc (show Blk _ _ _ _ from n5 w _) _
 have u:Blk W (w.heap.size+1) 87 (aV q):=by
  rw [<- d];have:=n5 (χ w #[π a 0] 159) (.cells (aV q) 87);rwa [show (w.alloc (.cells #[π a 0] 159)).heap.size=w.heap.size+1 by simp] at this
 have o:=h.w.below p;have K:ζ W (w.heap.size+1) 0 (.int .i64 7):=by rw [u.cell 0,<- C]; rfl
 have L:ζ W (w.heap.size+1) 13 (.int .i64 q.n):=u.cell 13;have I:ζ W w 0 (π a 0):=r.cell 0;have O:ζ W a 1 (.int .i64 now):=o.wk.cell 1;have P:κ W a 1:=o.wk.thaw 1;have H:=ω h;have b:=ω o;have y:=ω (p.mono h.w.bs);have z:=ω r;clear p r u o h;unfold bP;unfold aV at d |-;clear C;by_cases m:1099511627776 - now<q.n
 · rw [if_pos m];have J:decide (1099511627776 - now<q.n)=true:=t8 m;go_enter Tryz.func81,Tryz.ntmps81
   go_wp2_with fail
   try rw [d]
   clear d
   go_region
   go_wp2;go_ret;exact⟨rfl,y.drew,fun h=>absurd h (by decide:(1:Int)≠0)⟩
 · rw [if_neg m];have J:decide (1099511627776 - now<q.n)=false:=fK m;go_enter Tryz.func81,Tryz.ntmps81
   go_wp2_with fail
   try rw [d]
   clear d
   go_region
   go_wp2
   go_region
   obtain⟨c,g⟩:∃ c,(W.setCell ⟨a,1,none⟩ (.int .i64 (now+q.n))).drew.drew=c:=⟨_,rfl⟩
   have i:uE c base st x N a (now+q.n):=by
    rw [<- g];have e:=b.own;exact⟨bM b.nb b.wk (by decide),Blk.eq (b.wk.set 1 _) rfl,⟨(bF e.j b.wk (by decide)).drew.drew,(bF e.n b.wk (by decide)).drew.drew,(bF e.l b.wk (by decide)).drew.drew,e.lj,e.ln,e.ll⟩,b.bN,b.bW,by show base<=(W.setCell _ _).heap.size; simpa using b.bs⟩
   have k:Blk c w 159 #[π a 0]:=by
    rw [<- g];exact bM z.z b.wk (by decide)
   have E:=ω (show Below base w c from by rw [<- g]; exact (y.trans (aZ θ b.bW)).drew.drew);have G:ζ c w 0 (π a 0):=k.cell 0;have s:=i.own.l;have v:=ω (sM (fun l=>decide (l.till<=now+q.n)) 151 #[π w 0] base st x N a (now+q.n) c i (by have:=H.nl; omega) (enters_of Tryz.func151 (by kernel_rfl) rfl) (Jf w a N (now+q.n) c _ k i.wk (oQ k s (by decide)) (oQ i.wk s (by decide))));rw [g];clear g i k s b z L I O P K
   go_wp2_with fail
   refine v.mono ?_;rintro R M ⟨rfl,⟨Q,D⟩,B⟩;have F:=ω (show iE base N a (0,nF st (now+q.n),now+q.n) w (.returned (.int .i64 0)) M from ⟨rfl,E.trans B,fun _=>⟨Q,D⟩⟩);clear D B G v;go_wp2;go_ret;exact F
structure wO (w:World) (base:Nat) (st:ah) (x:StA) (N WK L:Nat) (now:Int) (l:ak) (wx:World):Prop where
 lb:Blk wx L 66 #[l.job,l.node,l.till]
 wa:uE wx base st x N WK now
 below:Below w w wx
theorem wO.next {w w' b:World} {base:Nat} {st:ah} {x:StA} {N c L:Nat} {now:Int} {l:ak} (h:wO w base st x N c L now l b) (a:Below b b w'):wO w base st x N c L now l w':=
 ⟨h.lb.below a h.lb.lt,h.wa.below a,h.below.trans (a.mono h.below.size)⟩
theorem Er {st:ah} {now:Int} {l:ak} (c:cH aC.name st.jobs) (h:isL aC.name st.jobs l.job=false):oG st now l=(6,st,now):=by
 rw [qK c] at h;unfold oG cC
 cases b:st.jobs.find? fun a=>decide (a.name=l.job) with
 | none=>rfl
 | some j=>rw [b] at h; cases h
theorem Es {st:ah} {now:Int} {l:ak} {j:aC} (h:cH aC.name st.jobs) (g:cH av.name st.nodes) (f:cH ak.job st.leases) (d:st.jobs[eW aC.name st.jobs l.job]? = some j) (e:j.name=l.job) :
 oG st now l=if isL av.name st.nodes l.node=false then (6,st,now) else if isL ak.job st.leases l.job=true then (7,st,now) else if l.till<=now then (1,st,now) else if j.tries=100 then (2,st,now) else (aE (j5 st j l),j5 st j l,now):=by
 have a:cC st.jobs l.job=some j:=M0 h d e;have b:isL av.name st.nodes l.node=(bU st.nodes l.node).isSome:=qK g;have c:isL ak.job st.leases l.job=(cD st.leases l.job).isSome:=qK f;unfold oG;rw [a,b,c]
theorem Et {l:List aC} {s:ByteArray} {j:aC} (d:cH aC.name l) (hi:isL aC.name l s=true) (b:l[eW aC.name l s]? = some j) (c:j.name=s):jI aC.name l (zI j)=l.set (eW aC.name l s) (zI j):=by
 have a:aC.name (zI j)=s:=c;rw [sJ d,a,if_pos hi,List.set_eq_take_append_cons_drop,if_pos (List.getElem?_eq_some_iff.1 b).1]
structure N0 (w W:World) (base:Nat) (st:ah) (x:StA) (N WK L:Nat) (now:Int) (l:ak) (js:List aC) (ls:List ak) (p:Nat) (γ:rE) (wx:World):Prop where
 lb:Blk wx L 66 #[l.job,l.node,l.till]
 wk:Blk wx WK 162 #[π N 0,now]
 nb:Blk wx N 26 #[st.rev,.slice x.aj x.nj x.cj,.slice x.an x.nn x.cn,if p<2 then .slice x.al x.nl x.cl else .slice γ.A γ.m γ.c]
 below:Below base w wx
 j:wx.ownsRow base 85 5 (.slice x.aj x.nj x.cj) x.nj (au aS js)
 n:wx.ownsRow base 70 3 (.slice x.an x.nn x.cn) x.nn (au aH st.nodes)
 here:p=0->wx=W.drew
 unset:p=0->γ.s=false
 r:0<p->wx.ownsRow base 66 3 (.slice γ.A γ.m γ.c) γ.m (au aB ls)/\γ.m=ls.length
def gr1V (N a L:Nat) (x:StA) (l:ak) (t:Nat) (i:Bool):Nat->Value->Prop
 | 0,u=>u = π a 0
 | 1,u=>u = π a 0
 | 2,u=>u = π a 0
 | 3,u=>u = π N 0
 | 4,u=>u = π N 0
 | 5,u=>u = π N 1
 | 6,u=>u = .slice x.aj x.nj x.cj
 | 7,u=>u = π L 0
 | 8,u=>u = .string l.job
 | 9,u=>u = .tuple #[.int .i64 (t:Int),.bool i]
 | 10,u=>u = .tuple #[.int .i64 (t:Int),.bool i]
 | 11,u=>u = .int .i64 (t:Int)
 | 12,u=>u = .bool i
 | 13,u=>u = .int .i64 (t:Int)
 | 14,u=>u = .bool i
 | _,_=>False
def gr2V (N a L:Nat) (x:StA) (l:ak) (t:Nat) (i:Bool):Nat->Value->Prop
 | 0,u=>u = π a 0
 | 1,u=>u = π a 0
 | 2,u=>u = π a 0
 | 3,u=>u = π N 0
 | 4,u=>u = π N 0
 | 5,u=>u = π N 2
 | 6,u=>u = .slice x.an x.nn x.cn
 | 7,u=>u = π L 1
 | 8,u=>u = .string l.node
 | 9,u=>u = .tuple #[.int .i64 (t:Int),.bool i]
 | 10,u=>u = .tuple #[.int .i64 (t:Int),.bool i]
 | 11,u=>u = .int .i64 (t:Int)
 | 12,u=>u = .bool i
 | 13,u=>u = .int .i64 (t:Int)
 | 14,u=>u = .bool i
 | _,_=>False
def gr5V (N a L:Nat) (x:StA) (l:ak) (t:Nat) (i:Bool):Nat->Value->Prop
 | 0,u=>u = π a 0
 | 1,u=>u = π a 0
 | 2,u=>u = π a 0
 | 3,u=>u = π N 0
 | 4,u=>u = π N 0
 | 5,u=>u = π N 3
 | 6,u=>u = .slice x.al x.nl x.cl
 | 7,u=>u = π L 0
 | 8,u=>u = .string l.job
 | 9,u=>u = .tuple #[.int .i64 (t:Int),.bool i]
 | 10,u=>u = .tuple #[.int .i64 (t:Int),.bool i]
 | 11,u=>u = .int .i64 (t:Int)
 | 12,u=>u = .bool i
 | 13,u=>u = .int .i64 (t:Int)
 | 14,u=>u = .bool i
 | _,_=>False
def Ii (N a L:Nat) (st:ah) (x:StA) (l:ak) (b:rE):Nat->Value->Prop
 | 0,u=>u = π a 0
 | 1,u=>u = π a 0
 | 2,u=>u = π a 0
 | 3,u=>u = π N 0
 | 4,u=>u = π a 0
 | 5,u=>u = π a 0
 | 6,u=>u = π a 0
 | 7,u=>u = π N 0
 | 8,u=>u = π N 0
 | 9,u=>u = π N 3
 | 10,u=>u = .slice x.al x.nl x.cl
 | 11,u=>u = .agg #[.string l.job,.string l.node,.int .i64 l.till]
 | 12,u=>b.s=true/\u = .slice b.A b.m b.c
 | 13,u=>u = π N 0
 | 14,u=>u = π N 3
 | 15,_=>True
 | _,_=>False
theorem KZ {N a L:Nat} {st:ah} {x:StA} {l:ak} {c e:rE} {j:Nat} {v:Value} (d:c.s=false) (h:Ii N a L st x l c j v):Ii N a L st x l e j v:=by
 unfold Ii at *
 split at h
 all_goals first | exact h | (obtain⟨b,_⟩:=h; rw [d] at b; cases b)
theorem wO.Eu {w b:World} {base:Nat} {st:ah} {x:StA} {N a L:Nat} {now:Int} {l:ak} (h:wO w base st x N a L now l b):wO w base st x N a L now l b.drew:=
 h.next (θ).drew
theorem Jg (base:Nat) (st:ah) (x:StA) (N o:Nat) (now:Int) (l:ak) (w:World) (h:An w base st x N o now) (hT:wH base w) (ba:∀ j ∈ st.jobs,0<=j.tries/\j.tries<=100) (aY:l.job.size<=9223372036854775807/\l.node.size<=9223372036854775807) :
 ψ 149 #[π o 0,.agg #[l.job,l.node,l.till]] w (iE base N o (oG st now l) w):=by
 obtain⟨W,hW⟩:∃ W,w.alloc (.cells #[l.job,l.node,l.till] 66)=W:=⟨_,rfl⟩;have ao:Below w w W:=by rw [<- hW]; exact (θ).alloc lJ _
 have aD:Blk W w 66 #[l.job,l.node,l.till]:=by rw [<- hW]; exact n5 w _
 have H:=ω h;have HT:=ω hT;have v:=ω (show wO w base st x N o w now l W from ⟨aD,h.w.below ao,ao⟩);have P:=ω (fun (D:Int) (he:D≠0) (b:World) (a:wO w base st x N o w now l b)=>(show iE base N o (D,st,now) w (.returned (.int .i64 D)) b from ⟨rfl,a.below.mono H.w.bs,fun h0=>absurd h0 he⟩));clear ao aD h hT;obtain⟨O,ay⟩:∃ t,eW aC.name st.jobs l.job=t:=⟨_,rfl⟩;obtain⟨ij,ap⟩:∃ t,isL aC.name st.jobs l.job=t:=⟨_,rfl⟩;obtain⟨pn,aG⟩:∃ t,eW av.name st.nodes l.node=t:=⟨_,rfl⟩;obtain⟨a0,ar⟩:∃ t,isL av.name st.nodes l.node=t:=⟨_,rfl⟩;obtain⟨pl,s⟩:∃ t,eW ak.job st.leases l.job=t:=⟨_,rfl⟩;obtain⟨il,aq⟩:∃ t,isL ak.job st.leases l.job=t:=⟨_,rfl⟩;obtain⟨R,hR⟩:∃ R,oG st now l=R:=⟨_,rfl⟩;rw [hR];have HR:=ω hR;clear hR;have C:=ω (fun (b:World) (a:wO w base st x N o w now l b)=>(show Calls Tryz.prog _ _ b (kE aC.name st.jobs l.job b) from gZ.1 l.job st.jobs x.aj x.nj x.cj b (cS a.wa.own.j) a.wa.own.lj (by have:=H.nj; omega) H.sj));unfold kE at C;rw [ay,ap] at C;have ad:=ω ay;have ac:=ω ap;clear ay ap;go_enter Tryz.func149,Tryz.ntmps149
 go_wp2_with fail
 try rw [hW]
 clear hW;refine rq (Γ:=Unit) 114 (fun _=>gr1V N o w x l O ij) [] (fun _ _ b=>wO w base st x N o w now l b) () v.Eu ?_ ?_
 · refine⟨?_,?_,?_,?_,?_,?_,?_,?_,?_,?_,?_,?_,?_,?_,?_,trivial⟩
   · exact ok0 0 0 0 rfl fun _=>rfl
   · exact ok1 0 0 0 12 rfl rfl (fun _ _ h=>h) fun _=>rfl
   · exact ok1 0 0 1 13 rfl rfl (fun _ _ h=>h) fun _=>rfl
   · refine okQ 0 0 fun y e q b s B a d=>?_;obtain⟨u1,i,rfl⟩:=d.g 2 14 rfl rfl;have p:ζ b o 0 (π N 0):=a.wa.wk.cell 0;simp [go_sem,Oper.wp,execOp,Act.eval,i,p];exact⟨_,rfl,rfl,a⟩
   · exact ok1 0 0 3 15 rfl rfl (fun _ _ h=>h) fun _=>rfl
   · exact ok1 0 0 4 16 rfl rfl (fun _ _ h=>h) fun _=>rfl
   · refine okQ 0 0 fun y e q b s B a d=>?_;obtain⟨u1,i,rfl⟩:=d.g 5 17 rfl rfl;have p:ζ b N 1 (.slice x.aj x.nj x.cj):=a.wa.nb.cell 1;simp [go_sem,Oper.wp,execOp,Act.eval,i,p];exact⟨_,rfl,rfl,a⟩
   · exact ok0 0 0 3 rfl fun _=>rfl
   · refine okQ 0 0 fun y e q b s B a d=>?_;obtain⟨u1,i,rfl⟩:=d.g 7 19 rfl rfl;have p:ζ b w 0 (.string l.job):=a.lb.cell 0;simp [go_sem,Oper.wp,execOp,Act.eval,i,p];exact⟨_,rfl,rfl,a⟩
   · refine okQ 0 0 fun y e q b s B a d=>?_;obtain⟨u1,i,rfl⟩:=d.g 6 18 rfl rfl;obtain⟨u2,K,rfl⟩:=d.g 8 20 rfl rfl;simp [go_sem,Oper.wp,execOp,Act.eval,i,K];refine (C.z b a).mono ?_;rintro D w' ⟨rfl,X⟩;exact⟨_,rfl,rfl,a.next X⟩
   · exact ok1 0 0 9 21 rfl rfl (fun _ _ h=>h) fun _=>rfl
   · exact ok1 0 0 10 11 rfl rfl (fun _ _ h=>h) fun _=>rfl
   · exact ok1 0 0 10 11 rfl rfl (fun _ _ h=>h) fun _=>rfl
   · exact ok1 0 0 11 22 rfl rfl (fun _ _ h=>h) fun _=>rfl
   · exact ok1 0 0 12 23 rfl rfl (fun _ _ h=>h) fun _=>rfl
 intro e q b z;clear C v;have v:=ω z.ph;obtain⟨J,rfl,E⟩:=z.frame [12,13,14,15,16,17,18,19,20,21,11,22,23,5,6] rfl;have h5:J 5 = .int .i64 (O:Int):=E 13 _ 5 rfl rfl;have h6:J 6 = .bool ij:=E 14 _ 6 rfl rfl;clear z E;simp only [foldl_cons,foldl_nil,setIfInBounds_toArray,set_cons_succ,set_cons_zero,h5,h6];clear h5 h6;have C:=ω (fun (b:World) (a:wO w base st x N o w now l b)=>(show Calls Tryz.prog _ _ b (kE av.name st.nodes l.node b) from gZ.2.1 l.node st.nodes x.an x.nn x.cn b (cS a.wa.own.n) a.wa.own.ln (by have:=H.nn; omega) H.sn));unfold kE at C;rw [aG,ar] at C;have a5:=ω ar;clear aG ar
 go_wp2_with fail
 refine rq (Γ:=Unit) 114 (fun _=>gr2V N o w x l pn a0) [] (fun _ _ b=>wO w base st x N o w now l b) () v.Eu ?_ ?_
 · refine⟨?_,?_,?_,?_,?_,?_,?_,?_,?_,?_,?_,?_,?_,?_,?_,trivial⟩
   · exact ok0 0 0 0 rfl fun _=>rfl
   · exact ok1 0 0 0 25 rfl rfl (fun _ _ h=>h) fun _=>rfl
   · exact ok1 0 0 1 26 rfl rfl (fun _ _ h=>h) fun _=>rfl
   · refine okQ 0 0 fun y e q b s B a d=>?_;obtain⟨u1,i,rfl⟩:=d.g 2 27 rfl rfl;have p:ζ b o 0 (π N 0):=a.wa.wk.cell 0;simp [go_sem,Oper.wp,execOp,Act.eval,i,p];exact⟨_,rfl,rfl,a⟩
   · exact ok1 0 0 3 28 rfl rfl (fun _ _ h=>h) fun _=>rfl
   · exact ok1 0 0 4 29 rfl rfl (fun _ _ h=>h) fun _=>rfl
   · refine okQ 0 0 fun y e q b s B a d=>?_;obtain⟨u1,i,rfl⟩:=d.g 5 30 rfl rfl;have p:ζ b N 2 (.slice x.an x.nn x.cn):=a.wa.nb.cell 2;simp [go_sem,Oper.wp,execOp,Act.eval,i,p];exact⟨_,rfl,rfl,a⟩
   · exact ok0 0 0 3 rfl fun _=>rfl
   · refine okQ 0 0 fun y e q b s B a d=>?_;obtain⟨u1,i,rfl⟩:=d.g 7 32 rfl rfl;have p:ζ b w 1 (.string l.node):=a.lb.cell 1;simp [go_sem,Oper.wp,execOp,Act.eval,i,p];exact⟨_,rfl,rfl,a⟩
   · refine okQ 0 0 fun y e q b s B a d=>?_;obtain⟨u1,i,rfl⟩:=d.g 6 31 rfl rfl;obtain⟨u2,K,rfl⟩:=d.g 8 33 rfl rfl;simp [go_sem,Oper.wp,execOp,Act.eval,i,K];refine (C.z b a).mono ?_;rintro D w' ⟨rfl,X⟩;exact⟨_,rfl,rfl,a.next X⟩
   · exact ok1 0 0 9 34 rfl rfl (fun _ _ h=>h) fun _=>rfl
   · exact ok1 0 0 10 24 rfl rfl (fun _ _ h=>h) fun _=>rfl
   · exact ok1 0 0 10 24 rfl rfl (fun _ _ h=>h) fun _=>rfl
   · exact ok1 0 0 11 35 rfl rfl (fun _ _ h=>h) fun _=>rfl
   · exact ok1 0 0 12 36 rfl rfl (fun _ _ h=>h) fun _=>rfl
 intro e q b z;clear C v;have v:=ω z.ph;obtain⟨J,rfl,E⟩:=z.frame [25,26,27,28,29,30,31,32,33,34,24,35,36,7,8] rfl;have h7:J 7 = .int .i64 (pn:Int):=E 13 _ 7 rfl rfl;have h8:J 8 = .bool a0:=E 14 _ 8 rfl rfl;clear z E;simp only [foldl_cons,foldl_nil,setIfInBounds_toArray,set_cons_succ,set_cons_zero,h7,h8];clear h7 h8;cases ij
 · obtain rfl:=(Er H.sj ac.z).symm.trans HR.z;go_wp2;go_ret;exact P.z 6 (by decide) _ v.z
 obtain⟨j,G,ae⟩:=pH ac.z;have ag:=ω ((Es H.sj H.sn H.sl G ae).symm.trans HR.z);cases a0
 · obtain rfl:=(if_pos a5.z).symm.trans ag.z;go_wp2;go_ret;exact P.z 6 (by decide) _ v.z
 have ai:=ω ((if_neg (by rw [a5.z]; decide)).symm.trans ag.z);clear ag HR;have C:=ω (fun (b:World) (a:wO w base st x N o w now l b)=>(show Calls Tryz.prog _ _ b (kE ak.job st.leases l.job b) from gZ.2.2 l.job st.leases x.al x.nl x.cl b (cS a.wa.own.l) a.wa.own.ll (by have:=H.nl; omega) H.sl));unfold kE at C;rw [s,aq] at C;have a4:=ω aq;clear s aq
 go_wp2_with fail
 refine rq (Γ:=Unit) 114 (fun _=>gr5V N o w x l pl il) [] (fun _ _ b=>wO w base st x N o w now l b) () v.Eu ?_ ?_
 · refine⟨?_,?_,?_,?_,?_,?_,?_,?_,?_,?_,?_,?_,?_,?_,?_,trivial⟩
   · exact ok0 0 0 0 rfl fun _=>rfl
   · exact ok1 0 0 0 44 rfl rfl (fun _ _ h=>h) fun _=>rfl
   · exact ok1 0 0 1 45 rfl rfl (fun _ _ h=>h) fun _=>rfl
   · refine okQ 0 0 fun y e q b s B a d=>?_;obtain⟨u1,i,rfl⟩:=d.g 2 46 rfl rfl;have p:ζ b o 0 (π N 0):=a.wa.wk.cell 0;simp [go_sem,Oper.wp,execOp,Act.eval,i,p];exact⟨_,rfl,rfl,a⟩
   · exact ok1 0 0 3 47 rfl rfl (fun _ _ h=>h) fun _=>rfl
   · exact ok1 0 0 4 48 rfl rfl (fun _ _ h=>h) fun _=>rfl
   · refine okQ 0 0 fun y e q b s B a d=>?_;obtain⟨u1,i,rfl⟩:=d.g 5 49 rfl rfl;have p:ζ b N 3 (.slice x.al x.nl x.cl):=a.wa.nb.cell 3;simp [go_sem,Oper.wp,execOp,Act.eval,i,p];exact⟨_,rfl,rfl,a⟩
   · exact ok0 0 0 3 rfl fun _=>rfl
   · refine okQ 0 0 fun y e q b s B a d=>?_;obtain⟨u1,i,rfl⟩:=d.g 7 51 rfl rfl;have p:ζ b w 0 (.string l.job):=a.lb.cell 0;simp [go_sem,Oper.wp,execOp,Act.eval,i,p];exact⟨_,rfl,rfl,a⟩
   · refine okQ 0 0 fun y e q b s B a d=>?_;obtain⟨u1,i,rfl⟩:=d.g 6 50 rfl rfl;obtain⟨u2,K,rfl⟩:=d.g 8 52 rfl rfl;simp [go_sem,Oper.wp,execOp,Act.eval,i,K];refine (C.z b a).mono ?_;rintro D w' ⟨rfl,X⟩;exact⟨_,rfl,rfl,a.next X⟩
   · exact ok1 0 0 9 53 rfl rfl (fun _ _ h=>h) fun _=>rfl
   · exact ok1 0 0 10 43 rfl rfl (fun _ _ h=>h) fun _=>rfl
   · exact ok1 0 0 10 43 rfl rfl (fun _ _ h=>h) fun _=>rfl
   · exact ok1 0 0 11 54 rfl rfl (fun _ _ h=>h) fun _=>rfl
   · exact ok1 0 0 12 55 rfl rfl (fun _ _ h=>h) fun _=>rfl
 intro e q b z;clear C v;have v:=ω z.ph;obtain⟨J,rfl,E⟩:=z.frame [44,45,46,47,48,49,50,51,52,53,43,54,55,9,10] rfl;have h9:J 9 = .int .i64 (pl:Int):=E 13 _ 9 rfl rfl;have a7:J 10 = .bool il:=E 14 _ 10 rfl rfl;clear z E;simp only [foldl_cons,foldl_nil,setIfInBounds_toArray,set_cons_succ,set_cons_zero,h9,a7];clear h9 a7;cases il;rotate_left
 · obtain rfl:=(if_pos a4.z).symm.trans ai.z;go_wp2;go_ret;exact P.z 7 (by decide) _ v.z
 have aa:=ω ((if_neg (by rw [a4.z]; decide)).symm.trans ai.z);clear ai
 go_wp2_with fail
 have l2:ζ b w 2 (.int .i64 l.till):=v.lb.cell 2;have k1:ζ b o 1 (.int .i64 now):=v.wa.wk.cell 1;by_cases U:l.till<=now
 · have dt:decide (l.till<=now)=true:=t8 U;obtain rfl:=(if_pos U).symm.trans aa.z;clear U aa
   go_region
   go_wp2;go_ret;exact P.z 1 (by decide) _ v.Eu
 have dt:decide (l.till<=now)=false:=fK U;have ab:=ω ((if_neg U).symm.trans aa.z);clear U aa
 go_region
 clear l2 k1 dt;have u:=ω v.Eu;clear v;obtain⟨Z,aJ⟩:∃ Z,b.drew=Z:=⟨_,rfl⟩;rw [aJ] at u |-;clear aJ;obtain⟨aQ,bb,hA,aR,bf,a8⟩:=G8 (enc:=aS) (sz:=5) (fun _=>rfl) u.wa.own.j u.wa.own.lj G;have c3:=a8 3 _ rfl;have s:=(List.getElem?_eq_some_iff.1 G).1;rw [u.z.wa.own.lj,ad.z] at s;rw [ad.z] at c3;have k0:ζ Z o 0 (π N 0):=u.wa.wk.cell 0;have n1:ζ Z N 1 (.slice x.aj x.nj x.cj):=u.wa.nb.cell 1;rw [hA] at n1;have HA:=ω hA;clear hA a8;have M:=(Ce (by rw [<- HA.z]; exact u.wa.own.j) (O*5+3) (by omega) (.int .i64 (j.tries+1))).2.1;rw [<- Nat.add_assoc] at M;have aW:=ba j (m8 G);by_cases T:j.tries=100
 · have dj:(j.tries == 100)=true:=by rw [T]; rfl
   obtain rfl:=(if_pos T).symm.trans ab.z;clear ab T;go_wp2;go_ret;exact P.z 2 (by decide) _ u.z
 have dj:(j.tries == 100)=false:=eY T;obtain rfl:=(if_neg T).symm.trans ab.z;clear ab T
 go_wp2_with fail
 have aw:=u.wa.own.j;rw [HA.z] at aw;have aI:=Ce aw (O*5+3) (by omega) (.int .i64 (j.tries+1));rw [<- Nat.add_assoc] at aI;obtain⟨Y,_,_,aT,bd,Q⟩:=aI;rw [Cd (enc:=aS) (sz:=5) (fun _=>rfl) st.jobs O 3 j (zI j) (.int .i64 (j.tries+1)) (by rw [<- ad.z]; exact G) (by decide) rfl,<- HA.z,(by rw [<- ad.z]; exact (Et H.z.sj ac.z G ae).symm:st.jobs.set O (zI j)=jI aC.name st.jobs (zI j))] at Y;obtain⟨F,M3⟩:∃ F,jI aC.name st.jobs (zI j)=F:=⟨_,rfl⟩;have a9:F.length=x.nj:=by rw [<- M3,Et H.z.sj ac.z G ae,List.length_set]; exact u.wa.own.lj
 rw [M3] at Y;obtain⟨I,L⟩:∃ I,Z.setCell ⟨aQ,bb+O*5+3,none⟩ (.int .i64 (j.tries+1))=I:=⟨_,rfl⟩;rw [L] at Y;have aF:I.ownsRow base 70 3 (.slice x.an x.nn x.cn) x.nn (au aH st.nodes):=by rw [<- L]; exact bF u.wa.own.n Q (by decide)
 have ax:I.ownsRow base 66 3 (.slice x.al x.nl x.cl) x.nl (au aB st.leases):=by rw [<- L]; exact bF u.wa.own.l Q (by decide)
 have OF:Below base w I:=by rw [<- L]; exact (u.below.mono H.w.bs).trans (aZ θ aR)
 have mq:base<=I.drew.heap.size:=v6 H.w.bs OF.size
 have a2:N0 w I base st x N o w now l F (jI ak.job st.leases l) 0 ⟨none,0,0,false⟩ I.drew:=by
  refine⟨?_,?_,?_,OF.drew,Y.drew,aF.drew,fun _=>rfl,fun _=>rfl,fun h=>absurd h (by decide)⟩
  · rw [<- L]; exact bM u.lb Q (by decide)
  · rw [<- L]; exact bM u.wa.wk Q (by decide)
  · rw [<- L]; exact bM u.wa.nb Q (by decide)
 have HD:=ω (FO base x.al x.nl x.cl st.leases l I.drew ax.drew u.wa.own.ll (by have:=H.nl; omega) H.sl mq);have V:=ω ax.drew;have aK:=ω mq;have aM:=ω H.w.bN;have aN:=ω a9;have a6:=ω M3;have Hj:=ω G;rw [L];clear L M3 a9 Y aF ax OF mq Q aT aw u c3 s k0 n1 M aW dj ae P HA;refine rq 114 (Ii N o w st x l) [12,15] (N0 w I base st x N o w now l F (jI ak.job st.leases l)) ⟨none,0,0,false⟩ a2 ?_ ?_
 · refine⟨?_,?_,?_,?_,?_,?_,?_,?_,?_,?_,?_,?_,?_,?_,?_,?_,trivial⟩
   · exact ok0 0 2 0 rfl fun _=>rfl
   · exact ok1 0 2 0 92 rfl rfl (fun _ _ h=>h) fun _=>rfl
   · exact ok1 0 2 1 93 rfl rfl (fun _ _ h=>h) fun _=>rfl
   · refine okQ 0 2 fun y e q b s B a d=>?_;obtain⟨u1,i,rfl⟩:=d.g 2 94 rfl rfl;have p:ζ b o 0 (π N 0):=a.wk.cell 0;simp [go_sem,Oper.wp,execOp,Act.eval,i,p];exact⟨_,rfl,e,fun _ _ _ h=>h,rfl,a⟩
   · exact ok0 0 2 0 rfl fun _=>rfl
   · exact ok1 0 2 4 96 rfl rfl (fun _ _ h=>h) fun _=>rfl
   · exact ok1 0 2 5 97 rfl rfl (fun _ _ h=>h) fun _=>rfl
   · refine okQ 0 2 fun y e q b s B a d=>?_;obtain⟨u1,i,rfl⟩:=d.g 6 98 rfl rfl;have p:ζ b o 0 (π N 0):=a.wk.cell 0;simp [go_sem,Oper.wp,execOp,Act.eval,i,p];exact⟨_,rfl,e,fun _ _ _ h=>h,rfl,a⟩
   · exact ok1 0 2 7 99 rfl rfl (fun _ _ h=>h) fun _=>rfl
   · exact ok1 0 2 8 100 rfl rfl (fun _ _ h=>h) fun _=>rfl
   · refine okQ 0 0 fun y e q b s B a d=>?_;obtain⟨u1,i,rfl⟩:=d.g 9 101 rfl rfl;obtain rfl:y=0:=by omega
     have p:ζ b N 3 (.slice x.al x.nl x.cl):=a.nb.cell 3;simp [go_sem,Oper.wp,execOp,Act.eval,i,p];exact⟨_,rfl,e,fun _ _ _ h=>h,rfl,a⟩
   · refine okQ 0 2 fun y e q b s B a d=>?_;have i:=d.k 3 rfl;have p:ζ b w 0 (.string l.job):=a.lb.cell 0;have aU:ζ b w 1 (.string l.node):=a.lb.cell 1;have aV:ζ b w 2 (.int .i64 l.till):=a.lb.cell 2;simp [go_sem,Oper.wp,execOp,Act.eval,i,p,aU,aV];exact⟨_,rfl,e,fun _ _ _ h=>h,rfl,a⟩
   · refine .inl ⟨0,rfl,fun e q b a d=>aL rfl ?_⟩;obtain⟨u1,i,rfl⟩:=d.g 10 102 rfl rfl;obtain⟨u2,K,rfl⟩:=d.g 11 103 rfl rfl;simp [go_sem,Oper.wp,execOp,Act.eval,i,K];obtain rfl:=a.here rfl;refine (HD.z).mono ?_;rintro D w' ⟨A',m,c',rfl,hm,ho,S⟩;exact⟨_,rfl,⟨A',m,c',true⟩,fun j bh G h=>KZ (a.unset rfl) h,⟨rfl,rfl⟩,⟨(S.grown.block _ a.lb.lt (fun D=>Nat.lt_irrefl _ ((H.w.own.l.lt _ D.symm).2))).trans a.lb,Blk.jZ a.wk S V.z (by decide),Blk.eq (Blk.jZ a.nb S V.z (by decide)) rfl,a.below.trans (S.below aK.z (fun bc hq=>(V.lt bc hq).1)),cR a.j S V.z (by decide),cR a.n S V.z (by decide),fun h=>absurd h (by decide),fun h=>absurd h (by decide),fun _=>⟨ho,hm⟩⟩⟩
   · exact ok1 0 2 3 95 rfl rfl (fun _ _ h=>h) fun _=>rfl
   · exact ok1 0 2 13 105 rfl rfl (fun _ _ h=>h) fun _=>rfl
   · refine .inl ⟨1,rfl,fun e q b a d=>aL rfl ?_⟩;obtain⟨u1,i,rfl⟩:=d.g 14 106 rfl rfl;obtain⟨u2,K,bg,rfl⟩:=d.g 12 104 rfl rfl;have hc:ζ b N 3 (.slice x.al x.nl x.cl):=a.nb.cell 3;have M:κ b N 3:=a.nb.thaw 3;simp [go_sem,Oper.wp,execOp,Act.eval,i,K,hc,M];exact⟨.int .i64 0,e,fun _ _ _ h=>h,trivial,⟨bM a.lb a.nb (by decide),bM a.wk a.nb (by decide),Blk.eq (a.nb.set 3 _) rfl,a.below.trans (aZ θ aM.z),bF a.j a.nb (by decide),bF a.n a.nb (by decide),fun h=>absurd h (by decide),fun h=>absurd h (by decide),fun _=>⟨bF (a.r (by decide)).1 a.nb (by decide),(a.r (by decide)).2⟩⟩⟩
 intro e q wy z;have a:=z.ph;obtain⟨J,rfl,E⟩:=z.frame [92,93,94,95,96,97,98,99,100,101,102,103,104,105,106] rfl;have af:Blk wy N 26 #[st.rev,.slice x.aj x.nj x.cj,.slice x.an x.nn x.cn,.slice e.A e.m e.c]:=a.nb;have az:uE wy base (⟨st.rev,F,st.nodes,jI ak.job st.leases l⟩:ah) ⟨x.aj,x.nj,x.cj,x.an,x.nn,x.cn,e.A,e.m,e.c⟩ N o now:=⟨af,a.wk,⟨a.j,a.n,(a.r (by decide)).1,aN,H.w.own.ln,(a.r (by decide)).2.symm⟩,H.w.bN,H.w.bW,v6 H.w.bs a.below.size⟩;have aX:=(a.r (by decide)).2;have xU:=sN (key:=ak.job) (x:=l) H.sl
 have aA:oF F:=by
  rw [<- a6.z];exact fun a1 M=>(nX M).elim (fun D=>by rw [D]; exact H.oj j (m8 Hj.z)) (H.oj a1)
 have HC:=ω (show ψ 37 #[.agg #[st.rev,.slice x.aj x.nj x.cj,.slice x.an x.nn x.cn,.slice e.A e.m e.c]] wy _ from pI (⟨st.rev,F,st.nodes,jI ak.job st.leases l⟩:ah) ⟨x.aj,x.nj,x.cj,x.an,x.nn,x.cn,e.A,e.m,e.c⟩ wy (az.own.at2 (by have:=H.nj; show x.nj<=1000; omega) (by have:=H.nn; show x.nn<=1000; omega) (by have:=H.w.own.ll; have:=H.nl; show e.m<=1000; omega) aA H.on_ (fun a1 M=>(nX M).elim (fun D=>by rw [D]; exact aY) (H.ol a1))) (HT.z _ a.below));have aP:=ω az;have a3:=ω a.below;have b1:ζ wy o 0 (π N 0):=a.wk.cell 0;obtain⟨n0,n1,n2,n3⟩:=Blk.c4 (af);have be:=af.lt;have aO:=ω (show (⟨st.rev,F,st.nodes,jI ak.job st.leases l⟩:ah)=j5 st j l from by rw [<- a6.z]; rfl);clear z a E af az aX xU a2 aA G;simp only [foldl_cons,foldl_nil,setIfInBounds_toArray,set_cons_succ,set_cons_zero]
 go_wp2_with fail
 refine HC.mono ?_;rintro D w5 ⟨rfl,am⟩;have bE:=ω (show iE base N o (aE (⟨st.rev,F,st.nodes,jI ak.job st.leases l⟩:ah),(⟨st.rev,F,st.nodes,jI ak.job st.leases l⟩:ah),now) w (.returned (.int .i64 (aE (⟨st.rev,F,st.nodes,jI ak.job st.leases l⟩:ah)))) w5 from ⟨rfl,a3.trans (am.mono (v6 H.w.bs a3.size)),fun _=>⟨_,aP.below am⟩⟩);rw [aO.z] at bE |-;clear am b1 n0 n1 n2 n3 HC;go_wp2;go_ret;exact bE
theorem K1 :
 (∀ (base:Nat) (st:ah) (x:StA) (N a:Nat) (now:Int) (q:aK) (w:World) (h:An w base st x N a now) (e:8<=q.kind),ψ 81 #[π a 0,bP q] w (iE base N a (0,st,now) w)) /\
 (∀ (base:Nat) (st:ah) (x:StA) (N a:Nat) (now:Int) (q:aK) (w:World) (h:An w base st x N a now) (e:q.kind=5) (l:wH base w) (m:∀ j ∈ st.jobs,0<=j.tries/\j.tries<=100) (v:q.lease.job.size<=9223372036854775807/\q.lease.node.size<=9223372036854775807),ψ 81 #[π a 0,bP q] w (iE base N a (oG st now q.lease) w)):=by
 refine⟨@fun base st x N a now q w h e=>(fun(n:Unit)=>?_) (),@fun base st x N a now q w h e l m v=>(fun(g:Unit)=>?_) ()⟩<;>(
 obtain⟨W,b⟩:∃ W,(w.alloc (.cells #[π a 0] 159)).alloc (.cells (aV q) 87)=W:=⟨_,rfl⟩;have d:Below w w W:=by rw [<- b]; exact ((θ).alloc lJ _).alloc (by simp) _
 first
  |(
   guard_hyp g
   have s:Blk W w 159 #[π a 0]:=by rw [<- b]; exact Blk.alloc (show Blk _ _ _ _ from n5 w _) _)
  |skip
 have c:Blk W (w.heap.size+1) 87 (aV q):=by
  rw [<- b];have:=n5 (χ w #[π a 0] 159) (.cells (aV q) 87);rwa [show (w.alloc (.cells #[π a 0] 159)).heap.size=w.heap.size+1 by simp] at this
 have i:=h.w.below d
 first
  |(
   guard_hyp g
   have z:ζ W (w.heap.size+1) 0 (.int .i64 5):=by rw [c.cell 0,<- e]; rfl
   have O:ζ W (w.heap.size+1) 9 (.string q.lease.job):=c.cell 9;have L:ζ W (w.heap.size+1) 10 (.string q.lease.node):=c.cell 10)
  |skip
 first|(guard_hyp n;have z:ζ W (w.heap.size+1) 0 (.int .i64 q.kind):=c.cell 0)|have M:ζ W (w.heap.size+1) 11 (.int .i64 q.lease.till):=c.cell 11
 first
  |(
   guard_hyp n
   have o:=ω (show iE base N a (0,st,now) w (.returned (.int .i64 0)) W from ⟨rfl,d.mono h.w.bs,fun _=>⟨x,i⟩⟩);have D:(q.kind == 1)=false:=eY (by omega);have E:(q.kind == 2)=false:=eY (by omega);have F:(q.kind == 3)=false:=eY (by omega);have G:(q.kind == 4)=false:=eY (by omega);have H:(q.kind == 5)=false:=eY (by omega);have I:(q.kind == 6)=false:=eY (by omega);have J:(q.kind == 7)=false:=eY (by omega);clear d c i h e)
  |(
   guard_hyp g
   have C:ζ W w 0 (π a 0):=s.cell 0;have k:=ω (Jg base st x N a now q.lease W ⟨i,h.nj,h.nn,h.nl,h.oj,h.on_,h.ol,h.sj,h.sn,h.sl⟩ (l.next (d.mono h.w.bs)) m v);have y:=ω (d.mono h.w.bs);clear d s c i h e l m)
 unfold bP;unfold aV at b |-
 first
  |(
   guard_hyp g
   obtain⟨R,p⟩:∃ R,oG st now q.lease=R:=⟨_,rfl⟩;rw [p] at k |-;clear p)
  |skip
 go_enter Tryz.func81,Tryz.ntmps81
 first
  |(
   guard_hyp g
   go_wp2_with fail
   try rw [b]
   clear b;refine k.mono ?_;rintro K B ⟨rfl,r,u⟩;have o:=ω (show iE base N a R w (.returned (.int .i64 R.1)) B from ⟨rfl,y.trans r,u⟩);clear r u k)
  |skip
 go_wp2;go_ret
 first
  |(
   guard_hyp n
   try rw [b])
  |skip
 exact o)
structure QOk (q:aK):Prop where
 j:q.job.name.size<=9223372036854775807/\q.job.tag.size<=9223372036854775807
 n:q.node.name.size<=9223372036854775807/\q.node.zone.size<=9223372036854775807
 l:q.lease.job.size<=9223372036854775807/\q.lease.node.size<=9223372036854775807
theorem OG (base:Nat) (st:ah) (x:StA) (N a:Nat) (now:Int) (q:aK) (w:World) (h:An w base st x N a now) (b:wH base w) (i:∀ j ∈ st.jobs,0<=j.tries/\j.tries<=100) (c:QOk q) (k:1<=q.kind) (e:0<=now) (g:now<=1099511627776) (d:q.kind=7->0<=q.n/\q.n<=1099511627776) :
 ψ 81 #[π a 0,bP q] w (iE base N a (doR st now q) w):=by
 unfold doR
 split
 · exact Ky.1 base st x N a now q w h ‹_› c.j b
 split
 · exact Ky.2 base st x N a now q w h ‹_› c.n b
 split
 · exact FS.1 base st x N a now q w h ‹_›
 split
 · exact FS.2.1 base st x N a now q w h ‹_›
 split
 · exact K1.2 base st x N a now q w h ‹_› b i c.l
 split
 · exact FS.2.2 base st x N a now q w h ‹_›
 split
 · exact do_7 base st x N a now q w h ‹_› e g (d ‹_›).1 (d ‹_›).2
 · exact K1.1 base st x N a now q w h (by omega)
def K6 (q:aK):Prop:=∀ (base:Nat) (st:ah) (x:StA) (N a:Nat) (now:Int) (w:World),An w base st x N a now->wH base w->(∀ j ∈ st.jobs,0<=j.tries/\j.tries<=100)->0<=now->now<=1099511627776 ->
 ψ 81 #[π a 0,bP q] w (iE base N a (doR st now q) w)
end Go.Proofs.YtimglglgcgpjgaaGreatDoor
