/- Of the proof of a statement: DoC, Grant, DoD. -/
import Derived.Test.YtoeejfhdjmkpcaaGreatDoorUDoB
set_option linter.unusedVariables false
set_option linter.unusedSimpArgs false
set_option maxRecDepth 100000
set_option maxHeartbeats 8000000
/- (*work).do at the tick, and at the kinds that change nothing. -/
namespace Go.Proofs.YtoeejfhdjmkpcaaGreatDoor
open Go.Lib (hid)
open List (foldl_cons foldl_nil setIfInBounds_toArray set_cons_succ set_cons_zero)
open Go.RowKit
theorem Fy (BP WK N:Nat) (t:Int) (w:World) (g:Option Nat) (hb:Blk w BP 111 #[.pointer (some ⟨WK,0,none⟩)]) (hk:Blk w WK 114 #[.pointer (some ⟨N,0,none⟩),.int .i64 t]) (hg:g≠some BP) (hg2:g≠some WK):wD (fun l=>decide (l.till≤t)) 144 #[.pointer (some ⟨BP,0,none⟩)] w g:=by
 intro W hW x
 have hb1:Blk W BP 111 #[.pointer (some ⟨WK,0,none⟩)]:=(hW.block BP hb.lt (fun e=>hg e.symm)).trans hb
 have hk1:Blk W WK 114 #[.pointer (some ⟨N,0,none⟩),.int .i64 t]:=(hW.block WK hk.lt (fun e=>hg2 e.symm)).trans hk
 have h1:W.cell? ⟨BP,0,none⟩=some (.pointer (some ⟨WK,0,none⟩)):=hb1.cell 0
 have h2:W.cell? ⟨WK,1,none⟩=some (.int .i64 t):=hk1.cell 1
 have hl:=hb1.lt
 have hl2:=hk1.lt
 obtain⟨job,node,till⟩:=x
 show Calls Tryz.prog 144 #[.agg #[.string job,.string node,.int .i64 till],.pointer (some ⟨BP,0,none⟩)] W _
 clear hb hk hW hb1 hk1
 go_enter Tryz.func144,Tryz.ntmps144
 go_wp2
 all_goals first | go_quiet (fail) | skip
 go_wp2
 go_ret
 exact⟨rfl,((Below.refl _ _).alloc (Nat.le_refl _) _).trans ⟨rfl,rfl,rfl,Nat.le_refl _,fun _ _=>rfl⟩⟩
theorem do_7 (base:Nat) (st:ak) (x:StA) (N WK:Nat) (now:Int) (q:aU) (w:World) (h:yX w base st x N WK now) (hq:q.kind=7) (hn0:0≤now) (hn1:now≤1099511627776) (hq0:0≤q.n) (hq1:q.n≤1099511627776) :
 Calls Tryz.prog 45 #[.pointer (some ⟨WK,0,none⟩),bT q] w (fZ base N WK (if 1099511627776 - now<q.n then (1,st,now) else (0,uQ st (now+q.n),now+q.n)) w):=by
 obtain⟨W,hW⟩:∃ W,(w.alloc (.cells #[.pointer (some ⟨WK,0,none⟩)] 111)).alloc (.cells (aT q) 40)=W:=⟨_,rfl⟩
 have hbW:Below w.heap.size w W:=by rw [← hW]; exact ((Below.refl _ _).alloc (Nat.le_refl _) _).alloc (by simp) _
 have hbp:Blk W w.heap.size 111 #[.pointer (some ⟨WK,0,none⟩)]:=by rw [← hW]; exact Blk.alloc (show Blk _ _ _ _ from heap_alloc_new w _) _
 have hqb:Blk W (w.heap.size+1) 40 (aT q):=by
  rw [← hW]
  have:=heap_alloc_new (w.alloc (.cells #[.pointer (some ⟨WK,0,none⟩)] 111)) (.cells (aT q) 40)
  rwa [show (w.alloc (.cells #[.pointer (some ⟨WK,0,none⟩)] 111)).heap.size=w.heap.size+1 by simp] at this
 have hw:=h.w.below hbW
 have hk0:W.cell? ⟨w.heap.size+1,0,none⟩=some (.int .i64 7):=by rw [hqb.cell 0,← hq]; rfl
 have q13:W.cell? ⟨w.heap.size+1,13,none⟩=some (.int .i64 q.n):=hqb.cell 13
 have bp0:W.cell? ⟨w.heap.size,0,none⟩=some (.pointer (some ⟨WK,0,none⟩)):=hbp.cell 0
 have wk1:W.cell? ⟨WK,1,none⟩=some (.int .i64 now):=hw.wk.cell 1
 have wkz:W.frozen? ⟨WK,1,none⟩=false:=hw.wk.thaw 1
 have H:=hid h
 have Hw:=hid hw
 have HbW:=hid (hbW.mono h.w.bs)
 have Hbp:=hid hbp
 clear hbW hbp hqb hw h
 unfold bT
 unfold aT at hW ⊢
 clear hq
 by_cases hgt:1099511627776 - now<q.n
 · rw [if_pos hgt]
   have d1:decide (1099511627776 - now<q.n)=true:=decide_eq_true hgt
   go_enter Tryz.func45,Tryz.ntmps45
   go_wp2_with fail
   try rw [hW]
   clear hW
   go_region
   go_wp2
   go_ret
   exact⟨rfl,HbW.out.drew,fun h=>absurd h (by decide:(1:Int)≠0)⟩
 · rw [if_neg hgt]
   have d1:decide (1099511627776 - now<q.n)=false:=decide_eq_false hgt
   go_enter Tryz.func45,Tryz.ntmps45
   go_wp2_with fail
   try rw [hW]
   clear hW
   go_region
   go_wp2
   go_region
   obtain⟨W2,hW2⟩:∃ W2,(W.setCell ⟨WK,1,none⟩ (.int .i64 (now+q.n))).drew.drew=W2:=⟨_,rfl⟩
   have hw2:nE W2 base st x N WK (now+q.n):=by
    rw [← hW2]
    have ho:=Hw.out.own
    exact⟨bg Hw.out.nb Hw.out.wk (by decide),Blk.eq (Hw.out.wk.set 1 _) rfl,⟨(aV ho.j Hw.out.wk (by decide)).drew.drew,(aV ho.n Hw.out.wk (by decide)).drew.drew,(aV ho.l Hw.out.wk (by decide)).drew.drew,ho.lj,ho.ln,ho.ll⟩,Hw.out.bN,Hw.out.bW,by show base≤(W.setCell _ _).heap.size; simpa using Hw.out.bs⟩
   have hb2:Blk W2 w.heap.size 111 #[.pointer (some ⟨WK,0,none⟩)]:=by
    rw [← hW2]
    exact bg Hbp.out Hw.out.wk (by decide)
   have HbX:=hid (show Below base w W2 from by rw [← hW2]; exact (HbW.out.trans (aO (Below.refl _ _) Hw.out.bW)).drew.drew)
   have b0:W2.cell? ⟨w.heap.size,0,none⟩=some (.pointer (some ⟨WK,0,none⟩)):=hb2.cell 0
   have hol:=hw2.own.l
   have HWO:=hid (pB (fun l=>decide (l.till≤now+q.n)) 144 #[.pointer (some ⟨w.heap.size,0,none⟩)] base st x N WK (now+q.n) W2 hw2 (by have:=H.out.nl; omega) (enters_of Tryz.func144 (by kernel_rfl) rfl) (Fy w.heap.size WK N (now+q.n) W2 _ hb2 hw2.wk (lF hb2 hol (by decide)) (lF hw2.wk hol (by decide))))
   rw [hW2]
   clear hW2 hw2 hb2 hol Hw Hbp q13 bp0 wk1 wkz hk0
   go_wp2_with fail
   refine Calls.mono HWO.out ?_
   rintro e w5 ⟨rfl,⟨x',hwk⟩,hb5⟩
   have aS:=hid (show fZ base N WK (0,uQ st (now+q.n),now+q.n) w (.returned (.int .i64 0)) w5 from ⟨rfl,HbX.out.trans hb5,fun _=>⟨x',hwk⟩⟩)
   clear hwk hb5 b0 HWO
   go_wp2
   go_ret
   exact aS.out
theorem do_8 (base:Nat) (st:ak) (x:StA) (N WK:Nat) (now:Int) (q:aU) (w:World) (h:yX w base st x N WK now) (hq:8≤q.kind) :
 Calls Tryz.prog 45 #[.pointer (some ⟨WK,0,none⟩),bT q] w (fZ base N WK (0,st,now) w):=by
 obtain⟨W,hW⟩:∃ W,(w.alloc (.cells #[.pointer (some ⟨WK,0,none⟩)] 111)).alloc (.cells (aT q) 40)=W:=⟨_,rfl⟩
 have hbW:Below w.heap.size w W:=by rw [← hW]; exact ((Below.refl _ _).alloc (Nat.le_refl _) _).alloc (by simp) _
 have hqb:Blk W (w.heap.size+1) 40 (aT q):=by
  rw [← hW]
  have:=heap_alloc_new (w.alloc (.cells #[.pointer (some ⟨WK,0,none⟩)] 111)) (.cells (aT q) 40)
  rwa [show (w.alloc (.cells #[.pointer (some ⟨WK,0,none⟩)] 111)).heap.size=w.heap.size+1 by simp] at this
 have hw:=h.w.below hbW
 have hk0:W.cell? ⟨w.heap.size+1,0,none⟩=some (.int .i64 q.kind):=hqb.cell 0
 have aS:=hid (show fZ base N WK (0,st,now) w (.returned (.int .i64 0)) W from ⟨rfl,hbW.mono h.w.bs,fun _=>⟨x,hw⟩⟩)
 have d1:(q.kind == 1)=false:=beq_false_of_ne (by omega)
 have d2:(q.kind == 2)=false:=beq_false_of_ne (by omega)
 have d3:(q.kind == 3)=false:=beq_false_of_ne (by omega)
 have d4:(q.kind == 4)=false:=beq_false_of_ne (by omega)
 have d5:(q.kind == 5)=false:=beq_false_of_ne (by omega)
 have d6:(q.kind == 6)=false:=beq_false_of_ne (by omega)
 have d7:(q.kind == 7)=false:=beq_false_of_ne (by omega)
 clear hbW hqb hw h hq
 unfold bT
 unfold aT at hW ⊢
 go_enter Tryz.func45,Tryz.ntmps45
 go_wp2
 go_ret
 try rw [hW]
 exact aS.out
end Go.Proofs.YtoeejfhdjmkpcaaGreatDoor
/- (*work).grant, and (*work).do at the grant. -/
namespace Go.Proofs.YtoeejfhdjmkpcaaGreatDoor
open Go.Lib (hid)
open List (foldl_cons foldl_nil setIfInBounds_toArray set_cons_succ set_cons_zero)
open Go.RowKit
theorem BQ {st:ak} {now:Int} {l:ah} (hs:aK aA.name st.jobs) (h:isL aA.name st.jobs l.job=false):kT st now l=(6,st,now):=by
 rw [nB hs] at h
 unfold kT dA
 cases hf:st.jobs.find? fun a=>decide (a.name=l.job) with
 | none=>rfl
 | some j=>rw [hf] at h; cases h
theorem BR {st:ak} {now:Int} {l:ah} {j:aA} (hs:aK aA.name st.jobs) (hn:aK av.name st.nodes) (hl:aK ah.job st.leases) (hj:st.jobs[dG aA.name st.jobs l.job]? = some j) (hk:j.name=l.job) :
 kT st now l=if isL av.name st.nodes l.node=false then (6,st,now) else if isL ah.job st.leases l.job=true then (7,st,now) else if l.till≤now then (1,st,now) else if j.tries=100 then (2,st,now) else (aG (oq st j l),oq st j l,now):=by
 have h1:dA st.jobs l.job=some j:=JL hs hj hk
 have h2:isL av.name st.nodes l.node=(dh st.nodes l.node).isSome:=nB hn
 have h3:isL ah.job st.leases l.job=(dQ st.leases l.job).isSome:=nB hl
 unfold kT
 rw [h1,h2,h3]
theorem BS {l:List aA} {s:ByteArray} {j:aA} (hs:aK aA.name l) (hi:isL aA.name l s=true) (hj:l[dG aA.name l s]? = some j) (hk:j.name=s):iN aA.name l (BT j)=l.set (dG aA.name l s) (BT j):=by
 have h1:aA.name (BT j)=s:=hk
 rw [oZ hs,h1,if_pos hi,List.set_eq_take_append_cons_drop,if_pos (List.getElem?_eq_some_iff.1 hj).1]
structure tC (w:World) (base:Nat) (st:ak) (x:StA) (N WK L:Nat) (now:Int) (l:ah) (wx:World):Prop where
 lb:Blk wx L 38 #[.string l.job,.string l.node,.int .i64 l.till]
 wa:nE wx base st x N WK now
 below:Below w.heap.size w wx
theorem tC.next {w w' wx:World} {base:Nat} {st:ak} {x:StA} {N WK L:Nat} {now:Int} {l:ah} (h:tC w base st x N WK L now l wx) (hb:Below wx.heap.size wx w'):tC w base st x N WK L now l w':=
 ⟨h.lb.below hb h.lb.lt,h.wa.below hb,h.below.trans (hb.mono h.below.size)⟩
structure Ln (w W:World) (base:Nat) (st:ak) (x:StA) (N WK L:Nat) (now:Int) (l:ah) (js:List aA) (ls:List ah) (p:Nat) (γ:og) (wx:World):Prop where
 lb:Blk wx L 38 #[.string l.job,.string l.node,.int .i64 l.till]
 wk:Blk wx WK 114 #[.pointer (some ⟨N,0,none⟩),.int .i64 now]
 nb:Blk wx N 26 #[.int .i64 st.rev,.slice x.aj x.nj x.cj,.slice x.an x.nn x.cn,if p<2 then .slice x.al x.nl x.cl else .slice γ.A γ.m γ.c]
 below:Below base w wx
 j:wx.ownsRow base 34 5 (.slice x.aj x.nj x.cj) x.nj (au aJ js)
 n:wx.ownsRow base 36 3 (.slice x.an x.nn x.cn) x.nn (au aB st.nodes)
 here:p=0→wx=W.drew
 unset:p=0→γ.s=false
 r:0<p→wx.ownsRow base 38 3 (.slice γ.A γ.m γ.c) γ.m (au ay ls)∧γ.m=ls.length
def gr1V (N WK L:Nat) (x:StA) (l:ah) (t:Nat) (i:Bool):Nat→Value→Prop
 | 0,u=>u = .pointer (some ⟨WK,0,none⟩)
 | 1,u=>u = .pointer (some ⟨WK,0,none⟩)
 | 2,u=>u = .pointer (some ⟨WK,0,none⟩)
 | 3,u=>u = .pointer (some ⟨N,0,none⟩)
 | 4,u=>u = .pointer (some ⟨N,0,none⟩)
 | 5,u=>u = .pointer (some ⟨N,1,none⟩)
 | 6,u=>u = .slice x.aj x.nj x.cj
 | 7,u=>u = .pointer (some ⟨L,0,none⟩)
 | 8,u=>u = .string l.job
 | 9,u=>u = .tuple #[.int .i64 (t:Int),.bool i]
 | 10,u=>u = .tuple #[.int .i64 (t:Int),.bool i]
 | 11,u=>u = .int .i64 (t:Int)
 | 12,u=>u = .bool i
 | 13,u=>u = .int .i64 (t:Int)
 | 14,u=>u = .bool i
 | _,_=>False
def gr2V (N WK L:Nat) (x:StA) (l:ah) (t:Nat) (i:Bool):Nat→Value→Prop
 | 0,u=>u = .pointer (some ⟨WK,0,none⟩)
 | 1,u=>u = .pointer (some ⟨WK,0,none⟩)
 | 2,u=>u = .pointer (some ⟨WK,0,none⟩)
 | 3,u=>u = .pointer (some ⟨N,0,none⟩)
 | 4,u=>u = .pointer (some ⟨N,0,none⟩)
 | 5,u=>u = .pointer (some ⟨N,2,none⟩)
 | 6,u=>u = .slice x.an x.nn x.cn
 | 7,u=>u = .pointer (some ⟨L,1,none⟩)
 | 8,u=>u = .string l.node
 | 9,u=>u = .tuple #[.int .i64 (t:Int),.bool i]
 | 10,u=>u = .tuple #[.int .i64 (t:Int),.bool i]
 | 11,u=>u = .int .i64 (t:Int)
 | 12,u=>u = .bool i
 | 13,u=>u = .int .i64 (t:Int)
 | 14,u=>u = .bool i
 | _,_=>False
def gr5V (N WK L:Nat) (x:StA) (l:ah) (t:Nat) (i:Bool):Nat→Value→Prop
 | 0,u=>u = .pointer (some ⟨WK,0,none⟩)
 | 1,u=>u = .pointer (some ⟨WK,0,none⟩)
 | 2,u=>u = .pointer (some ⟨WK,0,none⟩)
 | 3,u=>u = .pointer (some ⟨N,0,none⟩)
 | 4,u=>u = .pointer (some ⟨N,0,none⟩)
 | 5,u=>u = .pointer (some ⟨N,3,none⟩)
 | 6,u=>u = .slice x.al x.nl x.cl
 | 7,u=>u = .pointer (some ⟨L,0,none⟩)
 | 8,u=>u = .string l.job
 | 9,u=>u = .tuple #[.int .i64 (t:Int),.bool i]
 | 10,u=>u = .tuple #[.int .i64 (t:Int),.bool i]
 | 11,u=>u = .int .i64 (t:Int)
 | 12,u=>u = .bool i
 | 13,u=>u = .int .i64 (t:Int)
 | 14,u=>u = .bool i
 | _,_=>False
def Es (N WK L:Nat) (st:ak) (x:StA) (l:ah) (γ:og):Nat→Value→Prop
 | 0,u=>u = .pointer (some ⟨WK,0,none⟩)
 | 1,u=>u = .pointer (some ⟨WK,0,none⟩)
 | 2,u=>u = .pointer (some ⟨WK,0,none⟩)
 | 3,u=>u = .pointer (some ⟨N,0,none⟩)
 | 4,u=>u = .pointer (some ⟨WK,0,none⟩)
 | 5,u=>u = .pointer (some ⟨WK,0,none⟩)
 | 6,u=>u = .pointer (some ⟨WK,0,none⟩)
 | 7,u=>u = .pointer (some ⟨N,0,none⟩)
 | 8,u=>u = .pointer (some ⟨N,0,none⟩)
 | 9,u=>u = .pointer (some ⟨N,3,none⟩)
 | 10,u=>u = .slice x.al x.nl x.cl
 | 11,u=>u = .agg #[.string l.job,.string l.node,.int .i64 l.till]
 | 12,u=>γ.s=true∧u = .slice γ.A γ.m γ.c
 | 13,u=>u = .pointer (some ⟨N,0,none⟩)
 | 14,u=>u = .pointer (some ⟨N,3,none⟩)
 | 15,_=>True
 | _,_=>False
theorem Ip {N WK L:Nat} {st:ak} {x:StA} {l:ah} {γ γ':og} {j:Nat} {v:Value} (hn:γ.s=false) (h:Es N WK L st x l γ j v):Es N WK L st x l γ' j v:=by
 unfold Es at *
 split at h
 all_goals first | exact h | (obtain⟨hs,_⟩:=h; rw [hn] at hs; cases hs)
theorem tC.BU {w wx:World} {base:Nat} {st:ak} {x:StA} {N WK L:Nat} {now:Int} {l:ah} (h:tC w base st x N WK L now l wx):tC w base st x N WK L now l wx.drew:=
 h.next (Below.refl _ _).drew
theorem Fz (base:Nat) (st:ak) (x:StA) (N WK:Nat) (now:Int) (l:ah) (w:World) (h:yX w base st x N WK now) (hT:vP base w) (htr:∀ j ∈ st.jobs,0≤j.tries∧j.tries≤100) (hok:l.job.size≤9223372036854775807∧l.node.size≤9223372036854775807) :
 Calls Tryz.prog 142 #[.pointer (some ⟨WK,0,none⟩),.agg #[.string l.job,.string l.node,.int .i64 l.till]] w (fZ base N WK (kT st now l) w):=by
 obtain⟨W,hW⟩:∃ W,w.alloc (.cells #[.string l.job,.string l.node,.int .i64 l.till] 38)=W:=⟨_,rfl⟩
 have hbW:Below w.heap.size w W:=by rw [← hW]; exact (Below.refl _ _).alloc (Nat.le_refl _) _
 have hlb:Blk W w.heap.size 38 #[.string l.job,.string l.node,.int .i64 l.till]:=by rw [← hW]; exact heap_alloc_new w _
 have H:=hid h
 have HT:=hid hT
 have H0:=hid (show tC w base st x N WK w.heap.size now l W from ⟨hlb,h.w.below hbW,hbW⟩)
 have aS:=hid (fun (e:Int) (he:e≠0) (wx:World) (hp:tC w base st x N WK w.heap.size now l wx)=>(show fZ base N WK (e,st,now) w (.returned (.int .i64 e)) wx from ⟨rfl,hp.below.mono H.out.w.bs,fun h0=>absurd h0 he⟩))
 clear hbW hlb h hT
 obtain⟨pj,hpj⟩:∃ t,dG aA.name st.jobs l.job=t:=⟨_,rfl⟩
 obtain⟨ij,hij⟩:∃ t,isL aA.name st.jobs l.job=t:=⟨_,rfl⟩
 obtain⟨pn,hpn⟩:∃ t,dG av.name st.nodes l.node=t:=⟨_,rfl⟩
 obtain⟨inn,hin⟩:∃ t,isL av.name st.nodes l.node=t:=⟨_,rfl⟩
 obtain⟨pl,hpl⟩:∃ t,dG ah.job st.leases l.job=t:=⟨_,rfl⟩
 obtain⟨il,hil⟩:∃ t,isL ah.job st.leases l.job=t:=⟨_,rfl⟩
 obtain⟨R,hR⟩:∃ R,kT st now l=R:=⟨_,rfl⟩
 rw [hR]
 have HR:=hid hR
 clear hR
 have HP:=hid (fun (wx:World) (hp:tC w base st x N WK w.heap.size now l wx)=>(show Calls Tryz.prog _ _ wx (dU aA.name st.jobs l.job wx) from uo l.job st.jobs x.aj x.nj x.cj wx (cP hp.wa.own.j) hp.wa.own.lj (by have:=H.out.nj; omega) H.out.sj))
 unfold dU at HP
 rw [hpj,hij] at HP
 have Hpj:=hid hpj
 have Hij:=hid hij
 clear hpj hij
 go_enter Tryz.func142,Tryz.ntmps142
 go_wp2_with fail
 try rw [hW]
 clear hW
 refine rq (Γ:=Unit) 114 (fun _=>gr1V N WK w.heap.size x l pj ij) [] (fun _ _ wx=>tC w base st x N WK w.heap.size now l wx) () H0.out.BU ?_ ?_
 · refine⟨?_,?_,?_,?_,?_,?_,?_,?_,?_,?_,?_,?_,?_,?_,?_,trivial⟩
   · exact ok0 0 0 0 rfl fun _=>rfl
   · exact ok1 0 0 0 12 rfl rfl (fun _ _ h=>h) fun _=>rfl
   · exact ok1 0 0 1 13 rfl rfl (fun _ _ h=>h) fun _=>rfl
   · refine okQ 0 0 fun p γ a wx hpl hph hp hk=>?_
     obtain⟨u1,h1,rfl⟩:=hk.g 2 14 rfl rfl
     have hc0:wx.cell? ⟨WK,0,none⟩=some (.pointer (some ⟨N,0,none⟩)):=hp.wa.wk.cell 0
     simp [go_sem,Oper.wp,execOp,Act.eval,h1,hc0]
     exact⟨_,rfl,rfl,hp⟩
   · exact ok1 0 0 3 15 rfl rfl (fun _ _ h=>h) fun _=>rfl
   · exact ok1 0 0 4 16 rfl rfl (fun _ _ h=>h) fun _=>rfl
   · refine okQ 0 0 fun p γ a wx hpl hph hp hk=>?_
     obtain⟨u1,h1,rfl⟩:=hk.g 5 17 rfl rfl
     have hc0:wx.cell? ⟨N,1,none⟩=some (.slice x.aj x.nj x.cj):=hp.wa.nb.cell 1
     simp [go_sem,Oper.wp,execOp,Act.eval,h1,hc0]
     exact⟨_,rfl,rfl,hp⟩
   · exact ok0 0 0 3 rfl fun _=>rfl
   · refine okQ 0 0 fun p γ a wx hpl hph hp hk=>?_
     obtain⟨u1,h1,rfl⟩:=hk.g 7 19 rfl rfl
     have hc0:wx.cell? ⟨w.heap.size,0,none⟩=some (.string l.job):=hp.lb.cell 0
     simp [go_sem,Oper.wp,execOp,Act.eval,h1,hc0]
     exact⟨_,rfl,rfl,hp⟩
   · refine okQ 0 0 fun p γ a wx hpl hph hp hk=>?_
     obtain⟨u1,h1,rfl⟩:=hk.g 6 18 rfl rfl
     obtain⟨u2,h2,rfl⟩:=hk.g 8 20 rfl rfl
     simp [go_sem,Oper.wp,execOp,Act.eval,h1,h2]
     refine (HP.out wx hp).mono ?_
     rintro e w' ⟨rfl,hb⟩
     exact⟨_,rfl,rfl,hp.next hb⟩
   · exact ok1 0 0 9 21 rfl rfl (fun _ _ h=>h) fun _=>rfl
   · exact ok1 0 0 10 11 rfl rfl (fun _ _ h=>h) fun _=>rfl
   · exact ok1 0 0 10 11 rfl rfl (fun _ _ h=>h) fun _=>rfl
   · exact ok1 0 0 11 22 rfl rfl (fun _ _ h=>h) fun _=>rfl
   · exact ok1 0 0 12 23 rfl rfl (fun _ _ h=>h) fun _=>rfl
 intro γ a wx hd
 clear HP H0
 have H0:=hid hd.ph
 obtain⟨fv,rfl,hfv⟩:=hd.frame [12,13,14,15,16,17,18,19,20,21,11,22,23,5,6] rfl
 have h5:fv 5 = .int .i64 (pj:Int):=hfv 13 _ 5 rfl rfl
 have h6:fv 6 = .bool ij:=hfv 14 _ 6 rfl rfl
 clear hd hfv
 simp only [foldl_cons,foldl_nil,setIfInBounds_toArray,set_cons_succ,set_cons_zero,h5,h6]
 clear h5 h6
 have HP:=hid (fun (wx:World) (hp:tC w base st x N WK w.heap.size now l wx)=>(show Calls Tryz.prog _ _ wx (dU av.name st.nodes l.node wx) from qY l.node st.nodes x.an x.nn x.cn wx (cP hp.wa.own.n) hp.wa.own.ln (by have:=H.out.nn; omega) H.out.sn))
 unfold dU at HP
 rw [hpn,hin] at HP
 have Hin:=hid hin
 clear hpn hin
 go_wp2_with fail
 refine rq (Γ:=Unit) 114 (fun _=>gr2V N WK w.heap.size x l pn inn) [] (fun _ _ wx=>tC w base st x N WK w.heap.size now l wx) () H0.out.BU ?_ ?_
 · refine⟨?_,?_,?_,?_,?_,?_,?_,?_,?_,?_,?_,?_,?_,?_,?_,trivial⟩
   · exact ok0 0 0 0 rfl fun _=>rfl
   · exact ok1 0 0 0 25 rfl rfl (fun _ _ h=>h) fun _=>rfl
   · exact ok1 0 0 1 26 rfl rfl (fun _ _ h=>h) fun _=>rfl
   · refine okQ 0 0 fun p γ a wx hpl hph hp hk=>?_
     obtain⟨u1,h1,rfl⟩:=hk.g 2 27 rfl rfl
     have hc0:wx.cell? ⟨WK,0,none⟩=some (.pointer (some ⟨N,0,none⟩)):=hp.wa.wk.cell 0
     simp [go_sem,Oper.wp,execOp,Act.eval,h1,hc0]
     exact⟨_,rfl,rfl,hp⟩
   · exact ok1 0 0 3 28 rfl rfl (fun _ _ h=>h) fun _=>rfl
   · exact ok1 0 0 4 29 rfl rfl (fun _ _ h=>h) fun _=>rfl
   · refine okQ 0 0 fun p γ a wx hpl hph hp hk=>?_
     obtain⟨u1,h1,rfl⟩:=hk.g 5 30 rfl rfl
     have hc0:wx.cell? ⟨N,2,none⟩=some (.slice x.an x.nn x.cn):=hp.wa.nb.cell 2
     simp [go_sem,Oper.wp,execOp,Act.eval,h1,hc0]
     exact⟨_,rfl,rfl,hp⟩
   · exact ok0 0 0 3 rfl fun _=>rfl
   · refine okQ 0 0 fun p γ a wx hpl hph hp hk=>?_
     obtain⟨u1,h1,rfl⟩:=hk.g 7 32 rfl rfl
     have hc0:wx.cell? ⟨w.heap.size,1,none⟩=some (.string l.node):=hp.lb.cell 1
     simp [go_sem,Oper.wp,execOp,Act.eval,h1,hc0]
     exact⟨_,rfl,rfl,hp⟩
   · refine okQ 0 0 fun p γ a wx hpl hph hp hk=>?_
     obtain⟨u1,h1,rfl⟩:=hk.g 6 31 rfl rfl
     obtain⟨u2,h2,rfl⟩:=hk.g 8 33 rfl rfl
     simp [go_sem,Oper.wp,execOp,Act.eval,h1,h2]
     refine (HP.out wx hp).mono ?_
     rintro e w' ⟨rfl,hb⟩
     exact⟨_,rfl,rfl,hp.next hb⟩
   · exact ok1 0 0 9 34 rfl rfl (fun _ _ h=>h) fun _=>rfl
   · exact ok1 0 0 10 24 rfl rfl (fun _ _ h=>h) fun _=>rfl
   · exact ok1 0 0 10 24 rfl rfl (fun _ _ h=>h) fun _=>rfl
   · exact ok1 0 0 11 35 rfl rfl (fun _ _ h=>h) fun _=>rfl
   · exact ok1 0 0 12 36 rfl rfl (fun _ _ h=>h) fun _=>rfl
 intro γ a wx hd
 clear HP H0
 have H0:=hid hd.ph
 obtain⟨fv,rfl,hfv⟩:=hd.frame [25,26,27,28,29,30,31,32,33,34,24,35,36,7,8] rfl
 have h7:fv 7 = .int .i64 (pn:Int):=hfv 13 _ 7 rfl rfl
 have h8:fv 8 = .bool inn:=hfv 14 _ 8 rfl rfl
 clear hd hfv
 simp only [foldl_cons,foldl_nil,setIfInBounds_toArray,set_cons_succ,set_cons_zero,h7,h8]
 clear h7 h8
 cases ij
 · obtain rfl:=(BQ H.out.sj Hij.out).symm.trans HR.out
   go_wp2
   go_ret
   exact aS.out 6 (by decide) _ H0.out
 obtain⟨j,hj,hjn⟩:=l7 Hij.out
 have HR2:=hid ((BR H.out.sj H.out.sn H.out.sl hj hjn).symm.trans HR.out)
 cases inn
 · obtain rfl:=(if_pos Hin.out).symm.trans HR2.out
   go_wp2
   go_ret
   exact aS.out 6 (by decide) _ H0.out
 have HR3:=hid ((if_neg (by rw [Hin.out]; decide)).symm.trans HR2.out)
 clear HR2 HR
 have HP:=hid (fun (wx:World) (hp:tC w base st x N WK w.heap.size now l wx)=>(show Calls Tryz.prog _ _ wx (dU ah.job st.leases l.job wx) from oR l.job st.leases x.al x.nl x.cl wx (cP hp.wa.own.l) hp.wa.own.ll (by have:=H.out.nl; omega) H.out.sl))
 unfold dU at HP
 rw [hpl,hil] at HP
 have Hil:=hid hil
 clear hpl hil
 go_wp2_with fail
 refine rq (Γ:=Unit) 114 (fun _=>gr5V N WK w.heap.size x l pl il) [] (fun _ _ wx=>tC w base st x N WK w.heap.size now l wx) () H0.out.BU ?_ ?_
 · refine⟨?_,?_,?_,?_,?_,?_,?_,?_,?_,?_,?_,?_,?_,?_,?_,trivial⟩
   · exact ok0 0 0 0 rfl fun _=>rfl
   · exact ok1 0 0 0 44 rfl rfl (fun _ _ h=>h) fun _=>rfl
   · exact ok1 0 0 1 45 rfl rfl (fun _ _ h=>h) fun _=>rfl
   · refine okQ 0 0 fun p γ a wx hpl hph hp hk=>?_
     obtain⟨u1,h1,rfl⟩:=hk.g 2 46 rfl rfl
     have hc0:wx.cell? ⟨WK,0,none⟩=some (.pointer (some ⟨N,0,none⟩)):=hp.wa.wk.cell 0
     simp [go_sem,Oper.wp,execOp,Act.eval,h1,hc0]
     exact⟨_,rfl,rfl,hp⟩
   · exact ok1 0 0 3 47 rfl rfl (fun _ _ h=>h) fun _=>rfl
   · exact ok1 0 0 4 48 rfl rfl (fun _ _ h=>h) fun _=>rfl
   · refine okQ 0 0 fun p γ a wx hpl hph hp hk=>?_
     obtain⟨u1,h1,rfl⟩:=hk.g 5 49 rfl rfl
     have hc0:wx.cell? ⟨N,3,none⟩=some (.slice x.al x.nl x.cl):=hp.wa.nb.cell 3
     simp [go_sem,Oper.wp,execOp,Act.eval,h1,hc0]
     exact⟨_,rfl,rfl,hp⟩
   · exact ok0 0 0 3 rfl fun _=>rfl
   · refine okQ 0 0 fun p γ a wx hpl hph hp hk=>?_
     obtain⟨u1,h1,rfl⟩:=hk.g 7 51 rfl rfl
     have hc0:wx.cell? ⟨w.heap.size,0,none⟩=some (.string l.job):=hp.lb.cell 0
     simp [go_sem,Oper.wp,execOp,Act.eval,h1,hc0]
     exact⟨_,rfl,rfl,hp⟩
   · refine okQ 0 0 fun p γ a wx hpl hph hp hk=>?_
     obtain⟨u1,h1,rfl⟩:=hk.g 6 50 rfl rfl
     obtain⟨u2,h2,rfl⟩:=hk.g 8 52 rfl rfl
     simp [go_sem,Oper.wp,execOp,Act.eval,h1,h2]
     refine (HP.out wx hp).mono ?_
     rintro e w' ⟨rfl,hb⟩
     exact⟨_,rfl,rfl,hp.next hb⟩
   · exact ok1 0 0 9 53 rfl rfl (fun _ _ h=>h) fun _=>rfl
   · exact ok1 0 0 10 43 rfl rfl (fun _ _ h=>h) fun _=>rfl
   · exact ok1 0 0 10 43 rfl rfl (fun _ _ h=>h) fun _=>rfl
   · exact ok1 0 0 11 54 rfl rfl (fun _ _ h=>h) fun _=>rfl
   · exact ok1 0 0 12 55 rfl rfl (fun _ _ h=>h) fun _=>rfl
 intro γ a wx hd
 clear HP H0
 have H0:=hid hd.ph
 obtain⟨fv,rfl,hfv⟩:=hd.frame [44,45,46,47,48,49,50,51,52,53,43,54,55,9,10] rfl
 have h9:fv 9 = .int .i64 (pl:Int):=hfv 13 _ 9 rfl rfl
 have h10:fv 10 = .bool il:=hfv 14 _ 10 rfl rfl
 clear hd hfv
 simp only [foldl_cons,foldl_nil,setIfInBounds_toArray,set_cons_succ,set_cons_zero,h9,h10]
 clear h9 h10
 cases il
 rotate_left
 · obtain rfl:=(if_pos Hil.out).symm.trans HR3.out
   go_wp2
   go_ret
   exact aS.out 7 (by decide) _ H0.out
 have HR4:=hid ((if_neg (by rw [Hil.out]; decide)).symm.trans HR3.out)
 clear HR3
 go_wp2_with fail
 have l2:wx.cell? ⟨w.heap.size,2,none⟩=some (.int .i64 l.till):=H0.out.lb.cell 2
 have k1:wx.cell? ⟨WK,1,none⟩=some (.int .i64 now):=H0.out.wa.wk.cell 1
 by_cases hti:l.till≤now
 · have dt:decide (l.till≤now)=true:=decide_eq_true hti
   obtain rfl:=(if_pos hti).symm.trans HR4.out
   clear hti HR4
   go_region
   go_wp2
   go_ret
   exact aS.out 1 (by decide) _ H0.out.BU
 have dt:decide (l.till≤now)=false:=decide_eq_false hti
 have HR5:=hid ((if_neg hti).symm.trans HR4.out)
 clear hti HR4
 go_region
 clear l2 k1 dt
 have H1:=hid H0.out.BU
 clear H0
 obtain⟨w1,hw1⟩:∃ w1,wx.drew=w1:=⟨_,rfl⟩
 rw [hw1] at H1 ⊢
 clear hw1
 obtain⟨b,off,hA,hbb,hbl,hcell⟩:=Eg (enc:=aJ) (sz:=5) (fun _=>rfl) H1.out.wa.own.j H1.out.wa.own.lj hj
 have c3:=hcell 3 _ rfl
 have hpl:=(List.getElem?_eq_some_iff.1 hj).1
 rw [H1.out.wa.own.lj,Hpj.out] at hpl
 rw [Hpj.out] at c3
 have k0:w1.cell? ⟨WK,0,none⟩=some (.pointer (some ⟨N,0,none⟩)):=H1.out.wa.wk.cell 0
 have n1:w1.cell? ⟨N,1,none⟩=some (.slice x.aj x.nj x.cj):=H1.out.wa.nb.cell 1
 rw [hA] at n1
 have HA:=hid hA
 clear hA hcell
 have hz:=(zH (by rw [← HA.out]; exact H1.out.wa.own.j) (pj*5+3) (by omega) (.int .i64 (j.tries+1))).2.1
 rw [← Nat.add_assoc] at hz
 have hjm:=htr j (List.mem_of_getElem? hj)
 by_cases ht:j.tries=100
 · have dj:(j.tries == 100)=true:=by rw [ht]; rfl
   obtain rfl:=(if_pos ht).symm.trans HR5.out
   clear HR5 ht
   go_wp2
   go_ret
   exact aS.out 2 (by decide) _ H1.out
 have dj:(j.tries == 100)=false:=beq_false_of_ne ht
 obtain rfl:=(if_neg ht).symm.trans HR5.out
 clear HR5 ht
 go_wp2_with fail
 have hja:=H1.out.wa.own.j
 rw [HA.out] at hja
 have hset:=zH hja (pj*5+3) (by omega) (.int .i64 (j.tries+1))
 rw [← Nat.add_assoc] at hset
 obtain⟨hjs,_,_,hbb2,csb,hcb⟩:=hset
 rw [zI (enc:=aJ) (sz:=5) (fun _=>rfl) st.jobs pj 3 j (BT j) (.int .i64 (j.tries+1)) (by rw [← Hpj.out]; exact hj) (by decide) rfl,← HA.out,(by rw [← Hpj.out]; exact (BS H.out.sj Hij.out hj hjn).symm:st.jobs.set pj (BT j)=iN aA.name st.jobs (BT j))] at hjs
 obtain⟨js,Kd⟩:∃ js,iN aA.name st.jobs (BT j)=js:=⟨_,rfl⟩
 have hjl:js.length=x.nj:=by rw [← Kd,BS H.out.sj Hij.out hj hjn,List.length_set]; exact H1.out.wa.own.lj
 rw [Kd] at hjs
 obtain⟨w2,hw2⟩:∃ w2,w1.setCell ⟨b,off+pj*5+3,none⟩ (.int .i64 (j.tries+1))=w2:=⟨_,rfl⟩
 rw [hw2] at hjs
 have hn2:w2.ownsRow base 36 3 (.slice x.an x.nn x.cn) x.nn (au aB st.nodes):=by rw [← hw2]; exact aV H1.out.wa.own.n hcb (by decide)
 have hl2:w2.ownsRow base 38 3 (.slice x.al x.nl x.cl) x.nl (au ay st.leases):=by rw [← hw2]; exact aV H1.out.wa.own.l hcb (by decide)
 have LV:Below base w w2:=by rw [← hw2]; exact (H1.out.below.mono H.out.w.bs).trans (aO (Below.refl _ _) hbb)
 have xQ:base≤w2.drew.heap.size:=Nat.le_trans H.out.w.bs LV.size
 have H13:Ln w w2 base st x N WK w.heap.size now l js (iN ah.job st.leases l) 0 ⟨none,0,0,false⟩ w2.drew:=by
  refine⟨?_,?_,?_,LV.drew,hjs.drew,hn2.drew,fun _=>rfl,fun _=>rfl,fun h=>absurd h (by decide)⟩
  · rw [← hw2]; exact bg H1.out.lb hcb (by decide)
  · rw [← hw2]; exact bg H1.out.wa.wk hcb (by decide)
  · rw [← hw2]; exact bg H1.out.wa.nb hcb (by decide)
 have HD:=hid (CX base x.al x.nl x.cl st.leases l w2.drew hl2.drew H1.out.wa.own.ll (by have:=H.out.nl; omega) H.out.sl xQ)
 have HL:=hid hl2.drew
 have HBs:=hid xQ
 have HbN:=hid H.out.w.bN
 have Hjl:=hid hjl
 have HjE:=hid Kd
 have Hj:=hid hj
 rw [hw2]
 clear hw2 Kd hjl hjs hn2 hl2 LV xQ hcb hbb2 hja H1 c3 hpl k0 n1 hz hjm dj hjn aS HA
 refine rq 114 (Es N WK w.heap.size st x l) [12,15] (Ln w w2 base st x N WK w.heap.size now l js (iN ah.job st.leases l)) ⟨none,0,0,false⟩ H13 ?_ ?_
 · refine⟨?_,?_,?_,?_,?_,?_,?_,?_,?_,?_,?_,?_,?_,?_,?_,?_,trivial⟩
   · exact ok0 0 2 0 rfl fun _=>rfl
   · exact ok1 0 2 0 92 rfl rfl (fun _ _ h=>h) fun _=>rfl
   · exact ok1 0 2 1 93 rfl rfl (fun _ _ h=>h) fun _=>rfl
   · refine okQ 0 2 fun p γ a wx hpl hph hp hk=>?_
     obtain⟨u1,h1,rfl⟩:=hk.g 2 94 rfl rfl
     have hc0:wx.cell? ⟨WK,0,none⟩=some (.pointer (some ⟨N,0,none⟩)):=hp.wk.cell 0
     simp [go_sem,Oper.wp,execOp,Act.eval,h1,hc0]
     exact⟨_,rfl,γ,fun _ _ _ h=>h,rfl,hp⟩
   · exact ok0 0 2 0 rfl fun _=>rfl
   · exact ok1 0 2 4 96 rfl rfl (fun _ _ h=>h) fun _=>rfl
   · exact ok1 0 2 5 97 rfl rfl (fun _ _ h=>h) fun _=>rfl
   · refine okQ 0 2 fun p γ a wx hpl hph hp hk=>?_
     obtain⟨u1,h1,rfl⟩:=hk.g 6 98 rfl rfl
     have hc0:wx.cell? ⟨WK,0,none⟩=some (.pointer (some ⟨N,0,none⟩)):=hp.wk.cell 0
     simp [go_sem,Oper.wp,execOp,Act.eval,h1,hc0]
     exact⟨_,rfl,γ,fun _ _ _ h=>h,rfl,hp⟩
   · exact ok1 0 2 7 99 rfl rfl (fun _ _ h=>h) fun _=>rfl
   · exact ok1 0 2 8 100 rfl rfl (fun _ _ h=>h) fun _=>rfl
   · refine okQ 0 0 fun p γ a wx hpl hph hp hk=>?_
     obtain⟨u1,h1,rfl⟩:=hk.g 9 101 rfl rfl
     obtain rfl:p=0:=by omega
     have hc0:wx.cell? ⟨N,3,none⟩=some (.slice x.al x.nl x.cl):=hp.nb.cell 3
     simp [go_sem,Oper.wp,execOp,Act.eval,h1,hc0]
     exact⟨_,rfl,γ,fun _ _ _ h=>h,rfl,hp⟩
   · refine okQ 0 2 fun p γ a wx hpl hph hp hk=>?_
     have h1:=hk.k 3 rfl
     have hc0:wx.cell? ⟨w.heap.size,0,none⟩=some (.string l.job):=hp.lb.cell 0
     have hc1:wx.cell? ⟨w.heap.size,1,none⟩=some (.string l.node):=hp.lb.cell 1
     have hc2:wx.cell? ⟨w.heap.size,2,none⟩=some (.int .i64 l.till):=hp.lb.cell 2
     simp [go_sem,Oper.wp,execOp,Act.eval,h1,hc0,hc1,hc2]
     exact⟨_,rfl,γ,fun _ _ _ h=>h,rfl,hp⟩
   · refine .inl ⟨0,rfl,fun γ a wx hp hk=>bF rfl ?_⟩
     obtain⟨u1,h1,rfl⟩:=hk.g 10 102 rfl rfl
     obtain⟨u2,h2,rfl⟩:=hk.g 11 103 rfl rfl
     simp [go_sem,Oper.wp,execOp,Act.eval,h1,h2]
     obtain rfl:=hp.here rfl
     refine (HD.out).mono ?_
     rintro e w' ⟨A',m,c',rfl,hm,ho,hg⟩
     exact⟨_,rfl,⟨A',m,c',true⟩,fun j v hj h=>Ip (hp.unset rfl) h,⟨rfl,rfl⟩,⟨(hg.grown.block _ hp.lb.lt (fun e=>Nat.lt_irrefl _ ((H.out.w.own.l.lt _ e.symm).2))).trans hp.lb,Blk.gY hp.wk hg HL.out (by decide),Blk.eq (Blk.gY hp.nb hg HL.out (by decide)) rfl,hp.below.trans (hg.below HBs.out (fun q hq=>(HL.out.lt q hq).1)),bK hp.j hg HL.out (by decide),bK hp.n hg HL.out (by decide),fun h=>absurd h (by decide),fun h=>absurd h (by decide),fun _=>⟨ho,hm⟩⟩⟩
   · exact ok1 0 2 3 95 rfl rfl (fun _ _ h=>h) fun _=>rfl
   · exact ok1 0 2 13 105 rfl rfl (fun _ _ h=>h) fun _=>rfl
   · refine .inl ⟨1,rfl,fun γ a wx hp hk=>bF rfl ?_⟩
     obtain⟨u1,h1,rfl⟩:=hk.g 14 106 rfl rfl
     obtain⟨u2,h2,hs2,rfl⟩:=hk.g 12 104 rfl rfl
     have hc:wx.cell? ⟨N,3,none⟩=some (.slice x.al x.nl x.cl):=hp.nb.cell 3
     have hz:wx.frozen? ⟨N,3,none⟩=false:=hp.nb.thaw 3
     simp [go_sem,Oper.wp,execOp,Act.eval,h1,h2,hc,hz]
     exact⟨.int .i64 0,γ,fun _ _ _ h=>h,trivial,⟨bg hp.lb hp.nb (by decide),bg hp.wk hp.nb (by decide),Blk.eq (hp.nb.set 3 _) rfl,hp.below.trans (aO (Below.refl _ _) HbN.out),aV hp.j hp.nb (by decide),aV hp.n hp.nb (by decide),fun h=>absurd h (by decide),fun h=>absurd h (by decide),fun _=>⟨aV (hp.r (by decide)).1 hp.nb (by decide),(hp.r (by decide)).2⟩⟩⟩
 intro γ a wy hd
 have hp:=hd.ph
 obtain⟨fv,rfl,hfv⟩:=hd.frame [92,93,94,95,96,97,98,99,100,101,102,103,104,105,106] rfl
 have hnb:Blk wy N 26 #[.int .i64 st.rev,.slice x.aj x.nj x.cj,.slice x.an x.nn x.cn,.slice γ.A γ.m γ.c]:=hp.nb
 have hwa:nE wy base (⟨st.rev,js,st.nodes,iN ah.job st.leases l⟩:ak) ⟨x.aj,x.nj,x.cj,x.an,x.nn,x.cn,γ.A,γ.m,γ.c⟩ N WK now:=⟨hnb,hp.wk,⟨hp.j,hp.n,(hp.r (by decide)).1,Hjl.out,H.out.w.own.ln,(hp.r (by decide)).2.symm⟩,H.out.w.bN,H.out.w.bW,Nat.le_trans H.out.w.bs hp.below.size⟩
 have hlen:=(hp.r (by decide)).2
 have sR:=o7 (key:=ah.job) (x:=l) H.out.sl
 have hjok:mU js:=by
  rw [← HjE.out]
  exact fun z hz=>(sW hz).elim (fun e=>by rw [e]; exact H.out.oj j (List.mem_of_getElem? Hj.out)) (H.out.oj z)
 have HC:=hid (show Calls Tryz.prog 37 #[.agg #[.int .i64 st.rev,.slice x.aj x.nj x.cj,.slice x.an x.nn x.cn,.slice γ.A γ.m γ.c]] wy _ from jY (⟨st.rev,js,st.nodes,iN ah.job st.leases l⟩:ak) ⟨x.aj,x.nj,x.cj,x.an,x.nn,x.cn,γ.A,γ.m,γ.c⟩ wy (hwa.own.at2 (by have:=H.out.nj; show x.nj≤1000; omega) (by have:=H.out.nn; show x.nn≤1000; omega) (by have:=H.out.w.own.ll; have:=H.out.nl; show γ.m≤1000; omega) hjok H.out.on_ (fun z hz=>(sW hz).elim (fun e=>by rw [e]; exact hok) (H.out.ol z))) (HT.out _ hp.below))
 have HwA:=hid hwa
 have HbX:=hid hp.below
 have b1:wy.cell? ⟨WK,0,none⟩=some (.pointer (some ⟨N,0,none⟩)):=hp.wk.cell 0
 obtain⟨n0,n1,n2,n3⟩:=Blk.c4 (hnb)
 have hNl:=hnb.lt
 have Hst:=hid (show (⟨st.rev,js,st.nodes,iN ah.job st.leases l⟩:ak)=oq st j l from by rw [← HjE.out]; rfl)
 clear hd hp hfv hnb hwa hlen sR H13 hjok hj
 simp only [foldl_cons,foldl_nil,setIfInBounds_toArray,set_cons_succ,set_cons_zero]
 go_wp2_with fail
 refine Calls.mono HC.out ?_
 rintro e w5 ⟨rfl,hb5⟩
 have bO:=hid (show fZ base N WK (aG (⟨st.rev,js,st.nodes,iN ah.job st.leases l⟩:ak),(⟨st.rev,js,st.nodes,iN ah.job st.leases l⟩:ak),now) w (.returned (.int .i64 (aG (⟨st.rev,js,st.nodes,iN ah.job st.leases l⟩:ak)))) w5 from ⟨rfl,HbX.out.trans (hb5.mono (Nat.le_trans H.out.w.bs HbX.out.size)),fun _=>⟨_,HwA.out.below hb5⟩⟩)
 rw [Hst.out] at bO ⊢
 clear hb5 b1 n0 n1 n2 n3 HC
 go_wp2
 go_ret
 exact bO.out
end Go.Proofs.YtoeejfhdjmkpcaaGreatDoor
/- (*work).do at the grant; do at every kind. -/
namespace Go.Proofs.YtoeejfhdjmkpcaaGreatDoor
open Go.Lib (hid)
open List (foldl_cons foldl_nil setIfInBounds_toArray set_cons_succ set_cons_zero)
open Go.RowKit
theorem do_5 (base:Nat) (st:ak) (x:StA) (N WK:Nat) (now:Int) (q:aU) (w:World) (h:yX w base st x N WK now) (hq:q.kind=5) (hT:vP base w) (htr:∀ j ∈ st.jobs,0≤j.tries∧j.tries≤100) (hok:q.lease.job.size≤9223372036854775807∧q.lease.node.size≤9223372036854775807) :
 Calls Tryz.prog 45 #[.pointer (some ⟨WK,0,none⟩),bT q] w (fZ base N WK (kT st now q.lease) w):=by
 obtain⟨W,hW⟩:∃ W,(w.alloc (.cells #[.pointer (some ⟨WK,0,none⟩)] 111)).alloc (.cells (aT q) 40)=W:=⟨_,rfl⟩
 have hbW:Below w.heap.size w W:=by rw [← hW]; exact ((Below.refl _ _).alloc (Nat.le_refl _) _).alloc (by simp) _
 have hbp:Blk W w.heap.size 111 #[.pointer (some ⟨WK,0,none⟩)]:=by rw [← hW]; exact Blk.alloc (show Blk _ _ _ _ from heap_alloc_new w _) _
 have hqb:Blk W (w.heap.size+1) 40 (aT q):=by
  rw [← hW]
  have:=heap_alloc_new (w.alloc (.cells #[.pointer (some ⟨WK,0,none⟩)] 111)) (.cells (aT q) 40)
  rwa [show (w.alloc (.cells #[.pointer (some ⟨WK,0,none⟩)] 111)).heap.size=w.heap.size+1 by simp] at this
 have hw:=h.w.below hbW
 have hk0:W.cell? ⟨w.heap.size+1,0,none⟩=some (.int .i64 5):=by rw [hqb.cell 0,← hq]; rfl
 have q9:W.cell? ⟨w.heap.size+1,9,none⟩=some (.string q.lease.job):=hqb.cell 9
 have q10:W.cell? ⟨w.heap.size+1,10,none⟩=some (.string q.lease.node):=hqb.cell 10
 have q11:W.cell? ⟨w.heap.size+1,11,none⟩=some (.int .i64 q.lease.till):=hqb.cell 11
 have bp0:W.cell? ⟨w.heap.size,0,none⟩=some (.pointer (some ⟨WK,0,none⟩)):=hbp.cell 0
 have HG:=hid (Fz base st x N WK now q.lease W ⟨hw,h.nj,h.nn,h.nl,h.oj,h.on_,h.ol,h.sj,h.sn,h.sl⟩ (hT.next (hbW.mono h.w.bs)) htr hok)
 have HbW:=hid (hbW.mono h.w.bs)
 clear hbW hbp hqb hw h hq hT htr
 unfold bT
 unfold aT at hW ⊢
 obtain⟨R,hR⟩:∃ R,kT st now q.lease=R:=⟨_,rfl⟩
 rw [hR] at HG ⊢
 clear hR
 go_enter Tryz.func45,Tryz.ntmps45
 go_wp2_with fail
 try rw [hW]
 clear hW
 refine Calls.mono HG.out ?_
 rintro e w5 ⟨rfl,hb5,hk5⟩
 have aS:=hid (show fZ base N WK R w (.returned (.int .i64 R.1)) w5 from ⟨rfl,HbW.out.trans hb5,hk5⟩)
 clear hb5 hk5 HG
 go_wp2
 go_ret
 exact aS.out
structure QOk (q:aU):Prop where
 j:q.job.name.size≤9223372036854775807∧q.job.tag.size≤9223372036854775807
 n:q.node.name.size≤9223372036854775807∧q.node.zone.size≤9223372036854775807
 l:q.lease.job.size≤9223372036854775807∧q.lease.node.size≤9223372036854775807
theorem Az (base:Nat) (st:ak) (x:StA) (N WK:Nat) (now:Int) (q:aU) (w:World) (h:yX w base st x N WK now) (hT:vP base w) (htr:∀ j ∈ st.jobs,0≤j.tries∧j.tries≤100) (hok:QOk q) (hk:1≤q.kind) (hn0:0≤now) (hn1:now≤1099511627776) (hq0:q.kind=7→0≤q.n∧q.n≤1099511627776) :
 Calls Tryz.prog 45 #[.pointer (some ⟨WK,0,none⟩),bT q] w (fZ base N WK (doR st now q) w):=by
 unfold doR
 split
 · exact do_1 base st x N WK now q w h ‹_› hok.j hT
 split
 · exact do_2 base st x N WK now q w h ‹_› hok.n hT
 split
 · exact do_3 base st x N WK now q w h ‹_›
 split
 · exact do_4 base st x N WK now q w h ‹_›
 split
 · exact do_5 base st x N WK now q w h ‹_› hT htr hok.l
 split
 · exact do_6 base st x N WK now q w h ‹_›
 split
 · exact do_7 base st x N WK now q w h ‹_› hn0 hn1 (hq0 ‹_›).1 (hq0 ‹_›).2
 · exact do_8 base st x N WK now q w h (by omega)
end Go.Proofs.YtoeejfhdjmkpcaaGreatDoor
