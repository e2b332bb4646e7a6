/- Of the proof of a statement: Grant. -/
import Derived.Test.YtoeejfhdjmkpcaaGreatDoorTClone
set_option linter.unusedVariables false
set_option linter.unusedSimpArgs false
set_option maxRecDepth 100000
set_option maxHeartbeats 8000000
/- (*work).grant, and (*work).do at the grant. -/
namespace Go.Proofs.YtoeejfhdjmkpcaaGreatDoor
open Go.Lib (hid)
open List (foldl_cons foldl_nil setIfInBounds_toArray set_cons_succ set_cons_zero)
open Go.RowKit
theorem yW {st:ah} {now:Int} {l:ak} (hs:bE aD.name st.jobs) (h:isL aD.name st.jobs l.job=false):fR st now l=(6,st,now):=by
 rw [lS hs] at h
 unfold fR cP
 cases hf:st.jobs.find? fun a=>decide (a.name=l.job) with
 | none=>rfl
 | some j=>rw [hf] at h; cases h
theorem yX {st:ah} {now:Int} {l:ak} {j:aD} (hs:bE aD.name st.jobs) (hn:bE aA.name st.nodes) (hl:bE ak.job st.leases) (hj:st.jobs[cZ aD.name st.jobs l.job]? = some j) (hk:j.name=l.job) :
 fR st now l=if isL aA.name st.nodes l.node=false then (6,st,now) else if isL ak.job st.leases l.job=true then (7,st,now) else if l.till≤now then (1,st,now) else if j.tries=100 then (2,st,now) else (aG (jv st j l),jv st j l,now):=by
 have h1:cP st.jobs l.job=some j:=FY hs hj hk
 have h2:isL aA.name st.nodes l.node=(cL st.nodes l.node).isSome:=lS hn
 have h3:isL ak.job st.leases l.job=(cU st.leases l.job).isSome:=lS hl
 unfold fR
 rw [h1,h2,h3]
theorem yY {l:List aD} {s:ByteArray} {j:aD} (hs:bE aD.name l) (hi:isL aD.name l s=true) (hj:l[cZ aD.name l s]? = some j) (hk:j.name=s):hM aD.name l (yZ j)=l.set (cZ aD.name l s) (yZ j):=by
 have h1:aD.name (yZ j)=s:=hk
 rw [mY hs,h1,if_pos hi,List.set_eq_take_append_cons_drop,if_pos (List.getElem?_eq_some_iff.1 hj).1]
structure qd (w:World) (base:Nat) (st:ah) (x:StA) (N WK L:Nat) (now:Int) (l:ak) (wx:World):Prop where
 lb:Blk wx L 38 #[.string l.job,.string l.node,.int .i64 l.till]
 wa:lQ wx base st x N WK now
 below:Below w.heap.size w wx
theorem qd.next {w w' wx:World} {base:Nat} {st:ah} {x:StA} {N WK L:Nat} {now:Int} {l:ak} (h:qd w base st x N WK L now l wx) (hb:Below wx.heap.size wx w'):qd w base st x N WK L now l w':=
 ⟨h.lb.below hb h.lb.lt,h.wa.below hb,h.below.trans (hb.mono h.below.size)⟩
structure G4 (w W:World) (base:Nat) (st:ah) (x:StA) (N WK L:Nat) (now:Int) (l:ak) (js:List aD) (ls:List ak) (p:Nat) (γ:mh) (wx:World):Prop where
 lb:Blk wx L 38 #[.string l.job,.string l.node,.int .i64 l.till]
 wk:Blk wx WK 114 #[.pointer (some ⟨N,0,none⟩),.int .i64 now]
 nb:Blk wx N 26 #[.int .i64 st.rev,.slice x.aj x.nj x.cj,.slice x.an x.nn x.cn,if p<2 then .slice x.al x.nl x.cl else .slice γ.A γ.m γ.c]
 below:Below base w wx
 j:wx.ownsRow base 34 5 (.slice x.aj x.nj x.cj) x.nj (au aL js)
 n:wx.ownsRow base 36 3 (.slice x.an x.nn x.cn) x.nn (au aC st.nodes)
 here:p=0→wx=W.drew
 unset:p=0→γ.s=false
 r:0<p→wx.ownsRow base 38 3 (.slice γ.A γ.m γ.c) γ.m (au av ls)∧γ.m=ls.length
def gr1V (N WK L:Nat) (x:StA) (l:ak) (t:Nat) (i:Bool):Nat→Value→Prop
 | 0,u=>u = .pointer (some ⟨WK,0,none⟩)
 | 1,u=>u = .pointer (some ⟨WK,0,none⟩)
 | 2,u=>u = .pointer (some ⟨WK,0,none⟩)
 | 3,u=>u = .pointer (some ⟨N,0,none⟩)
 | 4,u=>u = .pointer (some ⟨N,0,none⟩)
 | 5,u=>u = .pointer (some ⟨N,1,none⟩)
 | 6,u=>u = .slice x.aj x.nj x.cj
 | 7,u=>u = .pointer (some ⟨L,0,none⟩)
 | 8,u=>u = .string l.job
 | 9,u=>u = .tuple #[.int .i64 (t:Int),.bool i]
 | 10,u=>u = .tuple #[.int .i64 (t:Int),.bool i]
 | 11,u=>u = .int .i64 (t:Int)
 | 12,u=>u = .bool i
 | 13,u=>u = .int .i64 (t:Int)
 | 14,u=>u = .bool i
 | _,_=>False
def gr2V (N WK L:Nat) (x:StA) (l:ak) (t:Nat) (i:Bool):Nat→Value→Prop
 | 0,u=>u = .pointer (some ⟨WK,0,none⟩)
 | 1,u=>u = .pointer (some ⟨WK,0,none⟩)
 | 2,u=>u = .pointer (some ⟨WK,0,none⟩)
 | 3,u=>u = .pointer (some ⟨N,0,none⟩)
 | 4,u=>u = .pointer (some ⟨N,0,none⟩)
 | 5,u=>u = .pointer (some ⟨N,2,none⟩)
 | 6,u=>u = .slice x.an x.nn x.cn
 | 7,u=>u = .pointer (some ⟨L,1,none⟩)
 | 8,u=>u = .string l.node
 | 9,u=>u = .tuple #[.int .i64 (t:Int),.bool i]
 | 10,u=>u = .tuple #[.int .i64 (t:Int),.bool i]
 | 11,u=>u = .int .i64 (t:Int)
 | 12,u=>u = .bool i
 | 13,u=>u = .int .i64 (t:Int)
 | 14,u=>u = .bool i
 | _,_=>False
def gr5V (N WK L:Nat) (x:StA) (l:ak) (t:Nat) (i:Bool):Nat→Value→Prop
 | 0,u=>u = .pointer (some ⟨WK,0,none⟩)
 | 1,u=>u = .pointer (some ⟨WK,0,none⟩)
 | 2,u=>u = .pointer (some ⟨WK,0,none⟩)
 | 3,u=>u = .pointer (some ⟨N,0,none⟩)
 | 4,u=>u = .pointer (some ⟨N,0,none⟩)
 | 5,u=>u = .pointer (some ⟨N,3,none⟩)
 | 6,u=>u = .slice x.al x.nl x.cl
 | 7,u=>u = .pointer (some ⟨L,0,none⟩)
 | 8,u=>u = .string l.job
 | 9,u=>u = .tuple #[.int .i64 (t:Int),.bool i]
 | 10,u=>u = .tuple #[.int .i64 (t:Int),.bool i]
 | 11,u=>u = .int .i64 (t:Int)
 | 12,u=>u = .bool i
 | 13,u=>u = .int .i64 (t:Int)
 | 14,u=>u = .bool i
 | _,_=>False
def BB (N WK L:Nat) (st:ah) (x:StA) (l:ak) (γ:mh):Nat→Value→Prop
 | 0,u=>u = .pointer (some ⟨WK,0,none⟩)
 | 1,u=>u = .pointer (some ⟨WK,0,none⟩)
 | 2,u=>u = .pointer (some ⟨WK,0,none⟩)
 | 3,u=>u = .pointer (some ⟨N,0,none⟩)
 | 4,u=>u = .pointer (some ⟨WK,0,none⟩)
 | 5,u=>u = .pointer (some ⟨WK,0,none⟩)
 | 6,u=>u = .pointer (some ⟨WK,0,none⟩)
 | 7,u=>u = .pointer (some ⟨N,0,none⟩)
 | 8,u=>u = .pointer (some ⟨N,0,none⟩)
 | 9,u=>u = .pointer (some ⟨N,3,none⟩)
 | 10,u=>u = .slice x.al x.nl x.cl
 | 11,u=>u = .agg #[.string l.job,.string l.node,.int .i64 l.till]
 | 12,u=>γ.s=true∧u = .slice γ.A γ.m γ.c
 | 13,u=>u = .pointer (some ⟨N,0,none⟩)
 | 14,u=>u = .pointer (some ⟨N,3,none⟩)
 | 15,_=>True
 | _,_=>False
theorem D8 {N WK L:Nat} {st:ah} {x:StA} {l:ak} {γ γ':mh} {j:Nat} {v:Value} (hn:γ.s=false) (h:BB N WK L st x l γ j v):BB N WK L st x l γ' j v:=by
 unfold BB at *
 split at h
 all_goals first | exact h | (obtain⟨hs,_⟩:=h; rw [hn] at hs; cases hs)
theorem qd.za {w wx:World} {base:Nat} {st:ah} {x:StA} {N WK L:Nat} {now:Int} {l:ak} (h:qd w base st x N WK L now l wx):qd w base st x N WK L now l wx.drew:=
 h.next (Below.refl _ _).drew
theorem Ck (base:Nat) (st:ah) (x:StA) (N WK:Nat) (now:Int) (l:ak) (w:World) (h:vg w base st x N WK now) (hT:rT base w) (htr:∀ j ∈ st.jobs,0≤j.tries∧j.tries≤100) (hok:l.job.size≤9223372036854775807∧l.node.size≤9223372036854775807) :
 Calls Tryz.prog 142 #[.pointer (some ⟨WK,0,none⟩),.agg #[.string l.job,.string l.node,.int .i64 l.till]] w (fK base N WK (fR st now l) w):=by
 obtain⟨W,hW⟩:∃ W,w.alloc (.cells #[.string l.job,.string l.node,.int .i64 l.till] 38)=W:=⟨_,rfl⟩
 have hbW:Below w.heap.size w W:=by rw [← hW]; exact (Below.refl _ _).alloc (Nat.le_refl _) _
 have hlb:Blk W w.heap.size 38 #[.string l.job,.string l.node,.int .i64 l.till]:=by rw [← hW]; exact heap_alloc_new w _
 have H:=hid h
 have HT:=hid hT
 have H0:=hid (show qd w base st x N WK w.heap.size now l W from ⟨hlb,h.w.below hbW,hbW⟩)
 have aR:=hid (fun (e:Int) (he:e≠0) (wx:World) (hp:qd w base st x N WK w.heap.size now l wx)=>(show fK base N WK (e,st,now) w (.returned (.int .i64 e)) wx from ⟨rfl,hp.below.mono H.out.w.bs,fun h0=>absurd h0 he⟩))
 clear hbW hlb h hT
 obtain⟨pj,hpj⟩:∃ t,cZ aD.name st.jobs l.job=t:=⟨_,rfl⟩
 obtain⟨ij,hij⟩:∃ t,isL aD.name st.jobs l.job=t:=⟨_,rfl⟩
 obtain⟨pn,hpn⟩:∃ t,cZ aA.name st.nodes l.node=t:=⟨_,rfl⟩
 obtain⟨inn,hin⟩:∃ t,isL aA.name st.nodes l.node=t:=⟨_,rfl⟩
 obtain⟨pl,hpl⟩:∃ t,cZ ak.job st.leases l.job=t:=⟨_,rfl⟩
 obtain⟨il,hil⟩:∃ t,isL ak.job st.leases l.job=t:=⟨_,rfl⟩
 obtain⟨R,hR⟩:∃ R,fR st now l=R:=⟨_,rfl⟩
 rw [hR]
 have HR:=hid hR
 clear hR
 have HP:=hid (fun (wx:World) (hp:qd w base st x N WK w.heap.size now l wx)=>(show Calls Tryz.prog _ _ wx (dJ aD.name st.jobs l.job wx) from qM l.job st.jobs x.aj x.nj x.cj wx (cS hp.wa.own.j) hp.wa.own.lj (by have:=H.out.nj; omega) H.out.sj))
 unfold dJ at HP
 rw [hpj,hij] at HP
 have Hpj:=hid hpj
 have Hij:=hid hij
 clear hpj hij
 go_enter Tryz.func142,Tryz.ntmps142
 go_wp2_with fail
 try rw [hW]
 clear hW
 refine rq (Γ:=Unit) 114 (fun _=>gr1V N WK w.heap.size x l pj ij) [] (fun _ _ wx=>qd w base st x N WK w.heap.size now l wx) () H0.out.za ?_ ?_
 · refine⟨?_,?_,?_,?_,?_,?_,?_,?_,?_,?_,?_,?_,?_,?_,?_,trivial⟩
   · exact ok0 0 0 0 rfl fun _=>rfl
   · exact ok1 0 0 0 12 rfl rfl (fun _ _ h=>h) fun _=>rfl
   · exact ok1 0 0 1 13 rfl rfl (fun _ _ h=>h) fun _=>rfl
   · refine okQ 0 0 fun p γ a wx hpl hph hp hk=>?_
     obtain⟨u1,h1,rfl⟩:=hk.g 2 14 rfl rfl
     have hc0:wx.cell? ⟨WK,0,none⟩=some (.pointer (some ⟨N,0,none⟩)):=hp.wa.wk.cell 0
     simp [go_sem,Oper.wp,execOp,Act.eval,h1,hc0]
     exact⟨_,rfl,rfl,hp⟩
   · exact ok1 0 0 3 15 rfl rfl (fun _ _ h=>h) fun _=>rfl
   · exact ok1 0 0 4 16 rfl rfl (fun _ _ h=>h) fun _=>rfl
   · refine okQ 0 0 fun p γ a wx hpl hph hp hk=>?_
     obtain⟨u1,h1,rfl⟩:=hk.g 5 17 rfl rfl
     have hc0:wx.cell? ⟨N,1,none⟩=some (.slice x.aj x.nj x.cj):=hp.wa.nb.cell 1
     simp [go_sem,Oper.wp,execOp,Act.eval,h1,hc0]
     exact⟨_,rfl,rfl,hp⟩
   · exact ok0 0 0 3 rfl fun _=>rfl
   · refine okQ 0 0 fun p γ a wx hpl hph hp hk=>?_
     obtain⟨u1,h1,rfl⟩:=hk.g 7 19 rfl rfl
     have hc0:wx.cell? ⟨w.heap.size,0,none⟩=some (.string l.job):=hp.lb.cell 0
     simp [go_sem,Oper.wp,execOp,Act.eval,h1,hc0]
     exact⟨_,rfl,rfl,hp⟩
   · refine okQ 0 0 fun p γ a wx hpl hph hp hk=>?_
     obtain⟨u1,h1,rfl⟩:=hk.g 6 18 rfl rfl
     obtain⟨u2,h2,rfl⟩:=hk.g 8 20 rfl rfl
     simp [go_sem,Oper.wp,execOp,Act.eval,h1,h2]
     refine (HP.out wx hp).mono ?_
     rintro e w' ⟨rfl,hb⟩
     exact⟨_,rfl,rfl,hp.next hb⟩
   · exact ok1 0 0 9 21 rfl rfl (fun _ _ h=>h) fun _=>rfl
   · exact ok1 0 0 10 11 rfl rfl (fun _ _ h=>h) fun _=>rfl
   · exact ok1 0 0 10 11 rfl rfl (fun _ _ h=>h) fun _=>rfl
   · exact ok1 0 0 11 22 rfl rfl (fun _ _ h=>h) fun _=>rfl
   · exact ok1 0 0 12 23 rfl rfl (fun _ _ h=>h) fun _=>rfl
 intro γ a wx hd
 clear HP H0
 have H0:=hid hd.ph
 obtain⟨fv,rfl,hfv⟩:=hd.frame [12,13,14,15,16,17,18,19,20,21,11,22,23,5,6] rfl
 have h5:fv 5 = .int .i64 (pj:Int):=hfv 13 _ 5 rfl rfl
 have h6:fv 6 = .bool ij:=hfv 14 _ 6 rfl rfl
 clear hd hfv
 simp only [foldl_cons,foldl_nil,setIfInBounds_toArray,set_cons_succ,set_cons_zero,h5,h6]
 clear h5 h6
 have HP:=hid (fun (wx:World) (hp:qd w base st x N WK w.heap.size now l wx)=>(show Calls Tryz.prog _ _ wx (dJ aA.name st.nodes l.node wx) from oJ l.node st.nodes x.an x.nn x.cn wx (cS hp.wa.own.n) hp.wa.own.ln (by have:=H.out.nn; omega) H.out.sn))
 unfold dJ at HP
 rw [hpn,hin] at HP
 have Hin:=hid hin
 clear hpn hin
 go_wp2_with fail
 refine rq (Γ:=Unit) 114 (fun _=>gr2V N WK w.heap.size x l pn inn) [] (fun _ _ wx=>qd w base st x N WK w.heap.size now l wx) () H0.out.za ?_ ?_
 · refine⟨?_,?_,?_,?_,?_,?_,?_,?_,?_,?_,?_,?_,?_,?_,?_,trivial⟩
   · exact ok0 0 0 0 rfl fun _=>rfl
   · exact ok1 0 0 0 25 rfl rfl (fun _ _ h=>h) fun _=>rfl
   · exact ok1 0 0 1 26 rfl rfl (fun _ _ h=>h) fun _=>rfl
   · refine okQ 0 0 fun p γ a wx hpl hph hp hk=>?_
     obtain⟨u1,h1,rfl⟩:=hk.g 2 27 rfl rfl
     have hc0:wx.cell? ⟨WK,0,none⟩=some (.pointer (some ⟨N,0,none⟩)):=hp.wa.wk.cell 0
     simp [go_sem,Oper.wp,execOp,Act.eval,h1,hc0]
     exact⟨_,rfl,rfl,hp⟩
   · exact ok1 0 0 3 28 rfl rfl (fun _ _ h=>h) fun _=>rfl
   · exact ok1 0 0 4 29 rfl rfl (fun _ _ h=>h) fun _=>rfl
   · refine okQ 0 0 fun p γ a wx hpl hph hp hk=>?_
     obtain⟨u1,h1,rfl⟩:=hk.g 5 30 rfl rfl
     have hc0:wx.cell? ⟨N,2,none⟩=some (.slice x.an x.nn x.cn):=hp.wa.nb.cell 2
     simp [go_sem,Oper.wp,execOp,Act.eval,h1,hc0]
     exact⟨_,rfl,rfl,hp⟩
   · exact ok0 0 0 3 rfl fun _=>rfl
   · refine okQ 0 0 fun p γ a wx hpl hph hp hk=>?_
     obtain⟨u1,h1,rfl⟩:=hk.g 7 32 rfl rfl
     have hc0:wx.cell? ⟨w.heap.size,1,none⟩=some (.string l.node):=hp.lb.cell 1
     simp [go_sem,Oper.wp,execOp,Act.eval,h1,hc0]
     exact⟨_,rfl,rfl,hp⟩
   · refine okQ 0 0 fun p γ a wx hpl hph hp hk=>?_
     obtain⟨u1,h1,rfl⟩:=hk.g 6 31 rfl rfl
     obtain⟨u2,h2,rfl⟩:=hk.g 8 33 rfl rfl
     simp [go_sem,Oper.wp,execOp,Act.eval,h1,h2]
     refine (HP.out wx hp).mono ?_
     rintro e w' ⟨rfl,hb⟩
     exact⟨_,rfl,rfl,hp.next hb⟩
   · exact ok1 0 0 9 34 rfl rfl (fun _ _ h=>h) fun _=>rfl
   · exact ok1 0 0 10 24 rfl rfl (fun _ _ h=>h) fun _=>rfl
   · exact ok1 0 0 10 24 rfl rfl (fun _ _ h=>h) fun _=>rfl
   · exact ok1 0 0 11 35 rfl rfl (fun _ _ h=>h) fun _=>rfl
   · exact ok1 0 0 12 36 rfl rfl (fun _ _ h=>h) fun _=>rfl
 intro γ a wx hd
 clear HP H0
 have H0:=hid hd.ph
 obtain⟨fv,rfl,hfv⟩:=hd.frame [25,26,27,28,29,30,31,32,33,34,24,35,36,7,8] rfl
 have h7:fv 7 = .int .i64 (pn:Int):=hfv 13 _ 7 rfl rfl
 have h8:fv 8 = .bool inn:=hfv 14 _ 8 rfl rfl
 clear hd hfv
 simp only [foldl_cons,foldl_nil,setIfInBounds_toArray,set_cons_succ,set_cons_zero,h7,h8]
 clear h7 h8
 cases ij
 · obtain rfl:=(yW H.out.sj Hij.out).symm.trans HR.out
   go_wp2
   go_ret
   exact aR.out 6 (by decide) _ H0.out
 obtain⟨j,hj,hjn⟩:=kJ Hij.out
 have HR2:=hid ((yX H.out.sj H.out.sn H.out.sl hj hjn).symm.trans HR.out)
 cases inn
 · obtain rfl:=(if_pos Hin.out).symm.trans HR2.out
   go_wp2
   go_ret
   exact aR.out 6 (by decide) _ H0.out
 have HR3:=hid ((if_neg (by rw [Hin.out]; decide)).symm.trans HR2.out)
 clear HR2 HR
 have HP:=hid (fun (wx:World) (hp:qd w base st x N WK w.heap.size now l wx)=>(show Calls Tryz.prog _ _ wx (dJ ak.job st.leases l.job wx) from mN l.job st.leases x.al x.nl x.cl wx (cS hp.wa.own.l) hp.wa.own.ll (by have:=H.out.nl; omega) H.out.sl))
 unfold dJ at HP
 rw [hpl,hil] at HP
 have Hil:=hid hil
 clear hpl hil
 go_wp2_with fail
 refine rq (Γ:=Unit) 114 (fun _=>gr5V N WK w.heap.size x l pl il) [] (fun _ _ wx=>qd w base st x N WK w.heap.size now l wx) () H0.out.za ?_ ?_
 · refine⟨?_,?_,?_,?_,?_,?_,?_,?_,?_,?_,?_,?_,?_,?_,?_,trivial⟩
   · exact ok0 0 0 0 rfl fun _=>rfl
   · exact ok1 0 0 0 44 rfl rfl (fun _ _ h=>h) fun _=>rfl
   · exact ok1 0 0 1 45 rfl rfl (fun _ _ h=>h) fun _=>rfl
   · refine okQ 0 0 fun p γ a wx hpl hph hp hk=>?_
     obtain⟨u1,h1,rfl⟩:=hk.g 2 46 rfl rfl
     have hc0:wx.cell? ⟨WK,0,none⟩=some (.pointer (some ⟨N,0,none⟩)):=hp.wa.wk.cell 0
     simp [go_sem,Oper.wp,execOp,Act.eval,h1,hc0]
     exact⟨_,rfl,rfl,hp⟩
   · exact ok1 0 0 3 47 rfl rfl (fun _ _ h=>h) fun _=>rfl
   · exact ok1 0 0 4 48 rfl rfl (fun _ _ h=>h) fun _=>rfl
   · refine okQ 0 0 fun p γ a wx hpl hph hp hk=>?_
     obtain⟨u1,h1,rfl⟩:=hk.g 5 49 rfl rfl
     have hc0:wx.cell? ⟨N,3,none⟩=some (.slice x.al x.nl x.cl):=hp.wa.nb.cell 3
     simp [go_sem,Oper.wp,execOp,Act.eval,h1,hc0]
     exact⟨_,rfl,rfl,hp⟩
   · exact ok0 0 0 3 rfl fun _=>rfl
   · refine okQ 0 0 fun p γ a wx hpl hph hp hk=>?_
     obtain⟨u1,h1,rfl⟩:=hk.g 7 51 rfl rfl
     have hc0:wx.cell? ⟨w.heap.size,0,none⟩=some (.string l.job):=hp.lb.cell 0
     simp [go_sem,Oper.wp,execOp,Act.eval,h1,hc0]
     exact⟨_,rfl,rfl,hp⟩
   · refine okQ 0 0 fun p γ a wx hpl hph hp hk=>?_
     obtain⟨u1,h1,rfl⟩:=hk.g 6 50 rfl rfl
     obtain⟨u2,h2,rfl⟩:=hk.g 8 52 rfl rfl
     simp [go_sem,Oper.wp,execOp,Act.eval,h1,h2]
     refine (HP.out wx hp).mono ?_
     rintro e w' ⟨rfl,hb⟩
     exact⟨_,rfl,rfl,hp.next hb⟩
   · exact ok1 0 0 9 53 rfl rfl (fun _ _ h=>h) fun _=>rfl
   · exact ok1 0 0 10 43 rfl rfl (fun _ _ h=>h) fun _=>rfl
   · exact ok1 0 0 10 43 rfl rfl (fun _ _ h=>h) fun _=>rfl
   · exact ok1 0 0 11 54 rfl rfl (fun _ _ h=>h) fun _=>rfl
   · exact ok1 0 0 12 55 rfl rfl (fun _ _ h=>h) fun _=>rfl
 intro γ a wx hd
 clear HP H0
 have H0:=hid hd.ph
 obtain⟨fv,rfl,hfv⟩:=hd.frame [44,45,46,47,48,49,50,51,52,53,43,54,55,9,10] rfl
 have h9:fv 9 = .int .i64 (pl:Int):=hfv 13 _ 9 rfl rfl
 have h10:fv 10 = .bool il:=hfv 14 _ 10 rfl rfl
 clear hd hfv
 simp only [foldl_cons,foldl_nil,setIfInBounds_toArray,set_cons_succ,set_cons_zero,h9,h10]
 clear h9 h10
 cases il
 rotate_left
 · obtain rfl:=(if_pos Hil.out).symm.trans HR3.out
   go_wp2
   go_ret
   exact aR.out 7 (by decide) _ H0.out
 have HR4:=hid ((if_neg (by rw [Hil.out]; decide)).symm.trans HR3.out)
 clear HR3
 go_wp2_with fail
 have l2:wx.cell? ⟨w.heap.size,2,none⟩=some (.int .i64 l.till):=H0.out.lb.cell 2
 have k1:wx.cell? ⟨WK,1,none⟩=some (.int .i64 now):=H0.out.wa.wk.cell 1
 by_cases hti:l.till≤now
 · have dt:decide (l.till≤now)=true:=decide_eq_true hti
   obtain rfl:=(if_pos hti).symm.trans HR4.out
   clear hti HR4
   go_region
   go_wp2
   go_ret
   exact aR.out 1 (by decide) _ H0.out.za
 have dt:decide (l.till≤now)=false:=decide_eq_false hti
 have HR5:=hid ((if_neg hti).symm.trans HR4.out)
 clear hti HR4
 go_region
 clear l2 k1 dt
 have H1:=hid H0.out.za
 clear H0
 obtain⟨w1,hw1⟩:∃ w1,wx.drew=w1:=⟨_,rfl⟩
 rw [hw1] at H1 ⊢
 clear hw1
 obtain⟨b,off,hA,hbb,hbl,hcell⟩:=Bs (enc:=aL) (sz:=5) (fun _=>rfl) H1.out.wa.own.j H1.out.wa.own.lj hj
 have c3:=hcell 3 _ rfl
 have hpl:=(List.getElem?_eq_some_iff.1 hj).1
 rw [H1.out.wa.own.lj,Hpj.out] at hpl
 rw [Hpj.out] at c3
 have k0:w1.cell? ⟨WK,0,none⟩=some (.pointer (some ⟨N,0,none⟩)):=H1.out.wa.wk.cell 0
 have n1:w1.cell? ⟨N,1,none⟩=some (.slice x.aj x.nj x.cj):=H1.out.wa.nb.cell 1
 rw [hA] at n1
 have HA:=hid hA
 clear hA hcell
 have hz:=(vS (by rw [← HA.out]; exact H1.out.wa.own.j) (pj*5+3) (by omega) (.int .i64 (j.tries+1))).2.1
 rw [← Nat.add_assoc] at hz
 have hjm:=htr j (List.mem_of_getElem? hj)
 by_cases ht:j.tries=100
 · have dj:(j.tries == 100)=true:=by rw [ht]; rfl
   obtain rfl:=(if_pos ht).symm.trans HR5.out
   clear HR5 ht
   go_wp2
   go_ret
   exact aR.out 2 (by decide) _ H1.out
 have dj:(j.tries == 100)=false:=beq_false_of_ne ht
 obtain rfl:=(if_neg ht).symm.trans HR5.out
 clear HR5 ht
 go_wp2_with fail
 have hja:=H1.out.wa.own.j
 rw [HA.out] at hja
 have hset:=vS hja (pj*5+3) (by omega) (.int .i64 (j.tries+1))
 rw [← Nat.add_assoc] at hset
 obtain⟨hjs,_,_,hbb2,csb,hcb⟩:=hset
 rw [vT (enc:=aL) (sz:=5) (fun _=>rfl) st.jobs pj 3 j (yZ j) (.int .i64 (j.tries+1)) (by rw [← Hpj.out]; exact hj) (by decide) rfl,← HA.out,(by rw [← Hpj.out]; exact (yY H.out.sj Hij.out hj hjn).symm:st.jobs.set pj (yZ j)=hM aD.name st.jobs (yZ j))] at hjs
 obtain⟨js,FZ⟩:∃ js,hM aD.name st.jobs (yZ j)=js:=⟨_,rfl⟩
 have hjl:js.length=x.nj:=by rw [← FZ,yY H.out.sj Hij.out hj hjn,List.length_set]; exact H1.out.wa.own.lj
 rw [FZ] at hjs
 obtain⟨w2,hw2⟩:∃ w2,w1.setCell ⟨b,off+pj*5+3,none⟩ (.int .i64 (j.tries+1))=w2:=⟨_,rfl⟩
 rw [hw2] at hjs
 have hn2:w2.ownsRow base 36 3 (.slice x.an x.nn x.cn) x.nn (au aC st.nodes):=by rw [← hw2]; exact aP H1.out.wa.own.n hcb (by decide)
 have hl2:w2.ownsRow base 38 3 (.slice x.al x.nl x.cl) x.nl (au av st.leases):=by rw [← hw2]; exact aP H1.out.wa.own.l hcb (by decide)
 have Ir:Below base w w2:=by rw [← hw2]; exact (H1.out.below.mono H.out.w.bs).trans (aN (Below.refl _ _) hbb)
 have um:base≤w2.drew.heap.size:=Nat.le_trans H.out.w.bs Ir.size
 have H13:G4 w w2 base st x N WK w.heap.size now l js (hM ak.job st.leases l) 0 ⟨none,0,0,false⟩ w2.drew:=by
  refine⟨?_,?_,?_,Ir.drew,hjs.drew,hn2.drew,fun _=>rfl,fun _=>rfl,fun h=>absurd h (by decide)⟩
  · rw [← hw2]; exact aY H1.out.lb hcb (by decide)
  · rw [← hw2]; exact aY H1.out.wa.wk hcb (by decide)
  · rw [← hw2]; exact aY H1.out.wa.nb hcb (by decide)
 have HD:=hid (Al base x.al x.nl x.cl st.leases l w2.drew hl2.drew H1.out.wa.own.ll (by have:=H.out.nl; omega) H.out.sl um)
 have HL:=hid hl2.drew
 have HBs:=hid um
 have HbN:=hid H.out.w.bN
 have Hjl:=hid hjl
 have HjE:=hid FZ
 have Hj:=hid hj
 rw [hw2]
 clear hw2 FZ hjl hjs hn2 hl2 Ir um hcb hbb2 hja H1 c3 hpl k0 n1 hz hjm dj hjn aR HA
 refine rq 114 (BB N WK w.heap.size st x l) [12,15] (G4 w w2 base st x N WK w.heap.size now l js (hM ak.job st.leases l)) ⟨none,0,0,false⟩ H13 ?_ ?_
 · refine⟨?_,?_,?_,?_,?_,?_,?_,?_,?_,?_,?_,?_,?_,?_,?_,?_,trivial⟩
   · exact ok0 0 2 0 rfl fun _=>rfl
   · exact ok1 0 2 0 92 rfl rfl (fun _ _ h=>h) fun _=>rfl
   · exact ok1 0 2 1 93 rfl rfl (fun _ _ h=>h) fun _=>rfl
   · refine okQ 0 2 fun p γ a wx hpl hph hp hk=>?_
     obtain⟨u1,h1,rfl⟩:=hk.g 2 94 rfl rfl
     have hc0:wx.cell? ⟨WK,0,none⟩=some (.pointer (some ⟨N,0,none⟩)):=hp.wk.cell 0
     simp [go_sem,Oper.wp,execOp,Act.eval,h1,hc0]
     exact⟨_,rfl,γ,fun _ _ _ h=>h,rfl,hp⟩
   · exact ok0 0 2 0 rfl fun _=>rfl
   · exact ok1 0 2 4 96 rfl rfl (fun _ _ h=>h) fun _=>rfl
   · exact ok1 0 2 5 97 rfl rfl (fun _ _ h=>h) fun _=>rfl
   · refine okQ 0 2 fun p γ a wx hpl hph hp hk=>?_
     obtain⟨u1,h1,rfl⟩:=hk.g 6 98 rfl rfl
     have hc0:wx.cell? ⟨WK,0,none⟩=some (.pointer (some ⟨N,0,none⟩)):=hp.wk.cell 0
     simp [go_sem,Oper.wp,execOp,Act.eval,h1,hc0]
     exact⟨_,rfl,γ,fun _ _ _ h=>h,rfl,hp⟩
   · exact ok1 0 2 7 99 rfl rfl (fun _ _ h=>h) fun _=>rfl
   · exact ok1 0 2 8 100 rfl rfl (fun _ _ h=>h) fun _=>rfl
   · refine okQ 0 0 fun p γ a wx hpl hph hp hk=>?_
     obtain⟨u1,h1,rfl⟩:=hk.g 9 101 rfl rfl
     obtain rfl:p=0:=by omega
     have hc0:wx.cell? ⟨N,3,none⟩=some (.slice x.al x.nl x.cl):=hp.nb.cell 3
     simp [go_sem,Oper.wp,execOp,Act.eval,h1,hc0]
     exact⟨_,rfl,γ,fun _ _ _ h=>h,rfl,hp⟩
   · refine okQ 0 2 fun p γ a wx hpl hph hp hk=>?_
     have h1:=hk.k 3 rfl
     have hc0:wx.cell? ⟨w.heap.size,0,none⟩=some (.string l.job):=hp.lb.cell 0
     have hc1:wx.cell? ⟨w.heap.size,1,none⟩=some (.string l.node):=hp.lb.cell 1
     have hc2:wx.cell? ⟨w.heap.size,2,none⟩=some (.int .i64 l.till):=hp.lb.cell 2
     simp [go_sem,Oper.wp,execOp,Act.eval,h1,hc0,hc1,hc2]
     exact⟨_,rfl,γ,fun _ _ _ h=>h,rfl,hp⟩
   · refine .inl ⟨0,rfl,fun γ a wx hp hk=>bF rfl ?_⟩
     obtain⟨u1,h1,rfl⟩:=hk.g 10 102 rfl rfl
     obtain⟨u2,h2,rfl⟩:=hk.g 11 103 rfl rfl
     simp [go_sem,Oper.wp,execOp,Act.eval,h1,h2]
     obtain rfl:=hp.here rfl
     refine (HD.out).mono ?_
     rintro e w' ⟨A',m,c',rfl,hm,ho,hg⟩
     exact⟨_,rfl,⟨A',m,c',true⟩,fun j v hj h=>D8 (hp.unset rfl) h,⟨rfl,rfl⟩,⟨(hg.grown.block _ hp.lb.lt (fun e=>Nat.lt_irrefl _ ((H.out.w.own.l.lt _ e.symm).2))).trans hp.lb,Blk.gE hp.wk hg HL.out (by decide),Blk.eq (Blk.gE hp.nb hg HL.out (by decide)) rfl,hp.below.trans (hg.below HBs.out (fun q hq=>(HL.out.lt q hq).1)),bJ hp.j hg HL.out (by decide),bJ hp.n hg HL.out (by decide),fun h=>absurd h (by decide),fun h=>absurd h (by decide),fun _=>⟨ho,hm⟩⟩⟩
   · exact ok1 0 2 3 95 rfl rfl (fun _ _ h=>h) fun _=>rfl
   · exact ok1 0 2 13 105 rfl rfl (fun _ _ h=>h) fun _=>rfl
   · refine .inl ⟨1,rfl,fun γ a wx hp hk=>bF rfl ?_⟩
     obtain⟨u1,h1,rfl⟩:=hk.g 14 106 rfl rfl
     obtain⟨u2,h2,hs2,rfl⟩:=hk.g 12 104 rfl rfl
     have hc:wx.cell? ⟨N,3,none⟩=some (.slice x.al x.nl x.cl):=hp.nb.cell 3
     have hz:wx.frozen? ⟨N,3,none⟩=false:=hp.nb.thaw 3
     simp [go_sem,Oper.wp,execOp,Act.eval,h1,h2,hc,hz]
     exact⟨.int .i64 0,γ,fun _ _ _ h=>h,trivial,⟨aY hp.lb hp.nb (by decide),aY hp.wk hp.nb (by decide),Blk.eq (hp.nb.set 3 _) rfl,hp.below.trans (aN (Below.refl _ _) HbN.out),aP hp.j hp.nb (by decide),aP hp.n hp.nb (by decide),fun h=>absurd h (by decide),fun h=>absurd h (by decide),fun _=>⟨aP (hp.r (by decide)).1 hp.nb (by decide),(hp.r (by decide)).2⟩⟩⟩
 intro γ a wy hd
 have hp:=hd.ph
 obtain⟨fv,rfl,hfv⟩:=hd.frame [92,93,94,95,96,97,98,99,100,101,102,103,104,105,106] rfl
 have hnb:Blk wy N 26 #[.int .i64 st.rev,.slice x.aj x.nj x.cj,.slice x.an x.nn x.cn,.slice γ.A γ.m γ.c]:=hp.nb
 have hwa:lQ wy base (⟨st.rev,js,st.nodes,hM ak.job st.leases l⟩:ah) ⟨x.aj,x.nj,x.cj,x.an,x.nn,x.cn,γ.A,γ.m,γ.c⟩ N WK now:=⟨hnb,hp.wk,⟨hp.j,hp.n,(hp.r (by decide)).1,Hjl.out,H.out.w.own.ln,(hp.r (by decide)).2.symm⟩,H.out.w.bN,H.out.w.bW,Nat.le_trans H.out.w.bs hp.below.size⟩
 have hlen:=(hp.r (by decide)).2
 have pU:=mZ (key:=ak.job) (x:=l) H.out.sl
 have hjok:lB js:=by
  rw [← HjE.out]
  exact fun z hz=>(pX hz).elim (fun e=>by rw [e]; exact H.out.oj j (List.mem_of_getElem? Hj.out)) (H.out.oj z)
 have HC:=hid (show Calls Tryz.prog 37 #[.agg #[.int .i64 st.rev,.slice x.aj x.nj x.cj,.slice x.an x.nn x.cn,.slice γ.A γ.m γ.c]] wy _ from l9 (⟨st.rev,js,st.nodes,hM ak.job st.leases l⟩:ah) ⟨x.aj,x.nj,x.cj,x.an,x.nn,x.cn,γ.A,γ.m,γ.c⟩ wy (hwa.own.at2 (by have:=H.out.nj; show x.nj≤1000; omega) (by have:=H.out.nn; show x.nn≤1000; omega) (by have:=H.out.w.own.ll; have:=H.out.nl; show γ.m≤1000; omega) hjok H.out.on_ (fun z hz=>(pX hz).elim (fun e=>by rw [e]; exact hok) (H.out.ol z))) (HT.out _ hp.below))
 have HwA:=hid hwa
 have HbX:=hid hp.below
 have b1:wy.cell? ⟨WK,0,none⟩=some (.pointer (some ⟨N,0,none⟩)):=hp.wk.cell 0
 obtain⟨n0,n1,n2,n3⟩:=Blk.c4 (hnb)
 have hNl:=hnb.lt
 have Hst:=hid (show (⟨st.rev,js,st.nodes,hM ak.job st.leases l⟩:ah)=jv st j l from by rw [← HjE.out]; rfl)
 clear hd hp hfv hnb hwa hlen pU H13 hjok hj
 simp only [foldl_cons,foldl_nil,setIfInBounds_toArray,set_cons_succ,set_cons_zero]
 go_wp2_with fail
 refine Calls.mono HC.out ?_
 rintro e w5 ⟨rfl,hb5⟩
 have aV:=hid (show fK base N WK (aG (⟨st.rev,js,st.nodes,hM ak.job st.leases l⟩:ah),(⟨st.rev,js,st.nodes,hM ak.job st.leases l⟩:ah),now) w (.returned (.int .i64 (aG (⟨st.rev,js,st.nodes,hM ak.job st.leases l⟩:ah)))) w5 from ⟨rfl,HbX.out.trans (hb5.mono (Nat.le_trans H.out.w.bs HbX.out.size)),fun _=>⟨_,HwA.out.below hb5⟩⟩)
 rw [Hst.out] at aV ⊢
 clear hb5 b1 n0 n1 n2 n3 HC
 go_wp2
 go_ret
 exact aV.out
end Go.Proofs.YtoeejfhdjmkpcaaGreatDoor
