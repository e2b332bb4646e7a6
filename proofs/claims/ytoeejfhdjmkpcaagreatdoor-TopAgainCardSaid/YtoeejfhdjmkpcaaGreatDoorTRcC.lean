/- Of the proof of a statement: ZeroDe, FeedN, DEqR, RcC, RqRd, ArgReq. -/
import Derived.Shelf.Abstract
import Derived.Test.YtoeejfhdjmkpcaaGreatDoorTArgSt
import Derived.Test.YtoeejfhdjmkpcaaGreatDoorTDChk
set_option linter.unusedVariables false
set_option linter.unusedSimpArgs false
set_option maxRecDepth 100000
set_option maxHeartbeats 8000000
/- The zero delta. -/
namespace Go.Proofs.YtoeejfhdjmkpcaaGreatDoor
open Go.Lib (hid)
open Go.RowKit
def Jj:aX:=⟨0,0,[],[],[],[],[],[]⟩
def IE:fH:=⟨none,0,0,none,0,0,none,0,0,none,0,0,none,0,0,none,0,0⟩
theorem GE (w:World) (B:Nat):dQ w B Jj IE:=
 { j:=aW.nil,n:=aW.nil,l:=aW.nil,gj:=aW.nil,gn:=aW.nil,gl:=aW.nil,lj:=rfl,ln:=rfl,ll:=rfl,lgj:=rfl,lgn:=rfl,lgl:=rfl,
   bj:=by decide,bn:=by decide,bl:=by decide,bgj:=by decide,bgn:=by decide,bgl:=by decide,
   oj:=(fun _ h=>by cases h),on_:=(fun _ h=>by cases h),ol:=(fun _ h=>by cases h),ogj:=(fun _ h=>by cases h),ogn:=(fun _ h=>by cases h),ogl:=(fun _ h=>by cases h) }
end Go.Proofs.YtoeejfhdjmkpcaaGreatDoor
/- Feed: New, and Push where it is stuck. -/
namespace Go.Proofs.YtoeejfhdjmkpcaaGreatDoor
open Go.Lib (hid)
open Go.RowKit
theorem GF (w:World):Calls Tryz.prog 38 #[] w fun x w'=>x = .returned (.pointer (some ⟨w.heap.size,0,none⟩))∧w'=w.alloc (.cells #[.string ⟨#[]⟩,.int .i64 0,.int .i64 0] 219):=by
 go_enter Tryz.func38,Tryz.ntmps38
 go_wp2
 go_ret
 exact⟨rfl,rfl⟩
end Go.Proofs.YtoeejfhdjmkpcaaGreatDoor
/- Eq of the reference at strings; DeltaEq of one delta in two places. -/
namespace Go.Proofs.YtoeejfhdjmkpcaaGreatDoor
open Go.Lib (hid)
open Go.RowKit
theorem ni.same {α:Type} {xs:List α} {w w':World} {e:Ending} (h:ni xs xs w e w'):e = .returned (.bool true)∧Below w.heap.size w w':=by
 obtain⟨t,rfl,ht,hb⟩:=h
 exact⟨by rw [ht.2 rfl],hb⟩
end Go.Proofs.YtoeejfhdjmkpcaaGreatDoor
/- req.isTime, the parts' check. -/
namespace Go.Proofs.YtoeejfhdjmkpcaaGreatDoor
open Go.Lib (hid)
open Go.RowKit
def bG (E:Int) (w:World) (e:Ending) (w':World):Prop:=e = .returned (.int .i64 E)∧Below w.heap.size w w'
theorem uO (n:Int) (w:World):Calls Tryz.prog 420 #[.int .i64 n] w fun e w'=>e = .returned (.bool (ranged n 0 1099511627776))∧Below w.heap.size w w':=by
 by_cases h0:0≤n
 · by_cases h1:n≤1099511627776
   · have hr:ranged n 0 1099511627776=true:=bB.2 ⟨h0,h1⟩
     have d0:decide (0≤n)=true:=decide_eq_true h0
     have d1:decide (n≤1099511627776)=true:=decide_eq_true h1
     rw [hr]
     go_enter Tryz.func420,Tryz.ntmps420
     go_wp2
     go_ret
     exact⟨rfl,Below.refl _ _⟩
   · have hr:ranged n 0 1099511627776=false:=gK.2 (by omega)
     have d0:decide (0≤n)=true:=decide_eq_true h0
     have d1:decide (n≤1099511627776)=false:=decide_eq_false h1
     rw [hr]
     go_enter Tryz.func420,Tryz.ntmps420
     go_wp2
     go_ret
     exact⟨rfl,Below.refl _ _⟩
 · have hr:ranged n 0 1099511627776=false:=gK.2 (by omega)
   have d0:decide (0≤n)=false:=decide_eq_false h0
   rw [hr]
   go_enter Tryz.func420,Tryz.ntmps420
   go_wp2
   go_ret
   exact⟨rfl,Below.refl _ _⟩
theorem Ba (j:aD) (P:Nat) (w:World) (hp:Blk w P 327 #[.string j.name,.int .i64 j.prio,.int .i64 j.need,.int .i64 j.tries,.string j.tag]) (h1:j.name.size≤9223372036854775807) (h2:j.tag.size≤9223372036854775807) (hT:Tabs w):Calls Tryz.prog 466 #[.pointer (some ⟨P,0,none⟩)] w (bG (fF j) w):=by
 obtain⟨p0,p1,p2,p3,p4⟩:=Blk.c5 (hp)
 have hlp:=hp.lt
 have HC:=hid (show Calls Tryz.prog _ #[.agg #[.string j.name,.int .i64 j.prio,.int .i64 j.need,.int .i64 j.tries,.string j.tag]] w _ from pO j w h1 h2 hT)
 obtain⟨E,hE⟩:∃ E,fF j=E:=⟨_,rfl⟩
 rw [hE] at HC ⊢
 clear hp hE
 go_enter Tryz.func466,Tryz.ntmps466
 go_wp2_with fail
 refine Calls.mono HC.out ?_
 rintro e w5 ⟨rfl,hb5⟩
 have HB:=hid hb5
 clear hb5 HC
 go_wp2
 go_ret
 exact⟨rfl,HB.out⟩
theorem zH (j:aA) (P:Nat) (w:World) (hp:Blk w P 330 #[.string j.name,.int .i64 j.room,.string j.zone]) (h1:j.name.size≤9223372036854775807) (h2:j.zone.size≤9223372036854775807) (hT:Tabs w):Calls Tryz.prog 470 #[.pointer (some ⟨P,0,none⟩)] w (bG (eP j) w):=by
 have p0:w.cell? ⟨P,0,none⟩=some (.string j.name):=hp.cell 0
 have p1:w.cell? ⟨P,1,none⟩=some (.int .i64 j.room):=hp.cell 1
 have p2:w.cell? ⟨P,2,none⟩=some (.string j.zone):=hp.cell 2
 have hlp:=hp.lt
 have HC:=hid (show Calls Tryz.prog _ #[.agg #[.string j.name,.int .i64 j.room,.string j.zone]] w _ from oG j w h1 h2 hT)
 obtain⟨E,hE⟩:∃ E,eP j=E:=⟨_,rfl⟩
 rw [hE] at HC ⊢
 clear hp hE
 go_enter Tryz.func470,Tryz.ntmps470
 go_wp2_with fail
 refine Calls.mono HC.out ?_
 rintro e w5 ⟨rfl,hb5⟩
 have HB:=hid hb5
 clear hb5 HC
 go_wp2
 go_ret
 exact⟨rfl,HB.out⟩
theorem nQ (s:ByteArray) (P:Nat) (w:World) (hp:Blk w P 334 #[.string s]) (hs:s.size≤9223372036854775807) (hT:Tabs w):Calls Tryz.prog 478 #[.pointer (some ⟨P,0,none⟩)] w (bG (if bQ s then 0 else 4) w):=by
 have p0:w.cell? ⟨P,0,none⟩=some (.string s):=hp.cell 0
 have hlp:=hp.lt
 have HC:=hid (eW s w hs hT)
 obtain⟨b,hb⟩:∃ b,bQ s=b:=⟨_,rfl⟩
 rw [hb] at HC ⊢
 obtain⟨E,hE⟩:∃ E:Int,(if b=true then (0:Int) else 4)=E:=⟨_,rfl⟩
 rw [hE]
 have HE:=hid hE
 clear hp hb hE
 go_enter Tryz.func478,Tryz.ntmps478
 go_wp2_with fail
 refine Calls.mono HC.out ?_
 rintro e w5 ⟨rfl,hb5⟩
 have HB:=hid hb5
 clear hb5 HC
 cases b
 · obtain rfl:(4:Int)=E:=HE.out
   go_wp2
   go_ret
   exact⟨rfl,HB.out⟩
 · obtain rfl:(0:Int)=E:=HE.out
   go_wp2
   go_ret
   exact⟨rfl,HB.out⟩
theorem xH (s:Int) (P:Nat) (w:World) (hp:Blk w P 336 #[.int .i64 s]):Calls Tryz.prog 482 #[.pointer (some ⟨P,0,none⟩)] w (bG (if ranged s 0 1099511627776 then 0 else 1) w):=by
 have p0:w.cell? ⟨P,0,none⟩=some (.int .i64 s):=hp.cell 0
 have hlp:=hp.lt
 have HC:=hid (uO s w)
 obtain⟨b,hb⟩:∃ b,ranged s 0 1099511627776=b:=⟨_,rfl⟩
 rw [hb] at HC ⊢
 obtain⟨E,hE⟩:∃ E:Int,(if b=true then (0:Int) else 1)=E:=⟨_,rfl⟩
 rw [hE]
 have HE:=hid hE
 clear hp hb hE
 go_enter Tryz.func482,Tryz.ntmps482
 go_wp2_with fail
 refine Calls.mono HC.out ?_
 rintro e w5 ⟨rfl,hb5⟩
 have HB:=hid hb5
 clear hb5 HC
 cases b
 · obtain rfl:(1:Int)=E:=HE.out
   go_wp2
   go_ret
   exact⟨rfl,HB.out⟩
 · obtain rfl:(0:Int)=E:=HE.out
   go_wp2
   go_ret
   exact⟨rfl,HB.out⟩
theorem xI (l:ak) (P:Nat) (w:World) (hp:Blk w P 333 #[.string l.job,.string l.node,.int .i64 l.till]) (h1:l.job.size≤9223372036854775807) (h2:l.node.size≤9223372036854775807) (hT:Tabs w):Calls Tryz.prog 474 #[.pointer (some ⟨P,0,none⟩)] w (bG (lsE l) w):=by
 have p0:w.cell? ⟨P,0,none⟩=some (.string l.job):=hp.cell 0
 have hlp:=hp.lt
 have HP:=hid hp
 have HT:=hid hT
 have HJ:=hid (eW l.job w h1 hT)
 obtain⟨a,ha⟩:∃ a,bQ l.job=a:=⟨_,rfl⟩
 obtain⟨b,hb⟩:∃ b,bQ l.node=b:=⟨_,rfl⟩
 obtain⟨c,hc⟩:∃ c,ranged l.till 0 1099511627776=c:=⟨_,rfl⟩
 obtain⟨E,hE⟩:∃ E,lsE l=E:=⟨_,rfl⟩
 rw [hE]
 unfold lsE at hE
 rw [ha,hb,hc] at hE
 rw [ha] at HJ
 have HE:=hid hE
 have Hb:=hid hb
 have Hc:=hid hc
 clear hp hT ha hb hc hE
 go_enter Tryz.func474,Tryz.ntmps474
 go_wp2_with fail
 refine Calls.mono HJ.out ?_
 rintro e w1 ⟨rfl,hb1⟩
 have HB1:=hid hb1
 have HP1:=hid (HP.out.below hb1 HP.out.lt)
 clear hb1 HJ p0 hlp
 cases a
 · obtain rfl:(4:Int)=E:=HE.out
   go_wp2
   go_ret
   exact⟨rfl,HB1.out⟩
 have p1:w1.cell? ⟨P,1,none⟩=some (.string l.node):=HP1.out.cell 1
 have hlp:=HP1.out.lt
 have HN:=hid (eW l.node w1 h2 (HT.out.below HB1.out))
 rw [Hb.out] at HN
 go_wp2_with fail
 refine Calls.mono HN.out ?_
 rintro e w2 ⟨rfl,hb2⟩
 have HB2:=hid (HB1.out.trans (hb2.mono HB1.out.size))
 have HP2:=hid (HP1.out.below hb2 HP1.out.lt)
 clear hb2 HN p1 hlp
 cases b
 · obtain rfl:(4:Int)=E:=HE.out
   go_wp2
   go_ret
   exact⟨rfl,HB2.out⟩
 have p2:w2.cell? ⟨P,2,none⟩=some (.int .i64 l.till):=HP2.out.cell 2
 have hlp:=HP2.out.lt
 have HR:=hid (uO l.till w2)
 rw [Hc.out] at HR
 go_wp2_with fail
 refine Calls.mono HR.out ?_
 rintro e w3 ⟨rfl,hb3⟩
 have HB3:=hid (HB2.out.trans (hb3.mono HB2.out.size))
 clear hb3 HR p2 hlp
 cases c
 · obtain rfl:(1:Int)=E:=HE.out
   go_wp2
   go_ret
   exact⟨rfl,HB3.out⟩
 · obtain rfl:(0:Int)=E:=HE.out
   go_wp2
   go_ret
   exact⟨rfl,HB3.out⟩
end Go.Proofs.YtoeejfhdjmkpcaaGreatDoor
/- Replies: what the program reads. -/
namespace Go.Proofs.YtoeejfhdjmkpcaaGreatDoor
open Go.Lib (hid)
open Go.RowKit
theorem pF {s:ByteArray} (h:s.size≠0):(s.toList != [])=true:=by unfold bne; rw [sL h]; rfl
theorem qE {s:ByteArray} (h:s.size≠0):(s.toList != ByteArray.toList ⟨#[]⟩)=true:=by unfold bne; rw [vK h]; rfl
theorem Jk (g:Nat) (σ:RR Unit) (w:World) (h:RxS w g σ) (hσ:σ.Good uP) :
 Calls Tryz.prog 81 #[.pointer (some ⟨g,0,none⟩)] w fun e w'=>e = .returned (.int .i64 (Du σ:Int))∧w.grownBy w' (some g):=by
 obtain⟨s,x,hA,hx⟩:∃ (s:ByteArray) (x:Nat),mL w g s x∧((x=0∧Du σ=(if s.size=0 then 0 else 4))∨(x≠0∧Du σ=x)):=by
  cases σ with
  | ok u s=>exact⟨s,0,h,.inl ⟨rfl,rfl⟩⟩
  | bad x=>obtain⟨s,_,hA⟩:=h; exact⟨s,x,hA,.inr ⟨hσ.1,rfl⟩⟩
 obtain⟨E,hE⟩:∃ E,Du σ=E:=⟨_,rfl⟩
 rw [hE] at hx ⊢
 have y0:w.cell? ⟨g,0,none⟩=some (.string s):=Blk.cell hA 0
 have y1:w.cell? ⟨g,1,none⟩=some (.int .i64 (x:Int)):=Blk.cell hA 1
 have HA:=hid hA
 clear h hE hA hσ
 by_cases hs:s.size=0
 · obtain rfl:=yw hs
   have hEx:E=x:=by
    rcases hx with ⟨h1,h2⟩ | ⟨h1,h2⟩
    · rw [if_pos hs] at h2; omega
    · exact h2
   subst hEx
   clear hx hs
   go_enter Tryz.func81,Tryz.ntmps81
   go_wp2
   go_ret
   exact⟨rfl,dU _ _⟩
 · have e1:=pF hs
   have e2:=qE hs
   have e3:=Ab hs
   have hEx:(if x=0 then 4 else x)=E:=by
    rcases hx with ⟨h1,h2⟩ | ⟨h1,h2⟩
    · rw [if_neg hs] at h2; rw [if_pos h1]; exact h2.symm
    · rw [if_neg h1]; exact h2.symm
   have HEx:=hid hEx
   clear hx hs hEx
   go_enter Tryz.func81,Tryz.ntmps81
   go_wp2_with fail
   refine Calls.mono (xJ g s 4 x _ HA.out) ?_
   rintro e w1 ⟨rfl,hA2,hg2⟩
   rw [HEx.out] at hA2
   have x1:w1.cell? ⟨g,1,none⟩=some (.int .i64 (E:Int)):=Blk.cell hA2 1
   clear hA2 y0 y1
   go_wp2
   go_ret
   exact⟨rfl,hg2⟩
end Go.Proofs.YtoeejfhdjmkpcaaGreatDoor
/- An argument that is a list of requests, opened. -/
namespace Go.Proofs.YtoeejfhdjmkpcaaGreatDoor
open Go.Lib (hid)
open Go.ChangeShapes Go.WideShapes Go.ChangeAt Go.RowKit
structure qF (q:aH):Prop where
 kind:I64 q.kind
 job:sK q.job
 node:pJ q.node
 lease:nS q.lease
 name:Short q.name
 n:I64 q.n
def EM (q:aH):List Value:=(aB q).toList
theorem zI (q:aH):(EM q).length=14:=rfl
theorem zJ : Tryz.prog.cellsOf 40 = 14:=by kernel_rfl
theorem GG {H:Type} {enc:TypeId × Value→H} {W:World} {held:Bool} (n:Nat) (cs:List Value) (y:DataW H × List MemPlace) (h:DataW.trod enc Tryz.prog W 0 (fun _=>true) held n 40 cs=some y):∃ a:aH,cs=EM a∧qF a:=by
 obtain⟨xs,m,-,-,hl,hxs,hall⟩:=DataW.trod_struct Tryz.underlying40 h
 have hl2:cs.length=14:=hl.trans zJ
 have H7:xs.length=6:=hxs
 match cs,hl2 with
 | [v0,v1,v2,v3,v4,v5,v6,v7,v8,v9,v10,v11,v12,v13],_=>
  have q0:=hall 0 _ rfl
  rw [List.getElem?_eq_getElem (by omega)] at q0
  obtain⟨kd,e0,-,z0⟩:=DataW.trod_int Tryz.underlying3 q0
  replace e0:[v0]=[_]:=e0
  obtain rfl:=(List.cons.inj e0).1
  have q1:=hall 1 _ rfl
  rw [List.getElem?_eq_getElem (by omega)] at q1
  obtain⟨jb,e1,z1⟩:=Bn _ _ _ q1
  replace e1:[v1,v2,v3,v4,v5]=aL jb:=e1
  simp only [aL,List.cons.injEq,and_true] at e1
  obtain⟨rfl,rfl,rfl,rfl,rfl⟩:=e1
  have q2:=hall 2 _ rfl
  rw [List.getElem?_eq_getElem (by omega)] at q2
  obtain⟨nd,e2,z2⟩:=xV _ _ _ q2
  replace e2:[v6,v7,v8]=aC nd:=e2
  simp only [aC,List.cons.injEq,and_true] at e2
  obtain⟨rfl,rfl,rfl⟩:=e2
  have q3:=hall 3 _ rfl
  rw [List.getElem?_eq_getElem (by omega)] at q3
  obtain⟨ls,e3,z3⟩:=vE _ _ _ q3
  replace e3:[v9,v10,v11]=av ls:=e3
  simp only [av,List.cons.injEq,and_true] at e3
  obtain⟨rfl,rfl,rfl⟩:=e3
  have q4:=hall 4 _ rfl
  rw [List.getElem?_eq_getElem (by omega)] at q4
  obtain⟨nm,e4,-,z4⟩:=DataW.trod_string Tryz.underlying9 q4
  replace e4:[v12]=[_]:=e4
  obtain rfl:=(List.cons.inj e4).1
  have q5:=hall 5 _ rfl
  rw [List.getElem?_eq_getElem (by omega)] at q5
  obtain⟨nn,e5,-,z5⟩:=DataW.trod_int Tryz.underlying3 q5
  replace e5:[v13]=[_]:=e5
  obtain rfl:=(List.cons.inj e5).1
  exact⟨⟨kd,jb,nd,ls,nm,nn⟩,rfl,eA z0,z1,z2,z3,kr z4,eA z5⟩
theorem Cx {H:Type} {enc:TypeId × Value→H} {W:World} {r:Reach} {b0:Nat} {held:Bool} {v:Value} {d:DataW H} {p:List MemPlace}
 (hval:Value.okWide Tryz.prog W r b0 27 v) (hd:DataW.Trod enc Tryz.prog W 0 (fun _=>true) held 27 v d p) (hlt:∀ x ∈ p,x.block<W.heap.size) :
 ∃ (qs:List aH) (A:Option Addr) (n c:Nat),v = .slice A n c∧qs.length=n∧n≤9223372036854775807∧aW W W.heap.size 14 A n (au EM qs)∧∀ q ∈ qs,qF q:=by
 obtain⟨A,n,c,rfl⟩:=okWide_slice Tryz.underlying27 hval
 obtain⟨fuel,hf⟩:=hd
 obtain⟨qs,A',n',c',e,h1,h2,h3,h4⟩:=nT EM qF ⟨0,⟨⟨#[]⟩,0,0,0,⟨#[]⟩⟩,⟨⟨#[]⟩,0,⟨#[]⟩⟩,⟨⟨#[]⟩,⟨#[]⟩,0⟩,⟨#[]⟩,0⟩ Tryz.underlying27 zJ (by omega) zI (fun n cs y h=>GG n cs y h) hf hlt
 simp only [Value.cells,List.cons.injEq,Value.slice.injEq,and_true] at e
 obtain⟨rfl,rfl,rfl⟩:=e
 exact⟨qs,_,_,_,rfl,h1,h2,h3,h4⟩
end Go.Proofs.YtoeejfhdjmkpcaaGreatDoor
