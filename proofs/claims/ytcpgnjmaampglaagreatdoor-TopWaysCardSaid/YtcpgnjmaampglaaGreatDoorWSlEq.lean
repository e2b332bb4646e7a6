/- Of the proof of a statement: Work, PlNext, PlJr, SlEq, RqRd, SGood, Jrd, PlJz, Frm. -/
import Derived.Deep.DeepCutAuto
import Derived.Test.YtcpgnjmaampglaaGreatDoorRows
import Derived.WalkKit
import Derived.ProofKit
import Derived.OpenShut
import Derived.ShutString
import Derived.ChangeOld
import Derived.Below
import Derived.Lib.SmallJoins
import Derived.Test.YtcpgnjmaampglaaGreatDoorWEqRows
import Derived.Test.YtcpgnjmaampglaaGreatDoorWInsert
import Derived.Test.YtcpgnjmaampglaaGreatDoorWLayJs
import Derived.Test.YtcpgnjmaampglaaGreatDoorWPlJp
set_option linter.unusedVariables false
set_option linter.unusedSimpArgs false
set_option maxRecDepth 100000
set_option maxHeartbeats 8000000
/- The work on a state in memory; (*work).without. -/
namespace Go.Proofs.YtcpgnjmaampglaaGreatDoor
open Go.Lib (hid)
open Go.RowKit
open Go.Lib (hasPrefix trimPrefix itoa decDigits)
open Go.Lib (hasPrefix trimPrefix atoiAll atoiSat)
open Go.Lib (hasPrefix trimPrefix)
structure Fz (w:World) (base:Nat) (st:ah) (x:StA) (N WK:Nat) (now:Int):Prop where
 nb:Blk w N 26 (stC st x)
 wk:Blk w WK 279 #[.pointer (some ⟨N,0,none⟩),.int .i64 now]
 own:StOwn w base st x
 bN:base≤N
 bW:base≤WK
 bs:base≤w.heap.size
theorem Fz.below {w w':World} {base:Nat} {st:ah} {x:StA} {N WK:Nat} {now:Int} (h:Fz w base st x N WK now) (hb:Below w.heap.size w w'):Fz w' base st x N WK now:=
 ⟨h.nb.below hb h.nb.lt,h.wk.below hb h.wk.lt,⟨aU h.own.j hb,aU h.own.n hb,aU h.own.l hb,h.own.lj,h.own.ln,h.own.ll⟩,h.bN,h.bW,Nat.le_trans h.bs hb.size⟩
structure PC where
 A:Option Addr
 m:Nat
 c:Nat
 s:Bool
structure cJ where
 kind:Int
 job:aB
 node:av
 lease:ak
 name:ByteArray
 n:Int
def lV (st:ah) (x:aB):ah:=⟨st.rev,pK aB.name st.jobs x,st.nodes,st.leases⟩
def CY (st:ah) (x:av):ah:=⟨st.rev,st.jobs,pK av.name st.nodes x,st.leases⟩
def CU (st:ah) (s:ByteArray):ah:=⟨st.rev,st.jobs.filter fun a=>!decide (a.name=s),st.nodes,st.leases.filter fun l=>!decide (l.job=s)⟩
def CV (st:ah) (s:ByteArray):ah:=⟨st.rev,st.jobs,st.nodes.filter fun a=>!decide (a.name=s),st.leases.filter fun l=>!decide (l.node=s)⟩
def CW (st:ah) (s:ByteArray):ah:=⟨st.rev,st.jobs,st.nodes,st.leases.filter fun l=>!decide (l.job=s)⟩
def CX (st:ah) (t:Int):ah:=⟨st.rev,st.jobs,st.nodes,st.leases.filter fun l=>!decide (l.till≤t)⟩
def tryJ (j:aB):aB:=⟨j.name,j.prio,j.need,j.tries+1,j.tag⟩
def yw (st:ah) (j:aB) (l:ak):ah:=⟨st.rev,pK aB.name st.jobs (tryJ j),st.nodes,pK ak.job st.leases l⟩
def CZ (st:ah) (now:Int) (l:ak):Int × ah × Int:=
 match eu st.jobs l.job with
 | none=>(6,st,now)
 | some j=>if (dX st.nodes l.node).isSome=false then (6,st,now)
  else if (fJ st.leases l.job).isSome=true then (7,st,now)
  else if l.till≤now then (1,st,now)
  else if j.tries=100 then (2,st,now)
  else (ay (yw st j l),yw st j l,now)
def doR (st:ah) (now:Int) (q:cJ):Int × ah × Int:=
 if q.kind=1 then (ay (lV st q.job),lV st q.job,now)
 else if q.kind=2 then (ay (CY st q.node),CY st q.node,now)
 else if q.kind=3 then (if (eu st.jobs q.name).isSome=true then 0 else 6,CU st q.name,now)
 else if q.kind=4 then (if (dX st.nodes q.name).isSome=true then 0 else 6,CV st q.name,now)
 else if q.kind=5 then CZ st now q.lease
 else if q.kind=6 then (if (fJ st.leases q.name).isSome=true then 0 else 6,CW st q.name,now)
 else if q.kind=7 then (if 1099511627776 - now<q.n then (1,st,now) else (0,CX st (now+q.n),now+q.n))
 else (0,st,now)
def oM (q:cJ):Int:=
 if q.kind=1 then eZ q.job else if q.kind=2 then eV q.node
 else if q.kind=3∨q.kind=4∨q.kind=6 then (if cK q.name then 0 else 4)
 else if q.kind=5 then lsE q.lease
 else if q.kind=7 then (if ranged q.n 0 1099511627776 then 0 else 1) else 0
def KX:aB:=⟨⟨#[]⟩,0,0,0,⟨#[]⟩⟩
def kK:av:=⟨⟨#[]⟩,0,⟨#[]⟩⟩
def iU:ak:=⟨⟨#[]⟩,⟨#[]⟩,0⟩
def DC (q:cJ):cJ:=
 ⟨q.kind,if q.kind=1 then q.job else KX,if q.kind=2 then q.node else kK,if q.kind=5 then q.lease else iU,if q.kind=3∨q.kind=4∨q.kind=6 then q.name else ⟨#[]⟩,if q.kind=7 then q.n else 0⟩
open Classical in
noncomputable def kB (q:cJ):Int:=if ranged q.kind 1 9=false then 1 else if DC q≠q then 4 else oM q
theorem dh {α:Type} {E:α→Int} {key:α→ByteArray} {l:List α} (h:bM E key l=0):aT key l:=(lU none l h).2
theorem Cc (l:List UInt8) (k:Nat) (h:k≤l.length):(BA l).extract 0 k=BA (l.take k):=by
 rw [← yu ((BA l).extract 0 k)]
 congr 1
 rw [ByteArray.data_extract,Array.toList_extract,List.extract_eq_take_drop]
 simp [BA]
theorem Av :
 (∀ (xs ys:List aB) (A A':Option Addr) (n m c c':Nat) (w:World) (hx:aQ w w.heap.size 5 A n (au aH xs)) (hy:aQ w w.heap.size 5 A' m (au aH ys)) (lx:xs.length=n) (ly:ys.length=m) (hn:n≤9223372036854775807) (hm:m≤9223372036854775807),Calls Tryz.prog 204 #[.slice A n c,.slice A' m c'] w (qL xs ys w)) ∧
 (∀ (xs ys:List av) (A A':Option Addr) (n m c c':Nat) (w:World) (hx:aQ w w.heap.size 3 A n (au aI xs)) (hy:aQ w w.heap.size 3 A' m (au aI ys)) (lx:xs.length=n) (ly:ys.length=m) (hn:n≤9223372036854775807) (hm:m≤9223372036854775807),Calls Tryz.prog 205 #[.slice A n c,.slice A' m c'] w (qL xs ys w)):=by
 refine⟨@fun xs ys A A' n m c c' w hx hy lx ly hn hm=>(fun(jM0:Unit)=>?_) (),@fun xs ys A A' n m c c' w hx hy lx ly hn hm=>(fun(jM1:Unit)=>?_) ()⟩<;>(
 by_cases h:n=m
 · subst h
   have h0:((n:Int) != n)=false:=by simp
   have Lx:=hid lx
   have Ly:=hid ly
   clear lx ly
   first|(guard_hyp jM0;go_enter Tryz.func204,Tryz.ntmps204)|go_enter Tryz.func205,Tryz.ntmps205
   go_wp2
   go_loopw [13] (fun i wr=>KZ xs ys n w i wr) (fun i _=>n - (intOf i).toNat)
   case atStart=>exact⟨0,Nat.zero_le _,rfl,rfl,Below.refl _ _⟩
   case round=>
    obtain⟨k,hk,rfl,he,hb⟩:=hrel
    have He:=hid he
    clear he
    by_cases hlt:k<n
    · obtain⟨x,hxk⟩:∃ x,xs[k]? = some x:=⟨_,List.getElem?_eq_getElem (by rw [Lx.out]; exact hlt)⟩
      obtain⟨y,hyk⟩:∃ y,ys[k]? = some y:=⟨_,List.getElem?_eq_getElem (by rw [Ly.out]; exact hlt)⟩
      first|(guard_hyp jM0;obtain⟨b,off,rfl,hbB,hc⟩:=(hx.below hb).dF aN Lx.out hxk)|obtain⟨b,off,rfl,hbB,hc⟩:=(hx.below hb).dF bF Lx.out hxk
      first|(guard_hyp jM0;obtain⟨b',off',rfl,yT,hc'⟩:=(hy.below hb).dF aN Ly.out hyk)|obtain⟨b',off',rfl,yT,hc'⟩:=(hy.below hb).dF bF Ly.out hyk
      first
       |(
        guard_hyp jM0
        obtain⟨bQ,fW,fX,eE,jm⟩:=x
        obtain⟨bI,fC,fD,dJ,iL⟩:=y)
       |(
        guard_hyp jM1
        obtain⟨bQ,fZ,fY⟩:=x
        obtain⟨bI,fF,fE⟩:=y)
      first|(guard_hyp jM0;have c0:wr.cell? ⟨b,off+k*5,none⟩=some (.string bQ):=hc 0 _ rfl)|have c0:wr.cell? ⟨b,off+k*3,none⟩=some (.string bQ):=hc 0 _ rfl
      first|(guard_hyp jM0;have d0:wr.cell? ⟨b',off'+k*5,none⟩=some (.string bI):=hc' 0 _ rfl)|have d0:wr.cell? ⟨b',off'+k*3,none⟩=some (.string bI):=hc' 0 _ rfl
      first
       |(
        guard_hyp jM0
        have c1:wr.cell? ⟨b,off+k*5+1,none⟩=some (.int .i64 fW):=hc 1 _ rfl
        have d1:wr.cell? ⟨b',off'+k*5+1,none⟩=some (.int .i64 fC):=hc' 1 _ rfl
        have c2:wr.cell? ⟨b,off+k*5+2,none⟩=some (.int .i64 fX):=hc 2 _ rfl
        have d2:wr.cell? ⟨b',off'+k*5+2,none⟩=some (.int .i64 fD):=hc' 2 _ rfl)
       |skip
      first|(guard_hyp jM0;have c3:wr.cell? ⟨b,off+k*5+3,none⟩=some (.int .i64 eE):=hc 3 _ rfl)|have c1:wr.cell? ⟨b,off+k*3+1,none⟩=some (.int .i64 fZ):=hc 1 _ rfl
      first|(guard_hyp jM0;have d3:wr.cell? ⟨b',off'+k*5+3,none⟩=some (.int .i64 dJ):=hc' 3 _ rfl)|have d1:wr.cell? ⟨b',off'+k*3+1,none⟩=some (.int .i64 fF):=hc' 1 _ rfl
      first|(guard_hyp jM0;have c4:wr.cell? ⟨b,off+k*5+4,none⟩=some (.string jm):=hc 4 _ rfl)|have c2:wr.cell? ⟨b,off+k*3+2,none⟩=some (.string fY):=hc 2 _ rfl
      first|(guard_hyp jM0;have d4:wr.cell? ⟨b',off'+k*5+4,none⟩=some (.string iL):=hc' 4 _ rfl)|have d2:wr.cell? ⟨b',off'+k*3+2,none⟩=some (.string fE):=hc' 2 _ rfl
      have hsz:=hb.size
      have hlt1:b<wr.heap.size:=by omega
      have hlt2:b'<wr.heap.size:=by omega
      have Hb:=hid hb
      have Hxk:=hid hxk
      have Hyk:=hid hyk
      have fin:=hid Hb.out.drew
      first
       |(
        guard_hyp jM0
        have step:=hid (fun (h:(⟨bQ,fW,fX,eE,jm⟩:aB)=⟨bI,fC,fD,dJ,iL⟩)=>gV (hxk.trans (congrArg some h)) hyk He.out)
        have stop:=hid (fun (h:(⟨bQ,fW,fX,eE,jm⟩:aB)≠⟨bI,fC,fD,dJ,iL⟩)=>mI hxk hyk h))
       |(
        guard_hyp jM1
        have step:=hid (fun (h:(⟨bQ,fZ,fY⟩:av)=⟨bI,fF,fE⟩)=>gV (hxk.trans (congrArg some h)) hyk He.out)
        have stop:=hid (fun (h:(⟨bQ,fZ,fY⟩:av)≠⟨bI,fF,fE⟩)=>mI hxk hyk h))
      clear hc hc' hx hy hxk hyk hb
      first
       |(
        guard_hyp jM0
        obtain⟨t,ht,hrun,-⟩:=yU bQ bI jm iL fW fC fX fD eE dJ)
       |(
        guard_hyp jM1
        obtain⟨t,ht,hrun,-⟩:=vP bQ bI fY fE fZ fF)
      have HT:=hid ht
      cases t
      · have DL:=hid (stop.out (fun h=>absurd (HT.out.2 h) (by decide)))
        first
         |(
          guard_hyp jM0
          have hrun':∀ W,(binOp .neq 59 (.agg #[.string bQ,.int .i64 fW,.int .i64 fX,.int .i64 eE,.string jm]) (.agg #[.string bI,.int .i64 fC,.int .i64 fD,.int .i64 dJ,.string iL])).run Tryz.prog W = .ok (.bool true) W:=hrun)
         |(
          guard_hyp jM1
          have hrun':∀ W,(binOp .neq 61 (.agg #[.string bQ,.int .i64 fZ,.string fY]) (.agg #[.string bI,.int .i64 fF,.string fE])).run Tryz.prog W = .ok (.bool true) W:=hrun)
        clear ht hrun step
        go_wp2
        go_region
        go_wp2
        go_ret
        exact⟨false,rfl,⟨fun h=>(by cases h),fun h=>absurd h DL.out⟩,fin.out⟩
      · have step2:=hid (step.out (HT.out.1 rfl))
        first
         |(
          guard_hyp jM0
          have hrun':∀ W,(binOp .neq 59 (.agg #[.string bQ,.int .i64 fW,.int .i64 fX,.int .i64 eE,.string jm]) (.agg #[.string bI,.int .i64 fC,.int .i64 fD,.int .i64 dJ,.string iL])).run Tryz.prog W = .ok (.bool false) W:=hrun)
         |(
          guard_hyp jM1
          have hrun':∀ W,(binOp .neq 61 (.agg #[.string bQ,.int .i64 fZ,.string fY]) (.agg #[.string bI,.int .i64 fF,.string fE])).run Tryz.prog W = .ok (.bool false) W:=hrun)
        clear ht hrun stop
        go_wp2
        go_region
        go_wp2
        go_roundw
        case rel=>exact⟨k+1,by omega,by go_num,step2.out,fin.out⟩
        case measure=>simp [intOf]; omega
    · have fin:=hid hb
      have same:=hid (show xs=ys by
       have e:=He.out
       rwa [List.take_of_length_le (by rw [Lx.out]; omega),List.take_of_length_le (by rw [Ly.out]; omega)] at e)
      clear hb hx hy
      go_wp2
      go_ret
      exact⟨true,rfl,⟨fun _=>same.out,fun _=>rfl⟩,fin.out⟩
 · have h0:((n:Int) != m)=true:=by simp; omega
   have fin:=hid (show xs≠ys by rintro rfl; omega)
   clear lx ly hx hy
   first|(guard_hyp jM0;go_enter Tryz.func204,Tryz.ntmps204)|go_enter Tryz.func205,Tryz.ntmps205
   go_wp2
   go_ret
   exact⟨false,rfl,⟨fun h=>(by cases h),fun h=>absurd h fin.out⟩,Below.refl _ _⟩)
theorem tG {s:ByteArray} (h:s.size≠0):(s.toList != [])=true:=by unfold bne; rw [kZ h]; rfl
theorem uT {s:ByteArray} (h:s.size≠0):(s.toList != ByteArray.toList ⟨#[]⟩)=true:=by unfold bne; rw [o9 h]; rfl
theorem QQ (g:Nat) (σ:RR Unit) (w:World) (h:RxS w g σ) (hσ:σ.Good xJ) :
 Calls Tryz.prog 34 #[.pointer (some ⟨g,0,none⟩)] w fun e w'=>e = .returned (.int .i64 (sI σ:Int))∧w.grownBy w' (some g):=by
 obtain⟨s,x,hA,hx⟩:∃ (s:ByteArray) (x:Nat),oL w g s x∧((x=0∧sI σ=(if s.size=0 then 0 else 4))∨(x≠0∧sI σ=x)):=by
  cases σ with
  | ok u s=>exact⟨s,0,h,.inl ⟨rfl,rfl⟩⟩
  | bad x=>obtain⟨s,_,hA⟩:=h; exact⟨s,x,hA,.inr ⟨hσ.1,rfl⟩⟩
 obtain⟨E,hE⟩:∃ E,sI σ=E:=⟨_,rfl⟩
 rw [hE] at hx ⊢
 have y0:w.cell? ⟨g,0,none⟩=some (.string s):=Blk.cell hA 0
 have y1:w.cell? ⟨g,1,none⟩=some (.int .i64 (x:Int)):=Blk.cell hA 1
 have HA:=hid hA
 clear h hE hA hσ
 by_cases hs:s.size=0
 · obtain rfl:=qY hs
   have hEx:E=x:=by
    rcases hx with ⟨h1,h2⟩ | ⟨h1,h2⟩
    · rw [if_pos hs] at h2; omega
    · exact h2
   subst hEx
   clear hx hs
   go_enter Tryz.func34,Tryz.ntmps34
   go_wp2
   go_ret
   exact⟨rfl,gF _ _⟩
 · have e1:=tG hs
   have e2:=uT hs
   have e3:=mP hs
   have hEx:(if x=0 then 4 else x)=E:=by
    rcases hx with ⟨h1,h2⟩ | ⟨h1,h2⟩
    · rw [if_neg hs] at h2; rw [if_pos h1]; exact h2.symm
    · rw [if_neg h1]; exact h2.symm
   have HEx:=hid hEx
   clear hx hs hEx
   go_enter Tryz.func34,Tryz.ntmps34
   go_wp2_with fail
   refine Calls.mono (wK g s 4 x _ HA.out) ?_
   rintro e w1 ⟨rfl,hA2,hg2⟩
   rw [HEx.out] at hA2
   have x1:w1.cell? ⟨g,1,none⟩=some (.int .i64 (E:Int)):=Blk.cell hA2 1
   clear hA2 y0 y1
   go_wp2
   go_ret
   exact⟨rfl,hg2⟩
structure SGood (st:ah):Prop where
 r0:0≤st.rev
 r1:st.rev≤1099511627776
 nj:st.jobs.length≤40
 nn:st.nodes.length≤20
 nl:st.leases.length≤40
 ej:bM eZ aB.name st.jobs=0
 en:bM eV av.name st.nodes=0
 el:bM (eN st) ak.job st.leases=0
theorem Ea {st:ah} (h:ay st=0):SGood st:=by
 have hz:=qK h
 have hr:ranged st.rev 0 1099511627776=true:=by
  cases hr:ranged st.rev 0 1099511627776 with
  | true=>rfl
  | false=>rw [F8 hr] at h; exact absurd h (by decide)
 have hs:dR st=true:=by
  cases hs:dR st with
  | true=>rfl
  | false=>rw [qT hr hs] at h; exact absurd h (by decide)
 have hj:bM eZ aB.name st.jobs=0:=by
  by_cases hj:bM eZ aB.name st.jobs=0
  · exact hj
  · rw [IG hr hs hj] at h; exact absurd h hj
 have hn:bM eV av.name st.nodes=0:=by
  by_cases hn:bM eV av.name st.nodes=0
  · exact hn
  · rw [ET hr hs hj hn] at h; exact absurd h hn
 have hl:bM (eN st) ak.job st.leases=0:=by
  by_cases hl:bM (eN st) ak.job st.leases=0
  · exact hl
  · rw [II hr hs hj hn,if_pos hl] at h; exact absurd h hl
 have:=aZ.1 hr
 exact⟨this.1,this.2,hz.1,hz.2.1,hz.2.2,hj,hn,hl⟩
theorem SGood.job {st:ah} (h:SGood st) {x:aB} (hx:x ∈ st.jobs):x.name.size≤16∧x.tag.size≤16∧(-1000≤x.prio∧x.prio≤1000)∧(0≤x.need∧x.need≤1000000)∧(0≤x.tries∧x.tries≤100):=by
 obtain⟨h1,h2,h3⟩:=fQ (cI h.ej hx)
 exact⟨cU h1,iI h2,h3⟩
theorem SGood.node {st:ah} (h:SGood st) {x:av} (hx:x ∈ st.nodes):x.name.size≤16∧x.zone.size≤16∧(0≤x.room∧x.room≤1000000):=by
 obtain⟨h1,h2,h3⟩:=iJ (cI h.en hx)
 exact⟨cU h1,iI h2,h3⟩
theorem SGood.lease {st:ah} (h:SGood st) {l:ak} (hl:l ∈ st.leases):l.job.size≤16∧l.node.size≤16∧(0≤l.till∧l.till≤1099511627776):=by
 have he:=cI h.el hl
 unfold eN at he
 split at he
 · rename_i h1
   split at he
   · rename_i h2
     have hr:=aZ.1 h2
     simp only [Bool.and_eq_true] at h1
     obtain⟨j,hj⟩:=Option.isSome_iff_exists.1 h1.1
     obtain⟨n,hn⟩:=Option.isSome_iff_exists.1 h1.2
     have hjm:=List.mem_of_find?_eq_some hj
     have hnm:=List.mem_of_find?_eq_some hn
     have hje:j.name=l.job:=by simpa using List.find?_some hj
     have hne:n.name=l.node:=by simpa using List.find?_some hn
     have h3:=cU (fQ (cI h.ej hjm)).1
     have h4:=cU (iJ (cI h.en hnm)).1
     rw [hje] at h3
     rw [hne] at h4
     exact⟨h3,h4,hr⟩
   · exact absurd he (by decide)
 · exact absurd he (by decide)
def AP (w:World) (g:Nat) (σ:JS):Prop:=Blk w g 95 #[.string (BA σ.1),.bool σ.2]
def Aw (g:Nat) (σ:JS) (v:Value) (w:World) (e:Ending) (w':World):Prop:=e = .returned v∧AP w' g σ∧w.grownBy w' (some g)
theorem jis (g:Nat) (σ:JS) (p:ByteArray) (w:World) (h:AP w g σ) :
 Calls Tryz.prog 92 #[.pointer (some ⟨g,0,none⟩),.string p] w (Aw g (trimPrefix σ.1 p.data.toList,σ.2) (.bool (hasPrefix σ.1 p.data.toList)) w):=by
 have y0:w.cell? ⟨g,0,none⟩=some (.string (BA σ.1)):=Blk.cell h 0
 have z0:w.frozen? ⟨g,0,none⟩=false:=Blk.thaw h 0
 have hl:=Blk.lt h
 have HC:=hid (Any.strings_CutPrefix Qg (BA σ.1) p w)
 have HE:=hid (show Aw g (trimPrefix σ.1 p.data.toList,σ.2) (.bool (hasPrefix σ.1 p.data.toList)) w (.returned (.bool (hasPrefix σ.1 p.data.toList))) (w.setCell ⟨g,0,none⟩ (.string (BA (trimPrefix σ.1 p.data.toList)))) from ⟨rfl,Blk.eq (Blk.set h 0 _) (by simp),aC _ _ _ _⟩)
 obtain⟨R,hR⟩:∃ R,BA (trimPrefix σ.1 p.data.toList)=R:=⟨_,rfl⟩
 obtain⟨H,hH⟩:∃ H,hasPrefix σ.1 p.data.toList=H:=⟨_,rfl⟩
 rw [show (⟨(trimPrefix (BA σ.1).data.toList p.data.toList).toArray⟩:ByteArray)=R from hR,show hasPrefix (BA σ.1).data.toList p.data.toList=H from hH] at HC
 rw [hR,hH] at HE
 rw [hH]
 clear h hR hH
 go_enter Tryz.func92,Tryz.ntmps92
 go_wp2_with fail
 refine Calls.mono HC.out ?_
 rintro e w1 ⟨rfl,rfl⟩
 go_wp2
 go_ret
 exact HE.out
theorem Re (g:Nat) (σ:JS) (p:ByteArray) (w:World) (h:AP w g σ) :
 Calls Tryz.prog 38 #[.pointer (some ⟨g,0,none⟩),.string p] w (Aw g (aX p.data.toList σ) (.tuple #[]) w):=by
 obtain⟨l,b⟩:=σ
 have y1:w.cell? ⟨g,1,none⟩=some (.bool b):=Blk.cell h 1
 have hl:=Blk.lt h
 cases b with
 | true=>
  have z1:w.frozen? ⟨g,1,none⟩=false:=Blk.thaw h 1
  have HE:=hid (show Aw g (aX p.data.toList (l,true)) (.tuple #[]) w (.returned (.tuple #[])) (w.setCell ⟨g,1,none⟩ (.bool true)) from ⟨rfl,Blk.eq (Blk.set h 1 _) (by simp [aX]),aC _ _ _ _⟩)
  clear h
  go_enter Tryz.func38,Tryz.ntmps38
  go_wp2
  go_end0
  exact HE.out
 | false=>
  have HI:=hid (jis g (l,false) p w h)
  have Hm:=hid (show aX p.data.toList (l,false)=(trimPrefix l p.data.toList,!hasPrefix l p.data.toList) from rfl)
  obtain⟨M,hM⟩:∃ M,aX p.data.toList (l,false)=M:=⟨_,rfl⟩
  rw [hM] at Hm ⊢
  obtain⟨H,hH⟩:∃ H,hasPrefix l p.data.toList=H:=⟨_,rfl⟩
  rw [hH] at Hm
  simp only [hH] at HI
  clear h hM hH
  go_enter Tryz.func38,Tryz.ntmps38
  go_wp2_with fail
  refine Calls.mono HI.out ?_
  rintro e w1 ⟨rfl,hJ,hg⟩
  have x1:w1.cell? ⟨g,1,none⟩=some (.bool false):=Blk.cell hJ 1
  have z1:w1.frozen? ⟨g,1,none⟩=false:=Blk.thaw hJ 1
  have hl1:=Blk.lt hJ
  have HE:=hid (show Aw g M (.tuple #[]) w (.returned (.tuple #[])) (w1.setCell ⟨g,1,none⟩ (.bool (!H))) from ⟨rfl,Blk.eq (Blk.set hJ 1 _) (by rw [Hm.out]; simp),aO hg _ _⟩)
  clear hJ hg
  go_wp2
  go_end0
  exact HE.out
structure lD (w:World) (g:Nat):Prop where
 s:∃ t p,w.cell? ⟨2,0,none⟩=some (.iface t p)
 r:∃ t p,w.cell? ⟨3,0,none⟩=some (.iface t p)
 sne : 2 ≠ g
 rne : 3 ≠ g
theorem uB {w w':World} {g b o:Nat} {v:Value} (hg:w.grownBy w' (some g)) (hne:b≠g) (h:w.cell? ⟨b,o,none⟩=some v):w'.cell? ⟨b,o,none⟩=some v:=
 (World.cell?_of_block (hg.block b (block_lt_of_cell h) (by simp [hne]))).trans h
theorem lD.grow {w w':World} {g:Nat} (h:lD w g) (hg:w.grownBy w' (some g)):lD w' g:=by
 obtain⟨⟨t,p,h1⟩,⟨t',p',h2⟩,h3,h4⟩:=h
 exact⟨⟨t,p,uB hg h3 h1⟩,⟨t',p',uB hg h4 h2⟩,h3,h4⟩
structure fK (w:World) (g:Nat) (σ:JS):Prop where
 at_:AP w g σ
 err:lD w g
 len:σ.1.length≤60000
def qz (g:Nat) (σ:JS) (v:Value) (w:World) (e:Ending) (w':World):Prop:=e = .returned v∧fK w' g σ∧w.grownBy w' (some g)
theorem fK.drew {w:World} {g:Nat} {σ:JS} (h:fK w g σ):fK w.drew g σ:=⟨h.at_,⟨h.err.s,h.err.r,h.err.sne,h.err.rne⟩,h.len⟩
theorem qz.drew {g:Nat} {σ:JS} {v:Value} {w W:World} {e:Ending} (h:qz g σ v w e W):qz g σ v w e W.drew:=⟨h.1,h.2.1.drew,h.2.2.os,h.2.2.tape,h.2.2.output,h.2.2.size,h.2.2.block⟩
theorem rL (g:Nat) (σ:JS) (p:ByteArray) (w:World) (h:fK w g σ) :
 Calls Tryz.prog 92 #[.pointer (some ⟨g,0,none⟩),.string p] w (qz g (trimPrefix σ.1 p.data.toList,σ.2) (.bool (hasPrefix σ.1 p.data.toList)) w):=
 (jis g σ p w h.at_).mono fun e w' ⟨h1,h2,h3⟩=>⟨h1,⟨h2,h.err.grow h3,Nat.le_trans (EG _ _) h.len⟩,h3⟩
theorem dB (g:Nat) (σ:JS) (p:ByteArray) (w:World) (h:fK w g σ) :
 Calls Tryz.prog 38 #[.pointer (some ⟨g,0,none⟩),.string p] w (qz g (aX p.data.toList σ) (.tuple #[]) w):=
 (Re g σ p w h.at_).mono fun e w' ⟨h1,h2,h3⟩=>⟨h1,⟨h2,h.err.grow h3,Nat.le_trans (dA _ _) h.len⟩,h3⟩
theorem KA (l:List UInt8) (hl:l.length≤60000) (w:World) (g:Nat) (h:lD w g) :
 Calls Tryz.prog 93 #[.string (BA l)] w fun e w'=>∃ v E,e = .returned (.tuple #[.int .i64 v,E])∧Below w.heap.size w w'∧((E = .nilIface∧atoiAll l = .ok v)∨(∃ t p,E = .iface t p∧atoiAll l=atoiAll []∧v=0)∨(∃ t p,E = .iface t p∧atoiAll l = .range∧v=atoiSat l)):=by
 have hz:(BA l).size≤60000:=by rw [cT]; exact hl
 rcases ha:atoiAll l with v | _ | _
 · refine (Any.strconv_Atoi_ok CN (BA l) (by omega) v ha w).mono ?_
   rintro e w' ⟨rfl,hw⟩
   refine⟨v,_,rfl,?_,.inl ⟨rfl,rfl⟩⟩
   rcases hw with rfl | ⟨t,rfl⟩
   · exact Below.refl _ _
   · exact Lib.bytesWorld_below _ _ _
 · obtain⟨t,p,hc⟩:=h.s
   refine (Any.strconv_Atoi_syntax CN (BA l) (by omega) ha _ w hc (.inr ⟨t,p,rfl⟩)).mono ?_
   rintro e w' ⟨N,rfl,_,_,hb⟩
   exact⟨0,_,rfl,hb,.inr (.inl ⟨_,_,rfl,rfl,rfl⟩)⟩
 · obtain⟨t,p,hc⟩:=h.r
   refine (Any.strconv_Atoi_range CN (BA l) (by omega) ha _ w hc (.inr ⟨t,p,rfl⟩)).mono ?_
   rintro e w' ⟨N,rfl,_,_,hb⟩
   exact⟨_,_,rfl,hb,.inr (.inr ⟨_,_,rfl,rfl,rfl⟩)⟩
theorem E4 (acc l:List UInt8):(dQ acc l).1.length+(dQ acc l).2.1.length≤acc.length+l.length:=by
 by_cases hl:l=[]
 · subst hl; rw [tu]; exact Nat.le_refl _
 · have h0:0<l.length:=List.length_pos_iff.2 hl
   unfold dQ
   rw [if_neg hl]
   split
   · split
     · simp only [List.length_drop]; omega
     · rename_i h1
       simp only [List.length_drop] at h1
       split <;> (simp only [List.length_drop,List.length_append,List.length_singleton]; omega)
   · split
     · split
       · simp only [List.length_nil]; omega
       · rename_i d r hd
         have:=congrArg List.length hd
         rw [List.length_drop,List.length_cons] at this
         simp only [List.length_append,List.length_singleton]
         omega
     · simp only [List.length_drop,List.length_append,List.length_take]; omega
theorem Ax:∀ (n:Nat) (a:List UInt8 × JS),(ny n a).1.length≤a.1.length+a.2.1.length
 | 0,a=>by simp only [ny]; omega
 | n+1,a=>by
  rw [ny]
  split
  · simp only; omega
  · split
    · simp only; omega
    · exact Nat.le_trans (Ax n _) (E4 _ _)
theorem Kg (σ:JS):(dL σ).1.length≤σ.1.length:=by
 unfold dL
 have h1:=Ax ((aX [34] σ).1.length+1) ([],aX [34] σ)
 have h2:=dA [34] σ
 simp only [List.length_nil,Nat.zero_add] at h1
 omega
def pZ (N:Nat) (v:FV):Prop:=match v with
 | .num _=>True
 | .txt s=>s.size≤N
theorem Mw {v:FV} {σ:JS} {N:Nat} (h:σ.1.length≤N):pZ N (fvJ v σ).1:=by
 cases v with
 | num n=>trivial
 | txt s=>
  show (BA (dL σ).1).size≤N
  rw [cT]
  exact Nat.le_trans (Kg σ) h
theorem Ay {N:Nat}:∀ (fs:bY) (a:bY × JS),a.2.1.length≤N→(∀ f ∈ a.1,pZ N f.2)→∀ f ∈ (fs.foldl jf a).1,pZ N f.2
 | [],a,_,h=>h
 | f :: fs,a,hl,h=>by
  rw [List.foldl_cons]
  refine Ay fs (jf a f) (Nat.le_trans (Iz a f) hl) fun g hg=>?_
  rcases List.mem_append.1 (show g ∈ a.1 ++ [_] from hg) with hg | hg
  · exact h g hg
  · rw [List.mem_singleton] at hg
    subst hg
    refine Mw (Nat.le_trans (dA _ _) ?_)
    split
    · exact hl
    · exact Nat.le_trans (dA _ _) hl
theorem Kh {fs:bY} {σ:JS} {N:Nat} (h:σ.1.length≤N):∀ f ∈ (eG fs σ).1,pZ N f.2:=by
 show ∀ f ∈ (fs.foldl jf ([],aX [123] σ)).1,_
 exact Ay fs _ (Nat.le_trans (dA _ _) h) (fun f hf=>by cases hf)
theorem E5 {fs:bY} {N:Nat}:∀ (n:Nat) (a:List bY × JS),a.2.1.length≤N→(∀ l ∈ a.1,∀ f ∈ l,pZ N f.2)→∀ l ∈ (kC fs n a).1,∀ f ∈ l,pZ N f.2
 | 0,a,_,h=>h
 | n+1,a,hl,h=>by
  have hl2:(if a.1=[] then a.2 else aX [44] a.2).1.length≤N:=by
   split
   · exact hl
   · exact Nat.le_trans (dA _ _) hl
  rw [kC]
  split
  · exact h
  · split
    · exact h
    · refine E5 n _ (Nat.le_trans (Oc _ _) hl2) fun l hm=>?_
      rcases List.mem_append.1 hm with hm | hm
      · exact h l hm
      · rw [List.mem_singleton] at hm
        subst hm
        exact Kh hl2
theorem mM {name:ByteArray} {fs:bY} {σ:JS} (h:σ.1.length≤60000):∀ l ∈ (jh name fs σ).1,∀ f ∈ l,pZ 60000 f.2:=
 E5 _ _ (Nat.le_trans (dA _ _) h) (fun l hl=>by cases hl)
theorem kW {l:bY} (h:∀ f ∈ l,pZ 60000 f.2) (i:Nat):(EB (fAt l i)).size≤9223372036854775807:=by
 have hs:pZ 60000 (fAt l i).2:=by
  unfold fAt
  rw [List.getD_eq_getElem?_getD]
  cases hx:l[i]? with
  | none=>trivial
  | some f=>exact h f (List.mem_of_getElem? hx)
 unfold EB
 split
 · rename_i s hx
   rw [hx] at hs
   have hs:s.size≤60000:=hs
   omega
 · decide
theorem LQ {name:ByteArray} {σ:JS} (h:σ.1.length≤60000):nP ((jh name iy σ).1.map kQ):=fun x hx=>by
 obtain⟨l,hl,rfl⟩:=List.mem_map.1 hx
 exact⟨kW (mM h l hl) 0,kW (mM h l hl) 4⟩
theorem JG {name:ByteArray} {σ:JS} (h:σ.1.length≤60000):kX ((jh name eI σ).1.map iX):=fun x hx=>by
 obtain⟨l,hl,rfl⟩:=List.mem_map.1 hx
 exact⟨kW (mM h l hl) 0,kW (mM h l hl) 2⟩
theorem Gp {name:ByteArray} {σ:JS} (h:σ.1.length≤60000):ji ((jh name cR σ).1.map gH):=fun x hx=>by
 obtain⟨l,hl,rfl⟩:=List.mem_map.1 hx
 exact⟨kW (mM h l hl) 0,kW (mM h l hl) 1⟩
theorem own:ownKnob Tryz.prog.godebug=none:=by kernel_rfl
theorem laidOut:laidOutB Tryz.prog = true:=by kernel_rfl
theorem gq {n:Int} (h:(Lit.int .i64 n).wf=true) : -9223372036854775808≤n∧n≤9223372036854775807:=by
 simp only [Lit.wf,IntKind.min,IntKind.max,IntKind.signed,IntKind.bits,Bool.and_eq_true,decide_eq_true_eq,if_true] at h
 omega
end Go.Proofs.YtcpgnjmaampglaaGreatDoor
