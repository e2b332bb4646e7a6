/- Of the proof of a statement: EqRows. -/
import Derived.BigQuiet
import Derived.Deep.QuietTactic
import Derived.Test.YtcpgnjmaampglaaGreatDoorWRowsP
set_option linter.unusedVariables false
set_option linter.unusedSimpArgs false
set_option maxRecDepth 100000
set_option maxHeartbeats 8000000
/- Eq of the reference at rows of records: true just where the lists are the same. -/
namespace Go.Proofs.YtcpgnjmaampglaaGreatDoor
open Go.Lib (hid)
open Go.RowKit
theorem su {α:Type} {xs:List α} {k:Nat} {x:α} (h:xs[k]? = some x):xs.take (k+1)=xs.take k ++ [x]:=by
 rw [List.take_add_one,h]; rfl
theorem gV {α:Type} {xs ys:List α} {k:Nat} {x:α} (hx:xs[k]? = some x) (hy:ys[k]? = some x) (h:xs.take k=ys.take k):xs.take (k+1)=ys.take (k+1):=by
 rw [su hx,su hy,h]
theorem mI {α:Type} {xs ys:List α} {k:Nat} {x y:α} (hx:xs[k]? = some x) (hy:ys[k]? = some y) (h:x≠y):xs≠ys:=by
 rintro rfl; rw [hx] at hy; injection hy with hy; exact h hy
theorem cQ {a b:ByteArray} (h:a.toList=b.toList):a=b:=by rw [ByteArray.toList_eq,ByteArray.toList_eq] at h; exact ByteArray.ext (Array.toList_inj.1 h)
def KZ {α:Type} (xs ys:List α) (n:Nat) (w:World) (i:Value) (wr:World):Prop:=∃ k:Nat,k≤n∧i = .int .i64 k∧xs.take k=ys.take k∧Below w.heap.size w wr
def qL {α:Type} (xs ys:List α) (w:World) (e:Ending) (w':World):Prop:=∃ t:Bool,e = .returned (.bool t)∧(t=true↔xs=ys)∧Below w.heap.size w w'
theorem yU (bQ bI jm iL:ByteArray) (fW fC fX fD eE dJ:Int):∃ t:Bool,(t=true↔(⟨bQ,fW,fX,eE,jm⟩:aB)=⟨bI,fC,fD,dJ,iL⟩)∧(∀ W,(binOp .neq 59 (.agg #[.string bQ,.int .i64 fW,.int .i64 fX,.int .i64 eE,.string jm]) (.agg #[.string bI,.int .i64 fC,.int .i64 fD,.int .i64 dJ,.string iL])).run Tryz.prog W = .ok (.bool (!t)) W)∧(∀ W,(binOp .eql 59 (.agg #[.string bQ,.int .i64 fW,.int .i64 fX,.int .i64 eE,.string jm]) (.agg #[.string bI,.int .i64 fC,.int .i64 fD,.int .i64 dJ,.string iL])).run Tryz.prog W = .ok (.bool t) W):=by
 by_cases h:(⟨bQ,fW,fX,eE,jm⟩:aB)=⟨bI,fC,fD,dJ,iL⟩
 · injection h with h0 h1 h2 h3 h4
   subst h0; subst h1; subst h2; subst h3; subst h4
   exact⟨true,⟨fun _=>rfl,fun _=>rfl⟩,fun W=>by simp [go_sem],fun W=>by simp [go_sem]⟩
 · refine⟨false,⟨fun h'=>(by cases h'),fun h'=>absurd h' h⟩,fun W=>?_,fun W=>?_⟩
   · by_cases e0:bQ.toList=bI.toList
     rotate_left
     · simp [go_sem,e0]
     by_cases e1:fW=fC
     rotate_left
     · simp [go_sem,e0,e1]
     by_cases e2:fX=fD
     rotate_left
     · simp [go_sem,e0,e1,e2]
     by_cases e3:eE=dJ
     rotate_left
     · simp [go_sem,e0,e1,e2,e3]
     by_cases e4:jm.toList=iL.toList
     rotate_left
     · simp [go_sem,e0,e1,e2,e3,e4]
     refine absurd ?_ h
     have e0:=cQ e0; subst e0
     subst e1
     subst e2
     subst e3
     have e4:=cQ e4; subst e4
     rfl
   · by_cases e0:bQ.toList=bI.toList
     rotate_left
     · simp [go_sem,e0]
     by_cases e1:fW=fC
     rotate_left
     · simp [go_sem,e0,e1]
     by_cases e2:fX=fD
     rotate_left
     · simp [go_sem,e0,e1,e2]
     by_cases e3:eE=dJ
     rotate_left
     · simp [go_sem,e0,e1,e2,e3]
     by_cases e4:jm.toList=iL.toList
     rotate_left
     · simp [go_sem,e0,e1,e2,e3,e4]
     refine absurd ?_ h
     have e0:=cQ e0; subst e0
     subst e1
     subst e2
     subst e3
     have e4:=cQ e4; subst e4
     rfl
theorem vP (bQ bI fY fE:ByteArray) (fZ fF:Int):∃ t:Bool,(t=true↔(⟨bQ,fZ,fY⟩:av)=⟨bI,fF,fE⟩)∧(∀ W,(binOp .neq 61 (.agg #[.string bQ,.int .i64 fZ,.string fY]) (.agg #[.string bI,.int .i64 fF,.string fE])).run Tryz.prog W = .ok (.bool (!t)) W)∧(∀ W,(binOp .eql 61 (.agg #[.string bQ,.int .i64 fZ,.string fY]) (.agg #[.string bI,.int .i64 fF,.string fE])).run Tryz.prog W = .ok (.bool t) W):=by
 by_cases h:(⟨bQ,fZ,fY⟩:av)=⟨bI,fF,fE⟩
 · injection h with h0 h1 h2
   subst h0; subst h1; subst h2
   exact⟨true,⟨fun _=>rfl,fun _=>rfl⟩,fun W=>by simp [go_sem],fun W=>by simp [go_sem]⟩
 · refine⟨false,⟨fun h'=>(by cases h'),fun h'=>absurd h' h⟩,fun W=>?_,fun W=>?_⟩
   · by_cases e0:bQ.toList=bI.toList
     rotate_left
     · simp [go_sem,e0]
     by_cases e1:fZ=fF
     rotate_left
     · simp [go_sem,e0,e1]
     by_cases e2:fY.toList=fE.toList
     rotate_left
     · simp [go_sem,e0,e1,e2]
     refine absurd ?_ h
     have e0:=cQ e0; subst e0
     subst e1
     have e2:=cQ e2; subst e2
     rfl
   · by_cases e0:bQ.toList=bI.toList
     rotate_left
     · simp [go_sem,e0]
     by_cases e1:fZ=fF
     rotate_left
     · simp [go_sem,e0,e1]
     by_cases e2:fY.toList=fE.toList
     rotate_left
     · simp [go_sem,e0,e1,e2]
     refine absurd ?_ h
     have e0:=cQ e0; subst e0
     subst e1
     have e2:=cQ e2; subst e2
     rfl
theorem sQ (jl iK fU fA:ByteArray) (fV fB:Int):∃ t:Bool,(t=true↔(⟨jl,fU,fV⟩:ak)=⟨iK,fA,fB⟩)∧(∀ W,(binOp .neq 63 (.agg #[.string jl,.string fU,.int .i64 fV]) (.agg #[.string iK,.string fA,.int .i64 fB])).run Tryz.prog W = .ok (.bool (!t)) W)∧(∀ W,(binOp .eql 63 (.agg #[.string jl,.string fU,.int .i64 fV]) (.agg #[.string iK,.string fA,.int .i64 fB])).run Tryz.prog W = .ok (.bool t) W):=by
 by_cases h:(⟨jl,fU,fV⟩:ak)=⟨iK,fA,fB⟩
 · injection h with h0 h1 h2
   subst h0; subst h1; subst h2
   exact⟨true,⟨fun _=>rfl,fun _=>rfl⟩,fun W=>by simp [go_sem],fun W=>by simp [go_sem]⟩
 · refine⟨false,⟨fun h'=>(by cases h'),fun h'=>absurd h' h⟩,fun W=>?_,fun W=>?_⟩
   · by_cases e0:jl.toList=iK.toList
     rotate_left
     · simp [go_sem,e0]
     by_cases e1:fU.toList=fA.toList
     rotate_left
     · simp [go_sem,e0,e1]
     by_cases e2:fV=fB
     rotate_left
     · simp [go_sem,e0,e1,e2]
     refine absurd ?_ h
     have e0:=cQ e0; subst e0
     have e1:=cQ e1; subst e1
     subst e2
     rfl
   · by_cases e0:jl.toList=iK.toList
     rotate_left
     · simp [go_sem,e0]
     by_cases e1:fU.toList=fA.toList
     rotate_left
     · simp [go_sem,e0,e1]
     by_cases e2:fV=fB
     rotate_left
     · simp [go_sem,e0,e1,e2]
     refine absurd ?_ h
     have e0:=cQ e0; subst e0
     have e1:=cQ e1; subst e1
     subst e2
     rfl
theorem yV :
 (∀ (xs ys:List aB) (A A':Option Addr) (n m c c':Nat) (w:World) (hx:aQ w w.heap.size 5 A n (au aH xs)) (hy:aQ w w.heap.size 5 A' m (au aH ys)) (lx:xs.length=n) (ly:ys.length=m) (hn:n≤9223372036854775807) (hm:m≤9223372036854775807),Calls Tryz.prog 35 #[.slice A n c,.slice A' m c'] w (qL xs ys w)) ∧
 (∀ (xs ys:List av) (A A':Option Addr) (n m c c':Nat) (w:World) (hx:aQ w w.heap.size 3 A n (au aI xs)) (hy:aQ w w.heap.size 3 A' m (au aI ys)) (lx:xs.length=n) (ly:ys.length=m) (hn:n≤9223372036854775807) (hm:m≤9223372036854775807),Calls Tryz.prog 36 #[.slice A n c,.slice A' m c'] w (qL xs ys w)) ∧
 (∀ (xs ys:List ak) (A A':Option Addr) (n m c c':Nat) (w:World) (hx:aQ w w.heap.size 3 A n (au aE xs)) (hy:aQ w w.heap.size 3 A' m (au aE ys)) (lx:xs.length=n) (ly:ys.length=m) (hn:n≤9223372036854775807) (hm:m≤9223372036854775807),Calls Tryz.prog 37 #[.slice A n c,.slice A' m c'] w (qL xs ys w)):=by
 refine⟨@fun xs ys A A' n m c c' w hx hy lx ly hn hm=>(fun(jM0:Unit)=>?_) (),@fun xs ys A A' n m c c' w hx hy lx ly hn hm=>(fun(jM1:Unit)=>?_) (),@fun xs ys A A' n m c c' w hx hy lx ly hn hm=>(fun(jM2:Unit)=>?_) ()⟩<;>(
 by_cases h:n=m
 · subst h
   have h0:((n:Int) != n)=false:=by simp
   have Lx:=hid lx
   have Ly:=hid ly
   clear lx ly
   first|(guard_hyp jM0;go_enter Tryz.func35,Tryz.ntmps35)|(guard_hyp jM1;go_enter Tryz.func36,Tryz.ntmps36)|go_enter Tryz.func37,Tryz.ntmps37
   go_wp2
   go_loopw [5,6,14] (fun _ _ i wr=>KZ xs ys n w i wr) (fun _ _ i _=>n - (intOf i).toNat)
   case atStart=>exact⟨0,Nat.zero_le _,rfl,rfl,Below.refl _ _⟩
   case round=>
    obtain⟨k,hk,rfl,he,hb⟩:=hrel
    have He:=hid he
    clear he
    by_cases hlt:k<n
    · obtain⟨x,hxk⟩:∃ x,xs[k]? = some x:=⟨_,List.getElem?_eq_getElem (by rw [Lx.out]; exact hlt)⟩
      obtain⟨y,hyk⟩:∃ y,ys[k]? = some y:=⟨_,List.getElem?_eq_getElem (by rw [Ly.out]; exact hlt)⟩
      first|(guard_hyp jM0;obtain⟨b,off,rfl,hbB,hc⟩:=(hx.below hb).dF aN Lx.out hxk)|(guard_hyp jM1;obtain⟨b,off,rfl,hbB,hc⟩:=(hx.below hb).dF bF Lx.out hxk)|obtain⟨b,off,rfl,hbB,hc⟩:=(hx.below hb).dF bB Lx.out hxk
      first|(guard_hyp jM0;obtain⟨b',off',rfl,yT,hc'⟩:=(hy.below hb).dF aN Ly.out hyk)|(guard_hyp jM1;obtain⟨b',off',rfl,yT,hc'⟩:=(hy.below hb).dF bF Ly.out hyk)|obtain⟨b',off',rfl,yT,hc'⟩:=(hy.below hb).dF bB Ly.out hyk
      first
       |(
        guard_hyp jM0
        obtain⟨bQ,fW,fX,eE,jm⟩:=x
        obtain⟨bI,fC,fD,dJ,iL⟩:=y)
       |(
        guard_hyp jM1
        obtain⟨bQ,fZ,fY⟩:=x
        obtain⟨bI,fF,fE⟩:=y)
       |(
        guard_hyp jM2
        obtain⟨jl,fU,fV⟩:=x
        obtain⟨iK,fA,fB⟩:=y)
      first|(guard_hyp jM0;have c0:wr.cell? ⟨b,off+k*5,none⟩=some (.string bQ):=hc 0 _ rfl)|(guard_hyp jM1;have c0:wr.cell? ⟨b,off+k*3,none⟩=some (.string bQ):=hc 0 _ rfl)|have c0:wr.cell? ⟨b,off+k*3,none⟩=some (.string jl):=hc 0 _ rfl
      first|(guard_hyp jM0;have d0:wr.cell? ⟨b',off'+k*5,none⟩=some (.string bI):=hc' 0 _ rfl)|(guard_hyp jM1;have d0:wr.cell? ⟨b',off'+k*3,none⟩=some (.string bI):=hc' 0 _ rfl)|have d0:wr.cell? ⟨b',off'+k*3,none⟩=some (.string iK):=hc' 0 _ rfl
      first
       |(
        guard_hyp jM0
        have c1:wr.cell? ⟨b,off+k*5+1,none⟩=some (.int .i64 fW):=hc 1 _ rfl
        have d1:wr.cell? ⟨b',off'+k*5+1,none⟩=some (.int .i64 fC):=hc' 1 _ rfl
        have c2:wr.cell? ⟨b,off+k*5+2,none⟩=some (.int .i64 fX):=hc 2 _ rfl
        have d2:wr.cell? ⟨b',off'+k*5+2,none⟩=some (.int .i64 fD):=hc' 2 _ rfl)
       |(
        guard_hyp jM2
        have c1:wr.cell? ⟨b,off+k*3+1,none⟩=some (.string fU):=hc 1 _ rfl
        have d1:wr.cell? ⟨b',off'+k*3+1,none⟩=some (.string fA):=hc' 1 _ rfl)
       |skip
      first|(guard_hyp jM0;have c3:wr.cell? ⟨b,off+k*5+3,none⟩=some (.int .i64 eE):=hc 3 _ rfl)|(guard_hyp jM1;have c1:wr.cell? ⟨b,off+k*3+1,none⟩=some (.int .i64 fZ):=hc 1 _ rfl)|have c2:wr.cell? ⟨b,off+k*3+2,none⟩=some (.int .i64 fV):=hc 2 _ rfl
      first|(guard_hyp jM0;have d3:wr.cell? ⟨b',off'+k*5+3,none⟩=some (.int .i64 dJ):=hc' 3 _ rfl)|(guard_hyp jM1;have d1:wr.cell? ⟨b',off'+k*3+1,none⟩=some (.int .i64 fF):=hc' 1 _ rfl)|have d2:wr.cell? ⟨b',off'+k*3+2,none⟩=some (.int .i64 fB):=hc' 2 _ rfl
      first
       |(
        guard_hyp jM0
        have c4:wr.cell? ⟨b,off+k*5+4,none⟩=some (.string jm):=hc 4 _ rfl
        have d4:wr.cell? ⟨b',off'+k*5+4,none⟩=some (.string iL):=hc' 4 _ rfl)
       |(
        guard_hyp jM1
        have c2:wr.cell? ⟨b,off+k*3+2,none⟩=some (.string fY):=hc 2 _ rfl
        have d2:wr.cell? ⟨b',off'+k*3+2,none⟩=some (.string fE):=hc' 2 _ rfl)
       |skip
      have hsz:=hb.size
      have hlt1:b<wr.heap.size:=by omega
      have hlt2:b'<wr.heap.size:=by omega
      have Hb:=hid hb
      have Hxk:=hid hxk
      have Hyk:=hid hyk
      first
       |(
        guard_hyp jM0
        have fin:=hid ((Hb.out.alloc Hb.out.size (.cells #[.string bQ,.int .i64 fW,.int .i64 fX,.int .i64 eE,.string jm] 59)).drew)
        have step:=hid (fun (h:(⟨bQ,fW,fX,eE,jm⟩:aB)=⟨bI,fC,fD,dJ,iL⟩)=>gV (hxk.trans (congrArg some h)) hyk He.out)
        have stop:=hid (fun (h:(⟨bQ,fW,fX,eE,jm⟩:aB)≠⟨bI,fC,fD,dJ,iL⟩)=>mI hxk hyk h))
       |(
        guard_hyp jM1
        have fin:=hid ((Hb.out.alloc Hb.out.size (.cells #[.string bQ,.int .i64 fZ,.string fY] 61)).drew)
        have step:=hid (fun (h:(⟨bQ,fZ,fY⟩:av)=⟨bI,fF,fE⟩)=>gV (hxk.trans (congrArg some h)) hyk He.out)
        have stop:=hid (fun (h:(⟨bQ,fZ,fY⟩:av)≠⟨bI,fF,fE⟩)=>mI hxk hyk h))
       |(
        guard_hyp jM2
        have fin:=hid ((Hb.out.alloc Hb.out.size (.cells #[.string jl,.string fU,.int .i64 fV] 63)).drew)
        have step:=hid (fun (h:(⟨jl,fU,fV⟩:ak)=⟨iK,fA,fB⟩)=>gV (hxk.trans (congrArg some h)) hyk He.out)
        have stop:=hid (fun (h:(⟨jl,fU,fV⟩:ak)≠⟨iK,fA,fB⟩)=>mI hxk hyk h))
      clear hc hc' hx hy hxk hyk hb
      first
       |(
        guard_hyp jM0
        obtain⟨t,ht,hrun,-⟩:=yU bQ bI jm iL fW fC fX fD eE dJ)
       |(
        guard_hyp jM1
        obtain⟨t,ht,hrun,-⟩:=vP bQ bI fY fE fZ fF)
       |(
        guard_hyp jM2
        obtain⟨t,ht,hrun,-⟩:=sQ jl iK fU fA fV fB)
      have HT:=hid ht
      cases t
      · have DL:=hid (stop.out (fun h=>absurd (HT.out.2 h) (by decide)))
        first
         |(
          guard_hyp jM0
          have hrun':∀ W,(binOp .neq 59 (.agg #[.string bQ,.int .i64 fW,.int .i64 fX,.int .i64 eE,.string jm]) (.agg #[.string bI,.int .i64 fC,.int .i64 fD,.int .i64 dJ,.string iL])).run Tryz.prog W = .ok (.bool true) W:=hrun)
         |(
          guard_hyp jM1
          have hrun':∀ W,(binOp .neq 61 (.agg #[.string bQ,.int .i64 fZ,.string fY]) (.agg #[.string bI,.int .i64 fF,.string fE])).run Tryz.prog W = .ok (.bool true) W:=hrun)
         |(
          guard_hyp jM2
          have hrun':∀ W,(binOp .neq 63 (.agg #[.string jl,.string fU,.int .i64 fV]) (.agg #[.string iK,.string fA,.int .i64 fB])).run Tryz.prog W = .ok (.bool true) W:=hrun)
        clear ht hrun step
        go_wp2
        go_region
        go_wp2
        go_ret
        exact⟨false,rfl,⟨fun h=>(by cases h),fun h=>absurd h DL.out⟩,fin.out⟩
      · have step2:=hid (step.out (HT.out.1 rfl))
        first
         |(
          guard_hyp jM0
          have hrun':∀ W,(binOp .neq 59 (.agg #[.string bQ,.int .i64 fW,.int .i64 fX,.int .i64 eE,.string jm]) (.agg #[.string bI,.int .i64 fC,.int .i64 fD,.int .i64 dJ,.string iL])).run Tryz.prog W = .ok (.bool false) W:=hrun)
         |(
          guard_hyp jM1
          have hrun':∀ W,(binOp .neq 61 (.agg #[.string bQ,.int .i64 fZ,.string fY]) (.agg #[.string bI,.int .i64 fF,.string fE])).run Tryz.prog W = .ok (.bool false) W:=hrun)
         |(
          guard_hyp jM2
          have hrun':∀ W,(binOp .neq 63 (.agg #[.string jl,.string fU,.int .i64 fV]) (.agg #[.string iK,.string fA,.int .i64 fB])).run Tryz.prog W = .ok (.bool false) W:=hrun)
        clear ht hrun stop
        go_wp2
        go_region
        go_wp2
        go_roundw
        case rel=>exact⟨k+1,by omega,by go_num,step2.out,fin.out⟩
        case measure=>simp [intOf]; omega
    · have fin:=hid hb
      have same:=hid (show xs=ys by
       have e:=He.out
       rwa [List.take_of_length_le (by rw [Lx.out]; omega),List.take_of_length_le (by rw [Ly.out]; omega)] at e)
      clear hb hx hy
      go_wp2
      go_ret
      exact⟨true,rfl,⟨fun _=>same.out,fun _=>rfl⟩,fin.out⟩
 · have h0:((n:Int) != m)=true:=by simp; omega
   have fin:=hid (show xs≠ys by rintro rfl; omega)
   clear lx ly hx hy
   first|(guard_hyp jM0;go_enter Tryz.func35,Tryz.ntmps35)|(guard_hyp jM1;go_enter Tryz.func36,Tryz.ntmps36)|go_enter Tryz.func37,Tryz.ntmps37
   go_wp2
   go_ret
   exact⟨false,rfl,⟨fun h=>(by cases h),fun h=>absurd h fin.out⟩,Below.refl _ _⟩)
end Go.Proofs.YtcpgnjmaampglaaGreatDoor
