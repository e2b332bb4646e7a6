/- Of the proof of a statement: EqRows. -/
import Derived.BigQuiet
import Derived.Deep.QuietTactic
import Derived.Test.YtoeejfhdjmkpcaaGreatDoorTPlGood
set_option linter.unusedVariables false
set_option linter.unusedSimpArgs false
set_option maxRecDepth 100000
set_option maxHeartbeats 8000000
/- Eq of the reference at rows of records: true just where the lists are the same. -/
namespace Go.Proofs.YtoeejfhdjmkpcaaGreatDoor
open Go.Lib (hid)
open Go.RowKit
theorem oH {α:Type} {xs:List α} {k:Nat} {x:α} (h:xs[k]? = some x):xs.take (k+1)=xs.take k ++ [x]:=by
 rw [List.take_add_one,h]; rfl
theorem fZ {α:Type} {xs ys:List α} {k:Nat} {x:α} (hx:xs[k]? = some x) (hy:ys[k]? = some x) (h:xs.take k=ys.take k):xs.take (k+1)=ys.take (k+1):=by
 rw [oH hx,oH hy,h]
theorem jZ {α:Type} {xs ys:List α} {k:Nat} {x y:α} (hx:xs[k]? = some x) (hy:ys[k]? = some y) (h:x≠y):xs≠ys:=by
 rintro rfl; rw [hx] at hy; injection hy with hy; exact h hy
theorem cK {a b:ByteArray} (h:a.toList=b.toList):a=b:=by rw [ByteArray.toList_eq,ByteArray.toList_eq] at h; exact ByteArray.ext (Array.toList_inj.1 h)
def vQ {α:Type} (xs ys:List α) (n:Nat) (w:World) (i:Value) (wr:World):Prop:=∃ k:Nat,k≤n∧i = .int .i64 k∧xs.take k=ys.take k∧Below w.heap.size w wr
def ni {α:Type} (xs ys:List α) (w:World) (e:Ending) (w':World):Prop:=∃ t:Bool,e = .returned (.bool t)∧(t=true↔xs=ys)∧Below w.heap.size w w'
theorem tV (bR bM hO gO:ByteArray) (eY eI eZ eJ dO dw:Int):∃ t:Bool,(t=true↔(⟨bR,eY,eZ,dO,hO⟩:aD)=⟨bM,eI,eJ,dw,gO⟩)∧(∀ W,(binOp .neq 34 (.agg #[.string bR,.int .i64 eY,.int .i64 eZ,.int .i64 dO,.string hO]) (.agg #[.string bM,.int .i64 eI,.int .i64 eJ,.int .i64 dw,.string gO])).run Tryz.prog W = .ok (.bool (!t)) W)∧(∀ W,(binOp .eql 34 (.agg #[.string bR,.int .i64 eY,.int .i64 eZ,.int .i64 dO,.string hO]) (.agg #[.string bM,.int .i64 eI,.int .i64 eJ,.int .i64 dw,.string gO])).run Tryz.prog W = .ok (.bool t) W):=by
 by_cases h:(⟨bR,eY,eZ,dO,hO⟩:aD)=⟨bM,eI,eJ,dw,gO⟩
 · injection h with h0 h1 h2 h3 h4
   subst h0; subst h1; subst h2; subst h3; subst h4
   exact⟨true,⟨fun _=>rfl,fun _=>rfl⟩,fun W=>by simp [go_sem],fun W=>by simp [go_sem]⟩
 · refine⟨false,⟨fun h'=>(by cases h'),fun h'=>absurd h' h⟩,fun W=>?_,fun W=>?_⟩
   · by_cases e0:bR.toList=bM.toList
     rotate_left
     · simp [go_sem,e0]
     by_cases e1:eY=eI
     rotate_left
     · simp [go_sem,e0,e1]
     by_cases e2:eZ=eJ
     rotate_left
     · simp [go_sem,e0,e1,e2]
     by_cases e3:dO=dw
     rotate_left
     · simp [go_sem,e0,e1,e2,e3]
     by_cases e4:hO.toList=gO.toList
     rotate_left
     · simp [go_sem,e0,e1,e2,e3,e4]
     refine absurd ?_ h
     have e0:=cK e0; subst e0
     subst e1
     subst e2
     subst e3
     have e4:=cK e4; subst e4
     rfl
   · by_cases e0:bR.toList=bM.toList
     rotate_left
     · simp [go_sem,e0]
     by_cases e1:eY=eI
     rotate_left
     · simp [go_sem,e0,e1]
     by_cases e2:eZ=eJ
     rotate_left
     · simp [go_sem,e0,e1,e2]
     by_cases e3:dO=dw
     rotate_left
     · simp [go_sem,e0,e1,e2,e3]
     by_cases e4:hO.toList=gO.toList
     rotate_left
     · simp [go_sem,e0,e1,e2,e3,e4]
     refine absurd ?_ h
     have e0:=cK e0; subst e0
     subst e1
     subst e2
     subst e3
     have e4:=cK e4; subst e4
     rfl
theorem Il (xs ys:List aD) (A A':Option Addr) (n m c c':Nat) (w:World) (hx:aW w w.heap.size 5 A n (au aL xs)) (hy:aW w w.heap.size 5 A' m (au aL ys)) (lx:xs.length=n) (ly:ys.length=m) (hn:n≤9223372036854775807) (hm:m≤9223372036854775807) :
 Calls Tryz.prog 48 #[.slice A n c,.slice A' m c'] w (ni xs ys w):=by
 by_cases h:n=m
 · subst h
   have h0:((n:Int) != n)=false:=by simp
   have Lx:=hid lx
   have Ly:=hid ly
   clear lx ly
   go_enter Tryz.func48,Tryz.ntmps48
   go_wp2
   go_loopw [5,6,14] (fun _ _ i wr=>vQ xs ys n w i wr) (fun _ _ i _=>n - (intOf i).toNat)
   case atStart=>exact⟨0,Nat.zero_le _,rfl,rfl,Below.refl _ _⟩
   case round=>
    obtain⟨k,hk,rfl,he,hb⟩:=hrel
    have He:=hid he
    clear he
    by_cases hlt:k<n
    · obtain⟨x,hxk⟩:∃ x,xs[k]? = some x:=⟨_,List.getElem?_eq_getElem (by rw [Lx.out]; exact hlt)⟩
      obtain⟨y,hyk⟩:∃ y,ys[k]? = some y:=⟨_,List.getElem?_eq_getElem (by rw [Ly.out]; exact hlt)⟩
      obtain⟨b,off,rfl,hbB,hc⟩:=(hx.below hb).cV aT Lx.out hxk
      obtain⟨b',off',rfl,oY,hc'⟩:=(hy.below hb).cV aT Ly.out hyk
      obtain⟨bR,eY,eZ,dO,hO⟩:=x
      obtain⟨bM,eI,eJ,dw,gO⟩:=y
      have c0:wr.cell? ⟨b,off+k*5,none⟩=some (.string bR):=hc 0 _ rfl
      have d0:wr.cell? ⟨b',off'+k*5,none⟩=some (.string bM):=hc' 0 _ rfl
      have c1:wr.cell? ⟨b,off+k*5+1,none⟩=some (.int .i64 eY):=hc 1 _ rfl
      have d1:wr.cell? ⟨b',off'+k*5+1,none⟩=some (.int .i64 eI):=hc' 1 _ rfl
      have c2:wr.cell? ⟨b,off+k*5+2,none⟩=some (.int .i64 eZ):=hc 2 _ rfl
      have d2:wr.cell? ⟨b',off'+k*5+2,none⟩=some (.int .i64 eJ):=hc' 2 _ rfl
      have c3:wr.cell? ⟨b,off+k*5+3,none⟩=some (.int .i64 dO):=hc 3 _ rfl
      have d3:wr.cell? ⟨b',off'+k*5+3,none⟩=some (.int .i64 dw):=hc' 3 _ rfl
      have c4:wr.cell? ⟨b,off+k*5+4,none⟩=some (.string hO):=hc 4 _ rfl
      have d4:wr.cell? ⟨b',off'+k*5+4,none⟩=some (.string gO):=hc' 4 _ rfl
      have hsz:=hb.size
      have hlt1:b<wr.heap.size:=by omega
      have hlt2:b'<wr.heap.size:=by omega
      have Hb:=hid hb
      have Hxk:=hid hxk
      have Hyk:=hid hyk
      have fin:=hid ((Hb.out.alloc Hb.out.size (.cells #[.string bR,.int .i64 eY,.int .i64 eZ,.int .i64 dO,.string hO] 34)).drew)
      have step:=hid (fun (h:(⟨bR,eY,eZ,dO,hO⟩:aD)=⟨bM,eI,eJ,dw,gO⟩)=>fZ (hxk.trans (congrArg some h)) hyk He.out)
      have stop:=hid (fun (h:(⟨bR,eY,eZ,dO,hO⟩:aD)≠⟨bM,eI,eJ,dw,gO⟩)=>jZ hxk hyk h)
      clear hc hc' hx hy hxk hyk hb
      obtain⟨t,ht,hrun,-⟩:=tV bR bM hO gO eY eI eZ eJ dO dw
      have HT:=hid ht
      cases t
      · have nk:=hid (stop.out (fun h=>absurd (HT.out.2 h) (by decide)))
        have hrun':∀ W,(binOp .neq 34 (.agg #[.string bR,.int .i64 eY,.int .i64 eZ,.int .i64 dO,.string hO]) (.agg #[.string bM,.int .i64 eI,.int .i64 eJ,.int .i64 dw,.string gO])).run Tryz.prog W = .ok (.bool true) W:=hrun
        clear ht hrun step
        go_wp2
        go_region
        go_wp2
        go_ret
        exact⟨false,rfl,⟨fun h=>(by cases h),fun h=>absurd h nk.out⟩,fin.out⟩
      · have step2:=hid (step.out (HT.out.1 rfl))
        have hrun':∀ W,(binOp .neq 34 (.agg #[.string bR,.int .i64 eY,.int .i64 eZ,.int .i64 dO,.string hO]) (.agg #[.string bM,.int .i64 eI,.int .i64 eJ,.int .i64 dw,.string gO])).run Tryz.prog W = .ok (.bool false) W:=hrun
        clear ht hrun stop
        go_wp2
        go_region
        go_wp2
        go_roundw
        case rel=>exact⟨k+1,by omega,by go_num,step2.out,fin.out⟩
        case measure=>simp [intOf]; omega
    · have fin:=hid hb
      have same:=hid (show xs=ys by
       have e:=He.out
       rwa [List.take_of_length_le (by rw [Lx.out]; omega),List.take_of_length_le (by rw [Ly.out]; omega)] at e)
      clear hb hx hy
      go_wp2
      go_ret
      exact⟨true,rfl,⟨fun _=>same.out,fun _=>rfl⟩,fin.out⟩
 · have h0:((n:Int) != m)=true:=by simp; omega
   have fin:=hid (show xs≠ys by rintro rfl; omega)
   clear lx ly hx hy
   go_enter Tryz.func48,Tryz.ntmps48
   go_wp2
   go_ret
   exact⟨false,rfl,⟨fun h=>(by cases h),fun h=>absurd h fin.out⟩,Below.refl _ _⟩
theorem qY (bR bM fq eK:ByteArray) (fu eL:Int):∃ t:Bool,(t=true↔(⟨bR,fu,fq⟩:aA)=⟨bM,eL,eK⟩)∧(∀ W,(binOp .neq 36 (.agg #[.string bR,.int .i64 fu,.string fq]) (.agg #[.string bM,.int .i64 eL,.string eK])).run Tryz.prog W = .ok (.bool (!t)) W)∧(∀ W,(binOp .eql 36 (.agg #[.string bR,.int .i64 fu,.string fq]) (.agg #[.string bM,.int .i64 eL,.string eK])).run Tryz.prog W = .ok (.bool t) W):=by
 by_cases h:(⟨bR,fu,fq⟩:aA)=⟨bM,eL,eK⟩
 · injection h with h0 h1 h2
   subst h0; subst h1; subst h2
   exact⟨true,⟨fun _=>rfl,fun _=>rfl⟩,fun W=>by simp [go_sem],fun W=>by simp [go_sem]⟩
 · refine⟨false,⟨fun h'=>(by cases h'),fun h'=>absurd h' h⟩,fun W=>?_,fun W=>?_⟩
   · by_cases e0:bR.toList=bM.toList
     rotate_left
     · simp [go_sem,e0]
     by_cases e1:fu=eL
     rotate_left
     · simp [go_sem,e0,e1]
     by_cases e2:fq.toList=eK.toList
     rotate_left
     · simp [go_sem,e0,e1,e2]
     refine absurd ?_ h
     have e0:=cK e0; subst e0
     subst e1
     have e2:=cK e2; subst e2
     rfl
   · by_cases e0:bR.toList=bM.toList
     rotate_left
     · simp [go_sem,e0]
     by_cases e1:fu=eL
     rotate_left
     · simp [go_sem,e0,e1]
     by_cases e2:fq.toList=eK.toList
     rotate_left
     · simp [go_sem,e0,e1,e2]
     refine absurd ?_ h
     have e0:=cK e0; subst e0
     subst e1
     have e2:=cK e2; subst e2
     rfl
theorem FQ (xs ys:List aA) (A A':Option Addr) (n m c c':Nat) (w:World) (hx:aW w w.heap.size 3 A n (au aC xs)) (hy:aW w w.heap.size 3 A' m (au aC ys)) (lx:xs.length=n) (ly:ys.length=m) (hn:n≤9223372036854775807) (hm:m≤9223372036854775807) :
 Calls Tryz.prog 49 #[.slice A n c,.slice A' m c'] w (ni xs ys w):=by
 by_cases h:n=m
 · subst h
   have h0:((n:Int) != n)=false:=by simp
   have Lx:=hid lx
   have Ly:=hid ly
   clear lx ly
   go_enter Tryz.func49,Tryz.ntmps49
   go_wp2
   go_loopw [5,6,14] (fun _ _ i wr=>vQ xs ys n w i wr) (fun _ _ i _=>n - (intOf i).toNat)
   case atStart=>exact⟨0,Nat.zero_le _,rfl,rfl,Below.refl _ _⟩
   case round=>
    obtain⟨k,hk,rfl,he,hb⟩:=hrel
    have He:=hid he
    clear he
    by_cases hlt:k<n
    · obtain⟨x,hxk⟩:∃ x,xs[k]? = some x:=⟨_,List.getElem?_eq_getElem (by rw [Lx.out]; exact hlt)⟩
      obtain⟨y,hyk⟩:∃ y,ys[k]? = some y:=⟨_,List.getElem?_eq_getElem (by rw [Ly.out]; exact hlt)⟩
      obtain⟨b,off,rfl,hbB,hc⟩:=(hx.below hb).cV aM Lx.out hxk
      obtain⟨b',off',rfl,oY,hc'⟩:=(hy.below hb).cV aM Ly.out hyk
      obtain⟨bR,fu,fq⟩:=x
      obtain⟨bM,eL,eK⟩:=y
      have c0:wr.cell? ⟨b,off+k*3,none⟩=some (.string bR):=hc 0 _ rfl
      have d0:wr.cell? ⟨b',off'+k*3,none⟩=some (.string bM):=hc' 0 _ rfl
      have c1:wr.cell? ⟨b,off+k*3+1,none⟩=some (.int .i64 fu):=hc 1 _ rfl
      have d1:wr.cell? ⟨b',off'+k*3+1,none⟩=some (.int .i64 eL):=hc' 1 _ rfl
      have c2:wr.cell? ⟨b,off+k*3+2,none⟩=some (.string fq):=hc 2 _ rfl
      have d2:wr.cell? ⟨b',off'+k*3+2,none⟩=some (.string eK):=hc' 2 _ rfl
      have hsz:=hb.size
      have hlt1:b<wr.heap.size:=by omega
      have hlt2:b'<wr.heap.size:=by omega
      have Hb:=hid hb
      have Hxk:=hid hxk
      have Hyk:=hid hyk
      have fin:=hid ((Hb.out.alloc Hb.out.size (.cells #[.string bR,.int .i64 fu,.string fq] 36)).drew)
      have step:=hid (fun (h:(⟨bR,fu,fq⟩:aA)=⟨bM,eL,eK⟩)=>fZ (hxk.trans (congrArg some h)) hyk He.out)
      have stop:=hid (fun (h:(⟨bR,fu,fq⟩:aA)≠⟨bM,eL,eK⟩)=>jZ hxk hyk h)
      clear hc hc' hx hy hxk hyk hb
      obtain⟨t,ht,hrun,-⟩:=qY bR bM fq eK fu eL
      have HT:=hid ht
      cases t
      · have nk:=hid (stop.out (fun h=>absurd (HT.out.2 h) (by decide)))
        have hrun':∀ W,(binOp .neq 36 (.agg #[.string bR,.int .i64 fu,.string fq]) (.agg #[.string bM,.int .i64 eL,.string eK])).run Tryz.prog W = .ok (.bool true) W:=hrun
        clear ht hrun step
        go_wp2
        go_region
        go_wp2
        go_ret
        exact⟨false,rfl,⟨fun h=>(by cases h),fun h=>absurd h nk.out⟩,fin.out⟩
      · have step2:=hid (step.out (HT.out.1 rfl))
        have hrun':∀ W,(binOp .neq 36 (.agg #[.string bR,.int .i64 fu,.string fq]) (.agg #[.string bM,.int .i64 eL,.string eK])).run Tryz.prog W = .ok (.bool false) W:=hrun
        clear ht hrun stop
        go_wp2
        go_region
        go_wp2
        go_roundw
        case rel=>exact⟨k+1,by omega,by go_num,step2.out,fin.out⟩
        case measure=>simp [intOf]; omega
    · have fin:=hid hb
      have same:=hid (show xs=ys by
       have e:=He.out
       rwa [List.take_of_length_le (by rw [Lx.out]; omega),List.take_of_length_le (by rw [Ly.out]; omega)] at e)
      clear hb hx hy
      go_wp2
      go_ret
      exact⟨true,rfl,⟨fun _=>same.out,fun _=>rfl⟩,fin.out⟩
 · have h0:((n:Int) != m)=true:=by simp; omega
   have fin:=hid (show xs≠ys by rintro rfl; omega)
   clear lx ly hx hy
   go_enter Tryz.func49,Tryz.ntmps49
   go_wp2
   go_ret
   exact⟨false,rfl,⟨fun h=>(by cases h),fun h=>absurd h fin.out⟩,Below.refl _ _⟩
theorem oZ (ig gP fA eM:ByteArray) (fB eN:Int):∃ t:Bool,(t=true↔(⟨ig,fA,fB⟩:ak)=⟨gP,eM,eN⟩)∧(∀ W,(binOp .neq 38 (.agg #[.string ig,.string fA,.int .i64 fB]) (.agg #[.string gP,.string eM,.int .i64 eN])).run Tryz.prog W = .ok (.bool (!t)) W)∧(∀ W,(binOp .eql 38 (.agg #[.string ig,.string fA,.int .i64 fB]) (.agg #[.string gP,.string eM,.int .i64 eN])).run Tryz.prog W = .ok (.bool t) W):=by
 by_cases h:(⟨ig,fA,fB⟩:ak)=⟨gP,eM,eN⟩
 · injection h with h0 h1 h2
   subst h0; subst h1; subst h2
   exact⟨true,⟨fun _=>rfl,fun _=>rfl⟩,fun W=>by simp [go_sem],fun W=>by simp [go_sem]⟩
 · refine⟨false,⟨fun h'=>(by cases h'),fun h'=>absurd h' h⟩,fun W=>?_,fun W=>?_⟩
   · by_cases e0:ig.toList=gP.toList
     rotate_left
     · simp [go_sem,e0]
     by_cases e1:fA.toList=eM.toList
     rotate_left
     · simp [go_sem,e0,e1]
     by_cases e2:fB=eN
     rotate_left
     · simp [go_sem,e0,e1,e2]
     refine absurd ?_ h
     have e0:=cK e0; subst e0
     have e1:=cK e1; subst e1
     subst e2
     rfl
   · by_cases e0:ig.toList=gP.toList
     rotate_left
     · simp [go_sem,e0]
     by_cases e1:fA.toList=eM.toList
     rotate_left
     · simp [go_sem,e0,e1]
     by_cases e2:fB=eN
     rotate_left
     · simp [go_sem,e0,e1,e2]
     refine absurd ?_ h
     have e0:=cK e0; subst e0
     have e1:=cK e1; subst e1
     subst e2
     rfl
theorem DX (xs ys:List ak) (A A':Option Addr) (n m c c':Nat) (w:World) (hx:aW w w.heap.size 3 A n (au av xs)) (hy:aW w w.heap.size 3 A' m (au av ys)) (lx:xs.length=n) (ly:ys.length=m) (hn:n≤9223372036854775807) (hm:m≤9223372036854775807) :
 Calls Tryz.prog 50 #[.slice A n c,.slice A' m c'] w (ni xs ys w):=by
 by_cases h:n=m
 · subst h
   have h0:((n:Int) != n)=false:=by simp
   have Lx:=hid lx
   have Ly:=hid ly
   clear lx ly
   go_enter Tryz.func50,Tryz.ntmps50
   go_wp2
   go_loopw [5,6,14] (fun _ _ i wr=>vQ xs ys n w i wr) (fun _ _ i _=>n - (intOf i).toNat)
   case atStart=>exact⟨0,Nat.zero_le _,rfl,rfl,Below.refl _ _⟩
   case round=>
    obtain⟨k,hk,rfl,he,hb⟩:=hrel
    have He:=hid he
    clear he
    by_cases hlt:k<n
    · obtain⟨x,hxk⟩:∃ x,xs[k]? = some x:=⟨_,List.getElem?_eq_getElem (by rw [Lx.out]; exact hlt)⟩
      obtain⟨y,hyk⟩:∃ y,ys[k]? = some y:=⟨_,List.getElem?_eq_getElem (by rw [Ly.out]; exact hlt)⟩
      obtain⟨b,off,rfl,hbB,hc⟩:=(hx.below hb).cV aE Lx.out hxk
      obtain⟨b',off',rfl,oY,hc'⟩:=(hy.below hb).cV aE Ly.out hyk
      obtain⟨ig,fA,fB⟩:=x
      obtain⟨gP,eM,eN⟩:=y
      have c0:wr.cell? ⟨b,off+k*3,none⟩=some (.string ig):=hc 0 _ rfl
      have d0:wr.cell? ⟨b',off'+k*3,none⟩=some (.string gP):=hc' 0 _ rfl
      have c1:wr.cell? ⟨b,off+k*3+1,none⟩=some (.string fA):=hc 1 _ rfl
      have d1:wr.cell? ⟨b',off'+k*3+1,none⟩=some (.string eM):=hc' 1 _ rfl
      have c2:wr.cell? ⟨b,off+k*3+2,none⟩=some (.int .i64 fB):=hc 2 _ rfl
      have d2:wr.cell? ⟨b',off'+k*3+2,none⟩=some (.int .i64 eN):=hc' 2 _ rfl
      have hsz:=hb.size
      have hlt1:b<wr.heap.size:=by omega
      have hlt2:b'<wr.heap.size:=by omega
      have Hb:=hid hb
      have Hxk:=hid hxk
      have Hyk:=hid hyk
      have fin:=hid ((Hb.out.alloc Hb.out.size (.cells #[.string ig,.string fA,.int .i64 fB] 38)).drew)
      have step:=hid (fun (h:(⟨ig,fA,fB⟩:ak)=⟨gP,eM,eN⟩)=>fZ (hxk.trans (congrArg some h)) hyk He.out)
      have stop:=hid (fun (h:(⟨ig,fA,fB⟩:ak)≠⟨gP,eM,eN⟩)=>jZ hxk hyk h)
      clear hc hc' hx hy hxk hyk hb
      obtain⟨t,ht,hrun,-⟩:=oZ ig gP fA eM fB eN
      have HT:=hid ht
      cases t
      · have nk:=hid (stop.out (fun h=>absurd (HT.out.2 h) (by decide)))
        have hrun':∀ W,(binOp .neq 38 (.agg #[.string ig,.string fA,.int .i64 fB]) (.agg #[.string gP,.string eM,.int .i64 eN])).run Tryz.prog W = .ok (.bool true) W:=hrun
        clear ht hrun step
        go_wp2
        go_region
        go_wp2
        go_ret
        exact⟨false,rfl,⟨fun h=>(by cases h),fun h=>absurd h nk.out⟩,fin.out⟩
      · have step2:=hid (step.out (HT.out.1 rfl))
        have hrun':∀ W,(binOp .neq 38 (.agg #[.string ig,.string fA,.int .i64 fB]) (.agg #[.string gP,.string eM,.int .i64 eN])).run Tryz.prog W = .ok (.bool false) W:=hrun
        clear ht hrun stop
        go_wp2
        go_region
        go_wp2
        go_roundw
        case rel=>exact⟨k+1,by omega,by go_num,step2.out,fin.out⟩
        case measure=>simp [intOf]; omega
    · have fin:=hid hb
      have same:=hid (show xs=ys by
       have e:=He.out
       rwa [List.take_of_length_le (by rw [Lx.out]; omega),List.take_of_length_le (by rw [Ly.out]; omega)] at e)
      clear hb hx hy
      go_wp2
      go_ret
      exact⟨true,rfl,⟨fun _=>same.out,fun _=>rfl⟩,fin.out⟩
 · have h0:((n:Int) != m)=true:=by simp; omega
   have fin:=hid (show xs≠ys by rintro rfl; omega)
   clear lx ly hx hy
   go_enter Tryz.func50,Tryz.ntmps50
   go_wp2
   go_ret
   exact⟨false,rfl,⟨fun h=>(by cases h),fun h=>absurd h fin.out⟩,Below.refl _ _⟩
end Go.Proofs.YtoeejfhdjmkpcaaGreatDoor
