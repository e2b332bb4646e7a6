/- Of the proof of a statement: EqRows. -/
import Derived.BigQuiet
import Derived.Deep.QuietTactic
import Derived.Test.YtoeejfhdjmkpcaaGreatDoorURowsL
set_option linter.unusedVariables false
set_option linter.unusedSimpArgs false
set_option maxRecDepth 100000
set_option maxHeartbeats 8000000
/- Eq of the reference at rows of records: true just where the lists are the same. -/
namespace Go.Proofs.YtoeejfhdjmkpcaaGreatDoor
open Go.Lib (hid)
open Go.RowKit
theorem qP {α:Type} {xs:List α} {k:Nat} {x:α} (h:xs[k]? = some x):xs.take (k+1)=xs.take k ++ [x]:=by
 rw [List.take_add_one,h]; rfl
theorem gO {α:Type} {xs ys:List α} {k:Nat} {x:α} (hx:xs[k]? = some x) (hy:ys[k]? = some x) (h:xs.take k=ys.take k):xs.take (k+1)=ys.take (k+1):=by
 rw [qP hx,qP hy,h]
theorem lK {α:Type} {xs ys:List α} {k:Nat} {x y:α} (hx:xs[k]? = some x) (hy:ys[k]? = some y) (h:x≠y):xs≠ys:=by
 rintro rfl; rw [hx] at hy; injection hy with hy; exact h hy
theorem cU {a b:ByteArray} (h:a.toList=b.toList):a=b:=by rw [ByteArray.toList_eq,ByteArray.toList_eq] at h; exact ByteArray.ext (Array.toList_inj.1 h)
def zi {α:Type} (xs ys:List α) (n:Nat) (w:World) (i:Value) (wr:World):Prop:=∃ k:Nat,k≤n∧i = .int .i64 k∧xs.take k=ys.take k∧Below w.heap.size w wr
def oO {α:Type} (xs ys:List α) (w:World) (e:Ending) (w':World):Prop:=∃ t:Bool,e = .returned (.bool t)∧(t=true↔xs=ys)∧Below w.heap.size w w'
theorem xI (bU bQ jf iF:ByteArray) (fQ eZ fR fq eB dL:Int):∃ t:Bool,(t=true↔(⟨bU,fQ,fR,eB,jf⟩:aA)=⟨bQ,eZ,fq,dL,iF⟩)∧(∀ W,(binOp .neq 34 (.agg #[.string bU,.int .i64 fQ,.int .i64 fR,.int .i64 eB,.string jf]) (.agg #[.string bQ,.int .i64 eZ,.int .i64 fq,.int .i64 dL,.string iF])).run Tryz.prog W = .ok (.bool (!t)) W)∧(∀ W,(binOp .eql 34 (.agg #[.string bU,.int .i64 fQ,.int .i64 fR,.int .i64 eB,.string jf]) (.agg #[.string bQ,.int .i64 eZ,.int .i64 fq,.int .i64 dL,.string iF])).run Tryz.prog W = .ok (.bool t) W):=by
 by_cases h:(⟨bU,fQ,fR,eB,jf⟩:aA)=⟨bQ,eZ,fq,dL,iF⟩
 · injection h with h0 h1 h2 h3 h4
   subst h0; subst h1; subst h2; subst h3; subst h4
   exact⟨true,⟨fun _=>rfl,fun _=>rfl⟩,fun W=>by simp [go_sem],fun W=>by simp [go_sem]⟩
 · refine⟨false,⟨fun h'=>(by cases h'),fun h'=>absurd h' h⟩,fun W=>?_,fun W=>?_⟩
   · by_cases e0:bU.toList=bQ.toList
     rotate_left
     · simp [go_sem,e0]
     by_cases e1:fQ=eZ
     rotate_left
     · simp [go_sem,e0,e1]
     by_cases e2:fR=fq
     rotate_left
     · simp [go_sem,e0,e1,e2]
     by_cases e3:eB=dL
     rotate_left
     · simp [go_sem,e0,e1,e2,e3]
     by_cases e4:jf.toList=iF.toList
     rotate_left
     · simp [go_sem,e0,e1,e2,e3,e4]
     refine absurd ?_ h
     have e0:=cU e0; subst e0
     subst e1
     subst e2
     subst e3
     have e4:=cU e4; subst e4
     rfl
   · by_cases e0:bU.toList=bQ.toList
     rotate_left
     · simp [go_sem,e0]
     by_cases e1:fQ=eZ
     rotate_left
     · simp [go_sem,e0,e1]
     by_cases e2:fR=fq
     rotate_left
     · simp [go_sem,e0,e1,e2]
     by_cases e3:eB=dL
     rotate_left
     · simp [go_sem,e0,e1,e2,e3]
     by_cases e4:jf.toList=iF.toList
     rotate_left
     · simp [go_sem,e0,e1,e2,e3,e4]
     refine absurd ?_ h
     have e0:=cU e0; subst e0
     subst e1
     subst e2
     subst e3
     have e4:=cU e4; subst e4
     rfl
theorem LO (xs ys:List aA) (A A':Option Addr) (n m c c':Nat) (w:World) (hx:aQ w w.heap.size 5 A n (au aJ xs)) (hy:aQ w w.heap.size 5 A' m (au aJ ys)) (lx:xs.length=n) (ly:ys.length=m) (hn:n≤9223372036854775807) (hm:m≤9223372036854775807) :
 Calls Tryz.prog 48 #[.slice A n c,.slice A' m c'] w (oO xs ys w):=by
 by_cases h:n=m
 · subst h
   have h0:((n:Int) != n)=false:=by simp
   have Lx:=hid lx
   have Ly:=hid ly
   clear lx ly
   go_enter Tryz.func48,Tryz.ntmps48
   go_wp2
   go_loopw [5,6,14] (fun _ _ i wr=>zi xs ys n w i wr) (fun _ _ i _=>n - (intOf i).toNat)
   case atStart=>exact⟨0,Nat.zero_le _,rfl,rfl,Below.refl _ _⟩
   case round=>
    obtain⟨k,hk,rfl,he,hb⟩:=hrel
    have He:=hid he
    clear he
    by_cases hlt:k<n
    · obtain⟨x,hxk⟩:∃ x,xs[k]? = some x:=⟨_,List.getElem?_eq_getElem (by rw [Lx.out]; exact hlt)⟩
      obtain⟨y,hyk⟩:∃ y,ys[k]? = some y:=⟨_,List.getElem?_eq_getElem (by rw [Ly.out]; exact hlt)⟩
      obtain⟨b,off,rfl,hbB,hc⟩:=(hx.below hb).cR aP Lx.out hxk
      obtain⟨b',off',rfl,qU,hc'⟩:=(hy.below hb).cR aP Ly.out hyk
      obtain⟨bU,fQ,fR,eB,jf⟩:=x
      obtain⟨bQ,eZ,fq,dL,iF⟩:=y
      have c0:wr.cell? ⟨b,off+k*5,none⟩=some (.string bU):=hc 0 _ rfl
      have d0:wr.cell? ⟨b',off'+k*5,none⟩=some (.string bQ):=hc' 0 _ rfl
      have c1:wr.cell? ⟨b,off+k*5+1,none⟩=some (.int .i64 fQ):=hc 1 _ rfl
      have d1:wr.cell? ⟨b',off'+k*5+1,none⟩=some (.int .i64 eZ):=hc' 1 _ rfl
      have c2:wr.cell? ⟨b,off+k*5+2,none⟩=some (.int .i64 fR):=hc 2 _ rfl
      have d2:wr.cell? ⟨b',off'+k*5+2,none⟩=some (.int .i64 fq):=hc' 2 _ rfl
      have c3:wr.cell? ⟨b,off+k*5+3,none⟩=some (.int .i64 eB):=hc 3 _ rfl
      have d3:wr.cell? ⟨b',off'+k*5+3,none⟩=some (.int .i64 dL):=hc' 3 _ rfl
      have c4:wr.cell? ⟨b,off+k*5+4,none⟩=some (.string jf):=hc 4 _ rfl
      have d4:wr.cell? ⟨b',off'+k*5+4,none⟩=some (.string iF):=hc' 4 _ rfl
      have hsz:=hb.size
      have hlt1:b<wr.heap.size:=by omega
      have hlt2:b'<wr.heap.size:=by omega
      have Hb:=hid hb
      have Hxk:=hid hxk
      have Hyk:=hid hyk
      have fin:=hid ((Hb.out.alloc Hb.out.size (.cells #[.string bU,.int .i64 fQ,.int .i64 fR,.int .i64 eB,.string jf] 34)).drew)
      have step:=hid (fun (h:(⟨bU,fQ,fR,eB,jf⟩:aA)=⟨bQ,eZ,fq,dL,iF⟩)=>gO (hxk.trans (congrArg some h)) hyk He.out)
      have stop:=hid (fun (h:(⟨bU,fQ,fR,eB,jf⟩:aA)≠⟨bQ,eZ,fq,dL,iF⟩)=>lK hxk hyk h)
      clear hc hc' hx hy hxk hyk hb
      obtain⟨t,ht,hrun,-⟩:=xI bU bQ jf iF fQ eZ fR fq eB dL
      have HT:=hid ht
      cases t
      · have oP:=hid (stop.out (fun h=>absurd (HT.out.2 h) (by decide)))
        have hrun':∀ W,(binOp .neq 34 (.agg #[.string bU,.int .i64 fQ,.int .i64 fR,.int .i64 eB,.string jf]) (.agg #[.string bQ,.int .i64 eZ,.int .i64 fq,.int .i64 dL,.string iF])).run Tryz.prog W = .ok (.bool true) W:=hrun
        clear ht hrun step
        go_wp2
        go_region
        go_wp2
        go_ret
        exact⟨false,rfl,⟨fun h=>(by cases h),fun h=>absurd h oP.out⟩,fin.out⟩
      · have step2:=hid (step.out (HT.out.1 rfl))
        have hrun':∀ W,(binOp .neq 34 (.agg #[.string bU,.int .i64 fQ,.int .i64 fR,.int .i64 eB,.string jf]) (.agg #[.string bQ,.int .i64 eZ,.int .i64 fq,.int .i64 dL,.string iF])).run Tryz.prog W = .ok (.bool false) W:=hrun
        clear ht hrun stop
        go_wp2
        go_region
        go_wp2
        go_roundw
        case rel=>exact⟨k+1,by omega,by go_num,step2.out,fin.out⟩
        case measure=>simp [intOf]; omega
    · have fin:=hid hb
      have same:=hid (show xs=ys by
       have e:=He.out
       rwa [List.take_of_length_le (by rw [Lx.out]; omega),List.take_of_length_le (by rw [Ly.out]; omega)] at e)
      clear hb hx hy
      go_wp2
      go_ret
      exact⟨true,rfl,⟨fun _=>same.out,fun _=>rfl⟩,fin.out⟩
 · have h0:((n:Int) != m)=true:=by simp; omega
   have fin:=hid (show xs≠ys by rintro rfl; omega)
   clear lx ly hx hy
   go_enter Tryz.func48,Tryz.ntmps48
   go_wp2
   go_ret
   exact⟨false,rfl,⟨fun h=>(by cases h),fun h=>absurd h fin.out⟩,Below.refl _ _⟩
theorem uN (bU bQ fS fu:ByteArray) (fT fA:Int):∃ t:Bool,(t=true↔(⟨bU,fT,fS⟩:av)=⟨bQ,fA,fu⟩)∧(∀ W,(binOp .neq 36 (.agg #[.string bU,.int .i64 fT,.string fS]) (.agg #[.string bQ,.int .i64 fA,.string fu])).run Tryz.prog W = .ok (.bool (!t)) W)∧(∀ W,(binOp .eql 36 (.agg #[.string bU,.int .i64 fT,.string fS]) (.agg #[.string bQ,.int .i64 fA,.string fu])).run Tryz.prog W = .ok (.bool t) W):=by
 by_cases h:(⟨bU,fT,fS⟩:av)=⟨bQ,fA,fu⟩
 · injection h with h0 h1 h2
   subst h0; subst h1; subst h2
   exact⟨true,⟨fun _=>rfl,fun _=>rfl⟩,fun W=>by simp [go_sem],fun W=>by simp [go_sem]⟩
 · refine⟨false,⟨fun h'=>(by cases h'),fun h'=>absurd h' h⟩,fun W=>?_,fun W=>?_⟩
   · by_cases e0:bU.toList=bQ.toList
     rotate_left
     · simp [go_sem,e0]
     by_cases e1:fT=fA
     rotate_left
     · simp [go_sem,e0,e1]
     by_cases e2:fS.toList=fu.toList
     rotate_left
     · simp [go_sem,e0,e1,e2]
     refine absurd ?_ h
     have e0:=cU e0; subst e0
     subst e1
     have e2:=cU e2; subst e2
     rfl
   · by_cases e0:bU.toList=bQ.toList
     rotate_left
     · simp [go_sem,e0]
     by_cases e1:fT=fA
     rotate_left
     · simp [go_sem,e0,e1]
     by_cases e2:fS.toList=fu.toList
     rotate_left
     · simp [go_sem,e0,e1,e2]
     refine absurd ?_ h
     have e0:=cU e0; subst e0
     subst e1
     have e2:=cU e2; subst e2
     rfl
theorem JY (xs ys:List av) (A A':Option Addr) (n m c c':Nat) (w:World) (hx:aQ w w.heap.size 3 A n (au aB xs)) (hy:aQ w w.heap.size 3 A' m (au aB ys)) (lx:xs.length=n) (ly:ys.length=m) (hn:n≤9223372036854775807) (hm:m≤9223372036854775807) :
 Calls Tryz.prog 49 #[.slice A n c,.slice A' m c'] w (oO xs ys w):=by
 by_cases h:n=m
 · subst h
   have h0:((n:Int) != n)=false:=by simp
   have Lx:=hid lx
   have Ly:=hid ly
   clear lx ly
   go_enter Tryz.func49,Tryz.ntmps49
   go_wp2
   go_loopw [5,6,14] (fun _ _ i wr=>zi xs ys n w i wr) (fun _ _ i _=>n - (intOf i).toNat)
   case atStart=>exact⟨0,Nat.zero_le _,rfl,rfl,Below.refl _ _⟩
   case round=>
    obtain⟨k,hk,rfl,he,hb⟩:=hrel
    have He:=hid he
    clear he
    by_cases hlt:k<n
    · obtain⟨x,hxk⟩:∃ x,xs[k]? = some x:=⟨_,List.getElem?_eq_getElem (by rw [Lx.out]; exact hlt)⟩
      obtain⟨y,hyk⟩:∃ y,ys[k]? = some y:=⟨_,List.getElem?_eq_getElem (by rw [Ly.out]; exact hlt)⟩
      obtain⟨b,off,rfl,hbB,hc⟩:=(hx.below hb).cR aL Lx.out hxk
      obtain⟨b',off',rfl,qU,hc'⟩:=(hy.below hb).cR aL Ly.out hyk
      obtain⟨bU,fT,fS⟩:=x
      obtain⟨bQ,fA,fu⟩:=y
      have c0:wr.cell? ⟨b,off+k*3,none⟩=some (.string bU):=hc 0 _ rfl
      have d0:wr.cell? ⟨b',off'+k*3,none⟩=some (.string bQ):=hc' 0 _ rfl
      have c1:wr.cell? ⟨b,off+k*3+1,none⟩=some (.int .i64 fT):=hc 1 _ rfl
      have d1:wr.cell? ⟨b',off'+k*3+1,none⟩=some (.int .i64 fA):=hc' 1 _ rfl
      have c2:wr.cell? ⟨b,off+k*3+2,none⟩=some (.string fS):=hc 2 _ rfl
      have d2:wr.cell? ⟨b',off'+k*3+2,none⟩=some (.string fu):=hc' 2 _ rfl
      have hsz:=hb.size
      have hlt1:b<wr.heap.size:=by omega
      have hlt2:b'<wr.heap.size:=by omega
      have Hb:=hid hb
      have Hxk:=hid hxk
      have Hyk:=hid hyk
      have fin:=hid ((Hb.out.alloc Hb.out.size (.cells #[.string bU,.int .i64 fT,.string fS] 36)).drew)
      have step:=hid (fun (h:(⟨bU,fT,fS⟩:av)=⟨bQ,fA,fu⟩)=>gO (hxk.trans (congrArg some h)) hyk He.out)
      have stop:=hid (fun (h:(⟨bU,fT,fS⟩:av)≠⟨bQ,fA,fu⟩)=>lK hxk hyk h)
      clear hc hc' hx hy hxk hyk hb
      obtain⟨t,ht,hrun,-⟩:=uN bU bQ fS fu fT fA
      have HT:=hid ht
      cases t
      · have oP:=hid (stop.out (fun h=>absurd (HT.out.2 h) (by decide)))
        have hrun':∀ W,(binOp .neq 36 (.agg #[.string bU,.int .i64 fT,.string fS]) (.agg #[.string bQ,.int .i64 fA,.string fu])).run Tryz.prog W = .ok (.bool true) W:=hrun
        clear ht hrun step
        go_wp2
        go_region
        go_wp2
        go_ret
        exact⟨false,rfl,⟨fun h=>(by cases h),fun h=>absurd h oP.out⟩,fin.out⟩
      · have step2:=hid (step.out (HT.out.1 rfl))
        have hrun':∀ W,(binOp .neq 36 (.agg #[.string bU,.int .i64 fT,.string fS]) (.agg #[.string bQ,.int .i64 fA,.string fu])).run Tryz.prog W = .ok (.bool false) W:=hrun
        clear ht hrun stop
        go_wp2
        go_region
        go_wp2
        go_roundw
        case rel=>exact⟨k+1,by omega,by go_num,step2.out,fin.out⟩
        case measure=>simp [intOf]; omega
    · have fin:=hid hb
      have same:=hid (show xs=ys by
       have e:=He.out
       rwa [List.take_of_length_le (by rw [Lx.out]; omega),List.take_of_length_le (by rw [Ly.out]; omega)] at e)
      clear hb hx hy
      go_wp2
      go_ret
      exact⟨true,rfl,⟨fun _=>same.out,fun _=>rfl⟩,fin.out⟩
 · have h0:((n:Int) != m)=true:=by simp; omega
   have fin:=hid (show xs≠ys by rintro rfl; omega)
   clear lx ly hx hy
   go_enter Tryz.func49,Tryz.ntmps49
   go_wp2
   go_ret
   exact⟨false,rfl,⟨fun h=>(by cases h),fun h=>absurd h fin.out⟩,Below.refl _ _⟩
theorem qV (iY iq fJ eT:ByteArray) (fK eU:Int):∃ t:Bool,(t=true↔(⟨iY,fJ,fK⟩:ah)=⟨iq,eT,eU⟩)∧(∀ W,(binOp .neq 38 (.agg #[.string iY,.string fJ,.int .i64 fK]) (.agg #[.string iq,.string eT,.int .i64 eU])).run Tryz.prog W = .ok (.bool (!t)) W)∧(∀ W,(binOp .eql 38 (.agg #[.string iY,.string fJ,.int .i64 fK]) (.agg #[.string iq,.string eT,.int .i64 eU])).run Tryz.prog W = .ok (.bool t) W):=by
 by_cases h:(⟨iY,fJ,fK⟩:ah)=⟨iq,eT,eU⟩
 · injection h with h0 h1 h2
   subst h0; subst h1; subst h2
   exact⟨true,⟨fun _=>rfl,fun _=>rfl⟩,fun W=>by simp [go_sem],fun W=>by simp [go_sem]⟩
 · refine⟨false,⟨fun h'=>(by cases h'),fun h'=>absurd h' h⟩,fun W=>?_,fun W=>?_⟩
   · by_cases e0:iY.toList=iq.toList
     rotate_left
     · simp [go_sem,e0]
     by_cases e1:fJ.toList=eT.toList
     rotate_left
     · simp [go_sem,e0,e1]
     by_cases e2:fK=eU
     rotate_left
     · simp [go_sem,e0,e1,e2]
     refine absurd ?_ h
     have e0:=cU e0; subst e0
     have e1:=cU e1; subst e1
     subst e2
     rfl
   · by_cases e0:iY.toList=iq.toList
     rotate_left
     · simp [go_sem,e0]
     by_cases e1:fJ.toList=eT.toList
     rotate_left
     · simp [go_sem,e0,e1]
     by_cases e2:fK=eU
     rotate_left
     · simp [go_sem,e0,e1,e2]
     refine absurd ?_ h
     have e0:=cU e0; subst e0
     have e1:=cU e1; subst e1
     subst e2
     rfl
theorem Id (xs ys:List ah) (A A':Option Addr) (n m c c':Nat) (w:World) (hx:aQ w w.heap.size 3 A n (au ay xs)) (hy:aQ w w.heap.size 3 A' m (au ay ys)) (lx:xs.length=n) (ly:ys.length=m) (hn:n≤9223372036854775807) (hm:m≤9223372036854775807) :
 Calls Tryz.prog 50 #[.slice A n c,.slice A' m c'] w (oO xs ys w):=by
 by_cases h:n=m
 · subst h
   have h0:((n:Int) != n)=false:=by simp
   have Lx:=hid lx
   have Ly:=hid ly
   clear lx ly
   go_enter Tryz.func50,Tryz.ntmps50
   go_wp2
   go_loopw [5,6,14] (fun _ _ i wr=>zi xs ys n w i wr) (fun _ _ i _=>n - (intOf i).toNat)
   case atStart=>exact⟨0,Nat.zero_le _,rfl,rfl,Below.refl _ _⟩
   case round=>
    obtain⟨k,hk,rfl,he,hb⟩:=hrel
    have He:=hid he
    clear he
    by_cases hlt:k<n
    · obtain⟨x,hxk⟩:∃ x,xs[k]? = some x:=⟨_,List.getElem?_eq_getElem (by rw [Lx.out]; exact hlt)⟩
      obtain⟨y,hyk⟩:∃ y,ys[k]? = some y:=⟨_,List.getElem?_eq_getElem (by rw [Ly.out]; exact hlt)⟩
      obtain⟨b,off,rfl,hbB,hc⟩:=(hx.below hb).cR aH Lx.out hxk
      obtain⟨b',off',rfl,qU,hc'⟩:=(hy.below hb).cR aH Ly.out hyk
      obtain⟨iY,fJ,fK⟩:=x
      obtain⟨iq,eT,eU⟩:=y
      have c0:wr.cell? ⟨b,off+k*3,none⟩=some (.string iY):=hc 0 _ rfl
      have d0:wr.cell? ⟨b',off'+k*3,none⟩=some (.string iq):=hc' 0 _ rfl
      have c1:wr.cell? ⟨b,off+k*3+1,none⟩=some (.string fJ):=hc 1 _ rfl
      have d1:wr.cell? ⟨b',off'+k*3+1,none⟩=some (.string eT):=hc' 1 _ rfl
      have c2:wr.cell? ⟨b,off+k*3+2,none⟩=some (.int .i64 fK):=hc 2 _ rfl
      have d2:wr.cell? ⟨b',off'+k*3+2,none⟩=some (.int .i64 eU):=hc' 2 _ rfl
      have hsz:=hb.size
      have hlt1:b<wr.heap.size:=by omega
      have hlt2:b'<wr.heap.size:=by omega
      have Hb:=hid hb
      have Hxk:=hid hxk
      have Hyk:=hid hyk
      have fin:=hid ((Hb.out.alloc Hb.out.size (.cells #[.string iY,.string fJ,.int .i64 fK] 38)).drew)
      have step:=hid (fun (h:(⟨iY,fJ,fK⟩:ah)=⟨iq,eT,eU⟩)=>gO (hxk.trans (congrArg some h)) hyk He.out)
      have stop:=hid (fun (h:(⟨iY,fJ,fK⟩:ah)≠⟨iq,eT,eU⟩)=>lK hxk hyk h)
      clear hc hc' hx hy hxk hyk hb
      obtain⟨t,ht,hrun,-⟩:=qV iY iq fJ eT fK eU
      have HT:=hid ht
      cases t
      · have oP:=hid (stop.out (fun h=>absurd (HT.out.2 h) (by decide)))
        have hrun':∀ W,(binOp .neq 38 (.agg #[.string iY,.string fJ,.int .i64 fK]) (.agg #[.string iq,.string eT,.int .i64 eU])).run Tryz.prog W = .ok (.bool true) W:=hrun
        clear ht hrun step
        go_wp2
        go_region
        go_wp2
        go_ret
        exact⟨false,rfl,⟨fun h=>(by cases h),fun h=>absurd h oP.out⟩,fin.out⟩
      · have step2:=hid (step.out (HT.out.1 rfl))
        have hrun':∀ W,(binOp .neq 38 (.agg #[.string iY,.string fJ,.int .i64 fK]) (.agg #[.string iq,.string eT,.int .i64 eU])).run Tryz.prog W = .ok (.bool false) W:=hrun
        clear ht hrun stop
        go_wp2
        go_region
        go_wp2
        go_roundw
        case rel=>exact⟨k+1,by omega,by go_num,step2.out,fin.out⟩
        case measure=>simp [intOf]; omega
    · have fin:=hid hb
      have same:=hid (show xs=ys by
       have e:=He.out
       rwa [List.take_of_length_le (by rw [Lx.out]; omega),List.take_of_length_le (by rw [Ly.out]; omega)] at e)
      clear hb hx hy
      go_wp2
      go_ret
      exact⟨true,rfl,⟨fun _=>same.out,fun _=>rfl⟩,fin.out⟩
 · have h0:((n:Int) != m)=true:=by simp; omega
   have fin:=hid (show xs≠ys by rintro rfl; omega)
   clear lx ly hx hy
   go_enter Tryz.func50,Tryz.ntmps50
   go_wp2
   go_ret
   exact⟨false,rfl,⟨fun h=>(by cases h),fun h=>absurd h fin.out⟩,Below.refl _ _⟩
end Go.Proofs.YtoeejfhdjmkpcaaGreatDoor
