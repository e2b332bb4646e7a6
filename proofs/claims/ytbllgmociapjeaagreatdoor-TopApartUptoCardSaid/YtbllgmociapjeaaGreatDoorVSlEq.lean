/- Of the proof of a statement: WPut, SlEq, SlEqL. -/
import Derived.Test.YtbllgmociapjeaaGreatDoorVStChk
import Derived.Test.YtbllgmociapjeaaGreatDoorVWJob
set_option linter.unusedVariables false
set_option linter.unusedSimpArgs false
set_option maxRecDepth 100000
set_option maxHeartbeats 8000000
/- The walks of Put: the rows of a table, written one by one. -/
namespace Go.Proofs.YtbllgmociapjeaaGreatDoor
open Go.Lib (hid)
open Go.RowKit
theorem dQ.keep {w w':World} {base g:Nat} {l:List UInt8} (h:dQ w base g l) (hk:cD base g w w'):Below base w w':=hk.below h.at_.1 h.size
def fV {α:Type} (enc:α→List UInt8) (xs:List α):List UInt8:=aO xs.length ++ xs.flatMap enc
theorem kD {α:Type} {enc:α→List UInt8} (h:∀ x,(enc x).length≤85):∀ xs:List α,(xs.flatMap enc).length≤85*xs.length
 | []=>by simp
 | x :: xs=>by
  have:=kD h xs
  have:=h x
  rw [List.flatMap_cons,List.length_append,List.length_cons]; omega
theorem kZ {α:Type} (enc:α→List UInt8) {xs:List α} {k:Nat} {x:α} (h:xs[k]? = some x):(xs.take (k+1)).flatMap enc=(xs.take k).flatMap enc ++ enc x:=by
 rw [List.take_add_one,h]; simp
def pH {α:Type} (enc:α→List UInt8) (xs:List α) (n:Nat) (base g:Nat) (l:List UInt8) (w:World) (i:Value) (wr:World):Prop:=
 ∃ k:Nat,k≤n∧i = .int .i64 k∧dQ wr base g (l ++ aO n ++ (xs.take k).flatMap enc)∧cD base g w wr
theorem LZ.of {s:ByteArray} (h:s.size≤9223372036854775807):s.size≤9223372036854775807:=h
theorem rT (base g p:Nat) (l:List UInt8) (xs:List ak) (A:Option Addr) (n c:Nat) (w:World) (hx:aU w base 3 A n (au av xs)) (hl:xs.length=n) (hn:n≤1000000) (hw:∀ x ∈ xs,sG x) (h:dQ w base g l) (hll:l.length≤1000000) :
 Calls Tryz.prog 180 #[.pointer (some ⟨g,0,none⟩),.slice A n c,.func (.func 181) #[.pointer (some ⟨g,0,none⟩)] #[]] w (dY base g (l ++ fV dL xs) w):=by
 have kC:∀ k,((xs.take k).flatMap dL).length≤85*n:=fun k=>by
  have h1:=kD (enc:=dL) (fun x=>jG _) (xs.take k)
  have h2:(xs.take k).length≤n:=by rw [List.length_take]; omega
  omega
 have hnl:=cJ n
 have Hlen:=hid (show ∀ k,(l ++ aO n ++ (xs.take k).flatMap dL).length≤90000000 from fun k=>by have:=kC k; simp only [List.length_append]; omega)
 have bI:=hid (show l ++ fV dL xs=l ++ aO n ++ (xs.take n).flatMap dL from by unfold fV; rw [← hl,List.take_length,List.append_assoc])
 have HN:=hid (jq base g l (n:Int) w (by omega) h (by omega))
 have Hw:=hid hw
 have Hl:=hid hl
 have Hx:=hid hx
 have Ho:=hid h
 clear hw hl hx h kC hnl
 go_enter Tryz.func180,Tryz.ntmps180
 go_wp2_with fail
 refine Calls.mono HN.out ?_
 rintro e w0 ⟨rfl,ok0,k0⟩
 rw [show ((n:Int)).toNat=n from by omega] at ok0
 have Ok0:=hid ok0
 have K0:=hid k0
 clear ok0 k0
 go_wp2
 go_loopw [7,14] (fun _ i wr=>pH dL xs n base g l w i wr) (fun _ i _=>n - (intOf i).toNat)
 case atStart=>exact⟨0,Nat.zero_le _,rfl,by simpa using Ok0.out,K0.out⟩
 case round=>
  obtain⟨k,hk,rfl,hok,hkp⟩:=hrel
  have Hok:=hid hok
  have Hkp:=hid hkp
  have hsz:=hok.size
  have hB:=Ho.out.keep hkp
  clear hok hkp
  by_cases hlt:k<n
  · obtain⟨x,hf⟩:∃ x,xs[k]? = some x:=⟨_,List.getElem?_eq_getElem (by rw [Hl.out]; exact hlt)⟩
    obtain⟨b,off,rfl,hbB,hc⟩:=(Hx.out.below hB).dB aG Hl.out hf
    have hso:=hid (Hw.out x (List.mem_of_getElem? hf))
    have Hst:=hid (kZ dL hf)
    obtain⟨X,hX⟩:∃ X,X=x:=⟨_,rfl⟩
    have HX:=hid hX
    obtain⟨job,node,till⟩:=x
    obtain⟨c0,c1,c2⟩:=rc3 hc
    clear hc hf hX hB
    have hlb:b<wr.heap.size:=by omega
    have hba:Below wr.heap.size wr (wr.alloc (.cells #[.string job,.string node,.int .i64 till] 36)):=(Below.refl _ _).alloc (Nat.le_refl _) _
    have Hba:=hid hba
    have Ha:=hid (Hok.out.below hba)
    have Hkl:=hid (Hlen.out k)
    clear hba
    go_wp2_with fail
    refine Calls.mono (wQ base g _ ⟨job,node,till⟩ _ hso.out Ha.out Hkl.out) ?_
    rintro e w1 ⟨rfl,ok1,k1⟩
    have Hk1:=hid (Hkp.out.trans ((cD.of_below Hba.out).trans k1))
    have Ok1:=hid (show dQ w1 base g (l ++ aO n ++ (xs.take (k+1)).flatMap dL) from by rw [Hst.out,← List.append_assoc]; exact ok1)
    clear ok1 k1
    go_wp2
    go_roundw
    case rel=>exact⟨k+1,by omega,by go_num,Ok1.out,Hk1.out⟩
    case measure=>simp [intOf]; omega
  · obtain rfl:k=n:=by omega
    go_wp2
    go_end0
    exact⟨rfl,by rw [bI.out]; exact Hok.out,Hkp.out⟩
end Go.Proofs.YtbllgmociapjeaaGreatDoor
/- slices.Equal at rows of records: true just where the lists are the same. -/
namespace Go.Proofs.YtbllgmociapjeaaGreatDoor
open Go.Lib (hid)
open Go.RowKit
theorem Fu (xs ys:List aC) (A A':Option Addr) (n m c c':Nat) (w:World) (hx:aU w w.heap.size 5 A n (au aI xs)) (hy:aU w w.heap.size 5 A' m (au aI ys)) (lx:xs.length=n) (ly:ys.length=m) (hn:n≤9223372036854775807) (hm:m≤9223372036854775807) :
 Calls Tryz.prog 165 #[.slice A n c,.slice A' m c'] w (wK xs ys w):=by
 by_cases h:n=m
 · subst h
   have h0:((n:Int) != n)=false:=by simp
   have Lx:=hid lx
   have Ly:=hid ly
   clear lx ly
   go_enter Tryz.func165,Tryz.ntmps165
   go_wp2
   go_loopw [13] (fun i wr=>Ir xs ys n w i wr) (fun i _=>n - (intOf i).toNat)
   case atStart=>exact⟨0,Nat.zero_le _,rfl,rfl,Below.refl _ _⟩
   case round=>
    obtain⟨k,hk,rfl,he,hb⟩:=hrel
    have He:=hid he
    clear he
    by_cases hlt:k<n
    · obtain⟨x,hxk⟩:∃ x,xs[k]? = some x:=⟨_,List.getElem?_eq_getElem (by rw [Lx.out]; exact hlt)⟩
      obtain⟨y,hyk⟩:∃ y,ys[k]? = some y:=⟨_,List.getElem?_eq_getElem (by rw [Ly.out]; exact hlt)⟩
      obtain⟨b,off,rfl,hbB,hc⟩:=(hx.below hb).dB aV Lx.out hxk
      obtain⟨b',off',rfl,uh,hc'⟩:=(hy.below hb).dB aV Ly.out hyk
      obtain⟨dZ,jQ,jR,ig,mZ⟩:=x
      obtain⟨cP,iB,iC,fN,kK⟩:=y
      have c0:wr.cell? ⟨b,off+k*5,none⟩=some (.string dZ):=hc 0 _ rfl
      have d0:wr.cell? ⟨b',off'+k*5,none⟩=some (.string cP):=hc' 0 _ rfl
      have c1:wr.cell? ⟨b,off+k*5+1,none⟩=some (.int .i64 jQ):=hc 1 _ rfl
      have d1:wr.cell? ⟨b',off'+k*5+1,none⟩=some (.int .i64 iB):=hc' 1 _ rfl
      have c2:wr.cell? ⟨b,off+k*5+2,none⟩=some (.int .i64 jR):=hc 2 _ rfl
      have d2:wr.cell? ⟨b',off'+k*5+2,none⟩=some (.int .i64 iC):=hc' 2 _ rfl
      have c3:wr.cell? ⟨b,off+k*5+3,none⟩=some (.int .i64 ig):=hc 3 _ rfl
      have d3:wr.cell? ⟨b',off'+k*5+3,none⟩=some (.int .i64 fN):=hc' 3 _ rfl
      have c4:wr.cell? ⟨b,off+k*5+4,none⟩=some (.string mZ):=hc 4 _ rfl
      have d4:wr.cell? ⟨b',off'+k*5+4,none⟩=some (.string kK):=hc' 4 _ rfl
      have hsz:=hb.size
      have hlt1:b<wr.heap.size:=by omega
      have hlt2:b'<wr.heap.size:=by omega
      have Hb:=hid hb
      have Hxk:=hid hxk
      have Hyk:=hid hyk
      have fin:=hid Hb.out.drew
      have step:=hid (fun (h:(⟨dZ,jQ,jR,ig,mZ⟩:aC)=⟨cP,iB,iC,fN,kK⟩)=>mH (hxk.trans (congrArg some h)) hyk He.out)
      have stop:=hid (fun (h:(⟨dZ,jQ,jR,ig,mZ⟩:aC)≠⟨cP,iB,iC,fN,kK⟩)=>tD hxk hyk h)
      clear hc hc' hx hy hxk hyk hb
      obtain⟨t,ht,hrun,-⟩:=Au dZ cP mZ kK jQ iB jR iC ig fN
      have HT:=hid ht
      cases t
      · have Bg:=hid (stop.out (fun h=>absurd (HT.out.2 h) (by decide)))
        have hrun':∀ W,(binOp .neq 32 (.agg #[.string dZ,.int .i64 jQ,.int .i64 jR,.int .i64 ig,.string mZ]) (.agg #[.string cP,.int .i64 iB,.int .i64 iC,.int .i64 fN,.string kK])).run Tryz.prog W = .ok (.bool true) W:=hrun
        clear ht hrun step
        go_wp2
        go_region
        go_wp2
        go_ret
        exact⟨false,rfl,⟨fun h=>(by cases h),fun h=>absurd h Bg.out⟩,fin.out⟩
      · have step2:=hid (step.out (HT.out.1 rfl))
        have hrun':∀ W,(binOp .neq 32 (.agg #[.string dZ,.int .i64 jQ,.int .i64 jR,.int .i64 ig,.string mZ]) (.agg #[.string cP,.int .i64 iB,.int .i64 iC,.int .i64 fN,.string kK])).run Tryz.prog W = .ok (.bool false) W:=hrun
        clear ht hrun stop
        go_wp2
        go_region
        go_wp2
        go_roundw
        case rel=>exact⟨k+1,by omega,by go_num,step2.out,fin.out⟩
        case measure=>simp [intOf]; omega
    · have fin:=hid hb
      have same:=hid (show xs=ys by
       have e:=He.out
       rwa [List.take_of_length_le (by rw [Lx.out]; omega),List.take_of_length_le (by rw [Ly.out]; omega)] at e)
      clear hb hx hy
      go_wp2
      go_ret
      exact⟨true,rfl,⟨fun _=>same.out,fun _=>rfl⟩,fin.out⟩
 · have h0:((n:Int) != m)=true:=by simp; omega
   have fin:=hid (show xs≠ys by rintro rfl; omega)
   clear lx ly hx hy
   go_enter Tryz.func165,Tryz.ntmps165
   go_wp2
   go_ret
   exact⟨false,rfl,⟨fun h=>(by cases h),fun h=>absurd h fin.out⟩,Below.refl _ _⟩
theorem DF (xs ys:List aA) (A A':Option Addr) (n m c c':Nat) (w:World) (hx:aU w w.heap.size 3 A n (au aB xs)) (hy:aU w w.heap.size 3 A' m (au aB ys)) (lx:xs.length=n) (ly:ys.length=m) (hn:n≤9223372036854775807) (hm:m≤9223372036854775807) :
 Calls Tryz.prog 166 #[.slice A n c,.slice A' m c'] w (wK xs ys w):=by
 by_cases h:n=m
 · subst h
   have h0:((n:Int) != n)=false:=by simp
   have Lx:=hid lx
   have Ly:=hid ly
   clear lx ly
   go_enter Tryz.func166,Tryz.ntmps166
   go_wp2
   go_loopw [13] (fun i wr=>Ir xs ys n w i wr) (fun i _=>n - (intOf i).toNat)
   case atStart=>exact⟨0,Nat.zero_le _,rfl,rfl,Below.refl _ _⟩
   case round=>
    obtain⟨k,hk,rfl,he,hb⟩:=hrel
    have He:=hid he
    clear he
    by_cases hlt:k<n
    · obtain⟨x,hxk⟩:∃ x,xs[k]? = some x:=⟨_,List.getElem?_eq_getElem (by rw [Lx.out]; exact hlt)⟩
      obtain⟨y,hyk⟩:∃ y,ys[k]? = some y:=⟨_,List.getElem?_eq_getElem (by rw [Ly.out]; exact hlt)⟩
      obtain⟨b,off,rfl,hbB,hc⟩:=(hx.below hb).dB aJ Lx.out hxk
      obtain⟨b',off',rfl,uh,hc'⟩:=(hy.below hb).dB aJ Ly.out hyk
      obtain⟨dZ,jS,jT⟩:=x
      obtain⟨cP,iD,iE⟩:=y
      have c0:wr.cell? ⟨b,off+k*3,none⟩=some (.string dZ):=hc 0 _ rfl
      have d0:wr.cell? ⟨b',off'+k*3,none⟩=some (.string cP):=hc' 0 _ rfl
      have c1:wr.cell? ⟨b,off+k*3+1,none⟩=some (.int .i64 jS):=hc 1 _ rfl
      have d1:wr.cell? ⟨b',off'+k*3+1,none⟩=some (.int .i64 iD):=hc' 1 _ rfl
      have c2:wr.cell? ⟨b,off+k*3+2,none⟩=some (.string jT):=hc 2 _ rfl
      have d2:wr.cell? ⟨b',off'+k*3+2,none⟩=some (.string iE):=hc' 2 _ rfl
      have hsz:=hb.size
      have hlt1:b<wr.heap.size:=by omega
      have hlt2:b'<wr.heap.size:=by omega
      have Hb:=hid hb
      have Hxk:=hid hxk
      have Hyk:=hid hyk
      have fin:=hid Hb.out.drew
      have step:=hid (fun (h:(⟨dZ,jS,jT⟩:aA)=⟨cP,iD,iE⟩)=>mH (hxk.trans (congrArg some h)) hyk He.out)
      have stop:=hid (fun (h:(⟨dZ,jS,jT⟩:aA)≠⟨cP,iD,iE⟩)=>tD hxk hyk h)
      clear hc hc' hx hy hxk hyk hb
      obtain⟨t,ht,hrun,-⟩:=xS dZ cP jT iE jS iD
      have HT:=hid ht
      cases t
      · have Bg:=hid (stop.out (fun h=>absurd (HT.out.2 h) (by decide)))
        have hrun':∀ W,(binOp .neq 34 (.agg #[.string dZ,.int .i64 jS,.string jT]) (.agg #[.string cP,.int .i64 iD,.string iE])).run Tryz.prog W = .ok (.bool true) W:=hrun
        clear ht hrun step
        go_wp2
        go_region
        go_wp2
        go_ret
        exact⟨false,rfl,⟨fun h=>(by cases h),fun h=>absurd h Bg.out⟩,fin.out⟩
      · have step2:=hid (step.out (HT.out.1 rfl))
        have hrun':∀ W,(binOp .neq 34 (.agg #[.string dZ,.int .i64 jS,.string jT]) (.agg #[.string cP,.int .i64 iD,.string iE])).run Tryz.prog W = .ok (.bool false) W:=hrun
        clear ht hrun stop
        go_wp2
        go_region
        go_wp2
        go_roundw
        case rel=>exact⟨k+1,by omega,by go_num,step2.out,fin.out⟩
        case measure=>simp [intOf]; omega
    · have fin:=hid hb
      have same:=hid (show xs=ys by
       have e:=He.out
       rwa [List.take_of_length_le (by rw [Lx.out]; omega),List.take_of_length_le (by rw [Ly.out]; omega)] at e)
      clear hb hx hy
      go_wp2
      go_ret
      exact⟨true,rfl,⟨fun _=>same.out,fun _=>rfl⟩,fin.out⟩
 · have h0:((n:Int) != m)=true:=by simp; omega
   have fin:=hid (show xs≠ys by rintro rfl; omega)
   clear lx ly hx hy
   go_enter Tryz.func166,Tryz.ntmps166
   go_wp2
   go_ret
   exact⟨false,rfl,⟨fun h=>(by cases h),fun h=>absurd h fin.out⟩,Below.refl _ _⟩
end Go.Proofs.YtbllgmociapjeaaGreatDoor
/- slices.Equal at rows of records: true just where the lists are the same. -/
namespace Go.Proofs.YtbllgmociapjeaaGreatDoor
open Go.Lib (hid)
open Go.RowKit
theorem Bw (xs ys:List ak) (A A':Option Addr) (n m c c':Nat) (w:World) (hx:aU w w.heap.size 3 A n (au av xs)) (hy:aU w w.heap.size 3 A' m (au av ys)) (lx:xs.length=n) (ly:ys.length=m) (hn:n≤9223372036854775807) (hm:m≤9223372036854775807) :
 Calls Tryz.prog 167 #[.slice A n c,.slice A' m c'] w (wK xs ys w):=by
 by_cases h:n=m
 · subst h
   have h0:((n:Int) != n)=false:=by simp
   have Lx:=hid lx
   have Ly:=hid ly
   clear lx ly
   go_enter Tryz.func167,Tryz.ntmps167
   go_wp2
   go_loopw [13] (fun i wr=>Ir xs ys n w i wr) (fun i _=>n - (intOf i).toNat)
   case atStart=>exact⟨0,Nat.zero_le _,rfl,rfl,Below.refl _ _⟩
   case round=>
    obtain⟨k,hk,rfl,he,hb⟩:=hrel
    have He:=hid he
    clear he
    by_cases hlt:k<n
    · obtain⟨x,hxk⟩:∃ x,xs[k]? = some x:=⟨_,List.getElem?_eq_getElem (by rw [Lx.out]; exact hlt)⟩
      obtain⟨y,hyk⟩:∃ y,ys[k]? = some y:=⟨_,List.getElem?_eq_getElem (by rw [Ly.out]; exact hlt)⟩
      obtain⟨b,off,rfl,hbB,hc⟩:=(hx.below hb).dB aG Lx.out hxk
      obtain⟨b',off',rfl,uh,hc'⟩:=(hy.below hb).dB aG Ly.out hyk
      obtain⟨ng,jU,jV⟩:=x
      obtain⟨kL,iF,iG⟩:=y
      have c0:wr.cell? ⟨b,off+k*3,none⟩=some (.string ng):=hc 0 _ rfl
      have d0:wr.cell? ⟨b',off'+k*3,none⟩=some (.string kL):=hc' 0 _ rfl
      have c1:wr.cell? ⟨b,off+k*3+1,none⟩=some (.string jU):=hc 1 _ rfl
      have d1:wr.cell? ⟨b',off'+k*3+1,none⟩=some (.string iF):=hc' 1 _ rfl
      have c2:wr.cell? ⟨b,off+k*3+2,none⟩=some (.int .i64 jV):=hc 2 _ rfl
      have d2:wr.cell? ⟨b',off'+k*3+2,none⟩=some (.int .i64 iG):=hc' 2 _ rfl
      have hsz:=hb.size
      have hlt1:b<wr.heap.size:=by omega
      have hlt2:b'<wr.heap.size:=by omega
      have Hb:=hid hb
      have Hxk:=hid hxk
      have Hyk:=hid hyk
      have fin:=hid Hb.out.drew
      have step:=hid (fun (h:(⟨ng,jU,jV⟩:ak)=⟨kL,iF,iG⟩)=>mH (hxk.trans (congrArg some h)) hyk He.out)
      have stop:=hid (fun (h:(⟨ng,jU,jV⟩:ak)≠⟨kL,iF,iG⟩)=>tD hxk hyk h)
      clear hc hc' hx hy hxk hyk hb
      obtain⟨t,ht,hrun,-⟩:=vI ng kL jU iF jV iG
      have HT:=hid ht
      cases t
      · have Bg:=hid (stop.out (fun h=>absurd (HT.out.2 h) (by decide)))
        have hrun':∀ W,(binOp .neq 36 (.agg #[.string ng,.string jU,.int .i64 jV]) (.agg #[.string kL,.string iF,.int .i64 iG])).run Tryz.prog W = .ok (.bool true) W:=hrun
        clear ht hrun step
        go_wp2
        go_region
        go_wp2
        go_ret
        exact⟨false,rfl,⟨fun h=>(by cases h),fun h=>absurd h Bg.out⟩,fin.out⟩
      · have step2:=hid (step.out (HT.out.1 rfl))
        have hrun':∀ W,(binOp .neq 36 (.agg #[.string ng,.string jU,.int .i64 jV]) (.agg #[.string kL,.string iF,.int .i64 iG])).run Tryz.prog W = .ok (.bool false) W:=hrun
        clear ht hrun stop
        go_wp2
        go_region
        go_wp2
        go_roundw
        case rel=>exact⟨k+1,by omega,by go_num,step2.out,fin.out⟩
        case measure=>simp [intOf]; omega
    · have fin:=hid hb
      have same:=hid (show xs=ys by
       have e:=He.out
       rwa [List.take_of_length_le (by rw [Lx.out]; omega),List.take_of_length_le (by rw [Ly.out]; omega)] at e)
      clear hb hx hy
      go_wp2
      go_ret
      exact⟨true,rfl,⟨fun _=>same.out,fun _=>rfl⟩,fin.out⟩
 · have h0:((n:Int) != m)=true:=by simp; omega
   have fin:=hid (show xs≠ys by rintro rfl; omega)
   clear lx ly hx hy
   go_enter Tryz.func167,Tryz.ntmps167
   go_wp2
   go_ret
   exact⟨false,rfl,⟨fun h=>(by cases h),fun h=>absurd h fin.out⟩,Below.refl _ _⟩
end Go.Proofs.YtbllgmociapjeaaGreatDoor
