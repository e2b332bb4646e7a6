/- Of the proof of a statement: HasFL, EqRows, AtL, WPut, EncC, FrmEncR, TwoW. -/
import Derived.BigQuiet
import Derived.Deep.QuietTactic
import Derived.Lib.QuietBelow
import Derived.Deep.DeepCutAuto
import Derived.Test.YtimglglgcgpjgabGreatDoorPClone
import Derived.Test.YtimglglgcgpjgabGreatDoorPRBytes
set_option linter.unusedVariables false
set_option linter.unusedSimpArgs false
set_option maxRecDepth 100000
set_option maxHeartbeats 8000000
namespace Go.Proofs.YtimglglgcgpjgabGreatDoor
open Go.RowKit
open Go.Sort (grow)
def jX {α:Type} (p:α->Bool) (F:FuncId) (b:Array Value) (enc:α->List Value) (xs:List α) (w:World):Prop:=
 ∀ W,Below w w W->∀ x ∈ xs,ψ F (#[.agg (enc x).toArray] ++ b) W fun e a=>e = .returned (.bool (p x))/\Below W W a
def yU {α:Type} (p:α->Bool) (xs:List α) (n:Nat) (w:World) (i:Value) (wr:World):Prop:=∃ k:Nat,k<=n/\i = .int .i64 k/\(xs.take k).any p=false/\Below w w wr
def Am {α:Type} (p:α->Bool) (xs:List α) (w:World) (e:Ending) (w':World):Prop:=
 ∃ i:Int,e = .returned (.int .i64 i)/\Below w w w'/\((i = -1/\xs.any p=false)\/(0<=i/\xs.any p=true))
theorem wA {α:Type} {p:α->Bool} {xs:List α} {k:Nat} {x:α} (h:xs[k]? = some x) (a:p x=true):xs.any p=true:=List.any_eq_true.2 ⟨x,m8 h,a⟩
theorem sR {α:Type} {p:α->Bool} {xs:List α} {k:Nat} {x:α} (h:xs[k]? = some x) (b:(xs.take k).any p=false) (a:p x=false):(xs.take (k+1)).any p=false:=by
 rw [List.take_add_one,h,List.any_append,b]; simp [a]
theorem CP {α:Type} {p:α->Bool} {xs:List α} {k:Nat} (b:(xs.take k).any p=false) (a:xs.length<=k):xs.any p=false:=by rwa [List.take_of_length_le a] at b
theorem I3 (p:ak->Bool) (F:FuncId) (i:Array Value) (xs:List ak) (A:Option Addr) (n c:Nat) (w:World) (K:∀ args w,(callFunc F args).run Tryz.prog w = .ok (.enter F args) w) (l:bg w w 3 A n (au aB xs)) (z:xs.length=n) (N:n<=9223372036854775807) (C:jX p F i aB xs w) :
 ψ 223 #[.slice A n c,.func (.func F) #[] i] w (Am p xs w):=by
 have h:=ω z;have D:=ω C;clear z C;go_enter Tryz.func223,Tryz.ntmps223;go_wp2
 go_loopw [4,5,8,16] (fun _ _ m _ wr=>yU p xs n w m wr) (fun _ _ m _ _=>n - (intOf m).toNat)
 case atStart=>exact⟨0,Nat.zero_le _,rfl,by simp,θ⟩
 case round=>
  obtain⟨k,L,rfl,B,b⟩:=hrel;have u:=ω B;have g:=ω b;have O:=b.size;clear B;by_cases hlt:k<n
  · obtain⟨x,e⟩:∃ x,xs[k]? = some x:=⟨_,δ (by rw [h.z]; exact hlt)⟩;obtain⟨G,P,rfl,J,y⟩:=(l.below b).dL aI h.z e;have q:=ω e;have d:=ω (D.z wr b x (m8 e));obtain⟨t,j⟩:∃ t,p x=t:=⟨_,rfl⟩;rw [j] at d;have r:=ω j;obtain⟨job,node,H⟩:=x;obtain⟨c0,I,c2⟩:=rc3 y;have d:=ω (show ψ F (#[.agg #[job,node,H]] ++ i) wr fun s E=>s = .returned (.bool t)/\Below wr wr E from d.z);clear y e l b j;have M:G<wr.heap.size:=by omega
    go_wp2_with fail
    refine d.mono ?_;rintro s Q ⟨rfl,v⟩;have o:=ω (g.trans (v.mono g.size));clear d v;cases t
    · have a:=ω (sR q.z u.z r.z);go_wp2
      go_roundw
      case rel=>exact⟨k+1,by omega,by go_num,a,o⟩
      case measure=>simp [intOf]; omega
    · have a:=ω (wA q.z r.z);go_wp2;go_ret;exact⟨_,rfl,o,.inr ⟨by omega,a⟩⟩
  · have a:=ω (CP u.z (by rw [h.z]; omega));clear l;go_wp2;go_ret;exact⟨_,rfl,g,.inl ⟨rfl,a⟩⟩
theorem FI (p:ak->Bool) (F:FuncId) (b:Array Value) (xs:List ak) (A:Option Addr) (n c:Nat) (w:World) (g:∀ args w,(callFunc F args).run Tryz.prog w = .ok (.enter F args) w) (j:bg w w 3 A n (au aB xs)) (h:xs.length=n) (a:n<=9223372036854775807) (i:jX p F b aB xs w) :
 ψ 198 #[.slice A n c,.func (.func F) #[] b] w fun e q=>e = .returned (.bool (xs.any p))/\Below w w q:=by
 have k:=ω (I3 p F b xs A n c w g j h a i);clear j h a i g;go_enter Tryz.func198,Tryz.ntmps198
 go_wp2_with fail
 refine k.mono ?_;rintro e s ⟨o,rfl,d,l⟩;rcases l with ⟨rfl,a⟩ | ⟨m,a⟩
 · go_wp2;go_ret;exact⟨bA a.symm,d⟩
 · have r:decide (0<=o)=true:=t7 m;go_wp2;go_ret;exact⟨bA a.symm,d⟩
theorem uD {α:Type} {xs:List α} {k:Nat} {x:α} (h:xs[k]? = some x):xs.take (k+1)=xs.take k ++ [x]:=by
 rw [List.take_add_one,h]; rfl
theorem iC {α:Type} {xs a:List α} {k:Nat} {x:α} (b:xs[k]? = some x) (c:a[k]? = some x) (h:xs.take k=a.take k):xs.take (k+1)=a.take (k+1):=by
 rw [uD b,uD c,h]
theorem nC {α:Type} {xs b:List α} {k:Nat} {x y:α} (c:xs[k]? = some x) (a:b[k]? = some y) (h:x≠y):xs≠b:=by
 rintro rfl; rw [c] at a; injection a with a; exact h a
theorem dD {a b:ByteArray} (h:a.toList=b.toList):a=b:=by rw [ByteArray.toList_eq,ByteArray.toList_eq] at h; exact ByteArray.ext (Array.toList_inj.1 h)
def Id {α:Type} (xs a:List α) (n:Nat) (w:World) (i:Value) (wr:World):Prop:=∃ k:Nat,k<=n/\i = .int .i64 k/\xs.take k=a.take k/\Below w w wr
def xO {α:Type} (xs a:List α) (w:World) (e:Ending) (w':World):Prop:=∃ t:Bool,e = .returned (.bool t)/\(t=true↔xs=a)/\Below w w w'
theorem An (g f o n:ByteArray) (l j m k i h:Int):∃ t:Bool,(t=true↔(⟨g,l,m,i,o⟩:aC)=⟨f,j,k,h,n⟩)/\(∀ W,(binOp .neq 86 (.agg #[g,l,m,i,o]) (.agg #[f,j,k,h,n])).run Tryz.prog W = .ok (.bool (!t)) W)/\(∀ W,(binOp .eql 86 (.agg #[g,l,m,i,o]) (.agg #[f,j,k,h,n])).run Tryz.prog W = .ok (.bool t) W):=by
 by_cases p:(⟨g,l,m,i,o⟩:aC)=⟨f,j,k,h,n⟩
 · injection p with r s u v w;subst r; subst s; subst u; subst v; subst w;exact⟨true,⟨fun _=>rfl,fun _=>rfl⟩,fun W=>by simp [go_sem],fun W=>by simp [go_sem]⟩
 · refine⟨false,⟨fun q=>(by cases q),fun q=>absurd q p⟩,fun W=>?_,fun W=>?_⟩
   · by_cases a:g.toList=f.toList;rotate_left
     · simp [go_sem,a]
     by_cases b:l=j;rotate_left
     · simp [go_sem,a,b]
     by_cases c:m=k;rotate_left
     · simp [go_sem,a,b,c]
     by_cases e:i=h;rotate_left
     · simp [go_sem,a,b,c,e]
     by_cases d:o.toList=n.toList;rotate_left
     · simp [go_sem,a,b,c,e,d]
     refine absurd ?_ p;have a:=dD a; subst a;subst b;subst c;subst e;have d:=dD d; subst d;rfl
   · by_cases a:g.toList=f.toList;rotate_left
     · simp [go_sem,a]
     by_cases b:l=j;rotate_left
     · simp [go_sem,a,b]
     by_cases c:m=k;rotate_left
     · simp [go_sem,a,b,c]
     by_cases e:i=h;rotate_left
     · simp [go_sem,a,b,c,e]
     by_cases d:o.toList=n.toList;rotate_left
     · simp [go_sem,a,b,c,e,d]
     refine absurd ?_ p;have a:=dD a; subst a;subst b;subst c;subst e;have d:=dD d; subst d;rfl
theorem xP (e d h f:ByteArray) (i g:Int):∃ t:Bool,(t=true↔(⟨e,i,h⟩:av)=⟨d,g,f⟩)/\(∀ W,(binOp .neq 81 (.agg #[e,i,h]) (.agg #[d,g,f])).run Tryz.prog W = .ok (.bool (!t)) W)/\(∀ W,(binOp .eql 81 (.agg #[e,i,h]) (.agg #[d,g,f])).run Tryz.prog W = .ok (.bool t) W):=by
 by_cases j:(⟨e,i,h⟩:av)=⟨d,g,f⟩
 · injection j with l m n;subst l; subst m; subst n;exact⟨true,⟨fun _=>rfl,fun _=>rfl⟩,fun W=>by simp [go_sem],fun W=>by simp [go_sem]⟩
 · refine⟨false,⟨fun k=>(by cases k),fun k=>absurd k j⟩,fun W=>?_,fun W=>?_⟩
   · by_cases a:e.toList=d.toList;rotate_left
     · simp [go_sem,a]
     by_cases c:i=g;rotate_left
     · simp [go_sem,a,c]
     by_cases b:h.toList=f.toList;rotate_left
     · simp [go_sem,a,c,b]
     refine absurd ?_ j;have a:=dD a; subst a;subst c;have b:=dD b; subst b;rfl
   · by_cases a:e.toList=d.toList;rotate_left
     · simp [go_sem,a]
     by_cases c:i=g;rotate_left
     · simp [go_sem,a,c]
     by_cases b:h.toList=f.toList;rotate_left
     · simp [go_sem,a,c,b]
     refine absurd ?_ j;have a:=dD a; subst a;subst c;have b:=dD b; subst b;rfl
theorem uY (h g e c:ByteArray) (f d:Int):∃ t:Bool,(t=true↔(⟨h,e,f⟩:ak)=⟨g,c,d⟩)/\(∀ W,(binOp .neq 77 (.agg #[h,e,f]) (.agg #[g,c,d])).run Tryz.prog W = .ok (.bool (!t)) W)/\(∀ W,(binOp .eql 77 (.agg #[h,e,f]) (.agg #[g,c,d])).run Tryz.prog W = .ok (.bool t) W):=by
 by_cases j:(⟨h,e,f⟩:ak)=⟨g,c,d⟩
 · injection j with l m n;subst l; subst m; subst n;exact⟨true,⟨fun _=>rfl,fun _=>rfl⟩,fun W=>by simp [go_sem],fun W=>by simp [go_sem]⟩
 · refine⟨false,⟨fun k=>(by cases k),fun k=>absurd k j⟩,fun W=>?_,fun W=>?_⟩
   · by_cases a:h.toList=g.toList;rotate_left
     · simp [go_sem,a]
     by_cases b:e.toList=c.toList;rotate_left
     · simp [go_sem,a,b]
     by_cases i:f=d;rotate_left
     · simp [go_sem,a,b,i]
     refine absurd ?_ j;have a:=dD a; subst a;have b:=dD b; subst b;subst i;rfl
   · by_cases a:h.toList=g.toList;rotate_left
     · simp [go_sem,a]
     by_cases b:e.toList=c.toList;rotate_left
     · simp [go_sem,a,b]
     by_cases i:f=d;rotate_left
     · simp [go_sem,a,b,i]
     refine absurd ?_ j;have a:=dD a; subst a;have b:=dD b; subst b;subst i;rfl
def Ao (d:Type) (e:Nat) (f:d->List Value) (h:FuncId):Prop:=
 ∀ (xs a:List d) (A b:Option Addr) (n m c g:Nat) (w:World) (k:bg w w e A n (au f xs)) (l:bg w w e b m (au f a)) (o:xs.length=n) (p:a.length=m) (j:n<=9223372036854775807) (i:m<=9223372036854775807),ψ h #[.slice A n c,.slice b m g] w (xO xs a w)
theorem Ap:Ao aC 5 aS 111 /\ Ao av 3 aH 112 /\ Ao ak 3 aB 113:=by
 refine⟨@fun T U A A' q ab af c' ae O P Y Z hn hm=>(fun(b:Unit)=>?_) (),@fun T U A A' q ab af c' ae O P Y Z hn hm=>(fun(d:Unit)=>?_) (),@fun T U A A' q ab af c' ae O P Y Z hn hm=>(fun(Q:Unit)=>?_) ()⟩<;>(
 first|(guard_hyp b;have aa:=@aU)|(guard_hyp d;have aa:=@aO)|(have aa:=@aI)
 by_cases h:q=ab
 · subst h;have h0:((q:Int) != q)=false:=by simp
   have Lx:=ω Y;have Ly:=ω Z;clear Y Z
   first|(guard_hyp b;go_enter Tryz.func111,Tryz.ntmps111)|(guard_hyp d;go_enter Tryz.func112,Tryz.ntmps112)|go_enter Tryz.func113,Tryz.ntmps113
   go_wp2
   go_loopw [5,6,14] (fun _ _ ad wr=>Id T U q ae ad wr) (fun _ _ ad _=>q - (intOf ad).toNat)
   case atStart=>exact⟨0,Nat.zero_le _,rfl,rfl,θ⟩
   case round=>
    obtain⟨k,hk,rfl,he,u⟩:=hrel;have He:=ω he;clear he;by_cases hlt:k<q
    · obtain⟨x,o⟩:∃ x,T[k]? = some x:=⟨_,δ (by rw [Lx.z]; exact hlt)⟩;obtain⟨y,p⟩:∃ y,U[k]? = some y:=⟨_,δ (by rw [Ly.z]; exact hlt)⟩;obtain⟨e,l,rfl,al,i⟩:=(O.below u).dL aa Lx.z o;obtain⟨g,m,rfl,xB,j⟩:=(P.below u).dL aa Ly.z p
      first
       |(
        guard_hyp b
        obtain⟨a,v,w,s,E⟩:=x;obtain⟨c,I,J,H,R⟩:=y)
       |(
        guard_hyp d
        obtain⟨a,B,z⟩:=x;obtain⟨c,L,K⟩:=y)
       |(
        guard_hyp Q
        obtain⟨F,C,D⟩:=x;obtain⟨S,M,N⟩:=y)
      first|(guard_hyp b;have c0:ζ wr e (l+k*5) (.string a):=i 0 _ rfl)|(guard_hyp d;have c0:ζ wr e (l+k*3) (.string a):=i 0 _ rfl)|have c0:ζ wr e (l+k*3) (.string F):=i 0 _ rfl
      first|(guard_hyp b;have d0:ζ wr g (m+k*5) (.string c):=j 0 _ rfl)|(guard_hyp d;have d0:ζ wr g (m+k*3) (.string c):=j 0 _ rfl)|have d0:ζ wr g (m+k*3) (.string S):=j 0 _ rfl
      first
       |(
        guard_hyp b
        have c1:ζ wr e (l+k*5+1) (.int .i64 v):=i 1 _ rfl;have d1:ζ wr g (m+k*5+1) (.int .i64 I):=j 1 _ rfl;have c2:ζ wr e (l+k*5+2) (.int .i64 w):=i 2 _ rfl;have d2:ζ wr g (m+k*5+2) (.int .i64 J):=j 2 _ rfl)
       |(
        guard_hyp Q
        have c1:ζ wr e (l+k*3+1) (.string C):=i 1 _ rfl;have d1:ζ wr g (m+k*3+1) (.string M):=j 1 _ rfl)
       |skip
      first|(guard_hyp b;have c3:ζ wr e (l+k*5+3) (.int .i64 s):=i 3 _ rfl)|(guard_hyp d;have c1:ζ wr e (l+k*3+1) (.int .i64 B):=i 1 _ rfl)|have c2:ζ wr e (l+k*3+2) (.int .i64 D):=i 2 _ rfl
      first|(guard_hyp b;have d3:ζ wr g (m+k*5+3) (.int .i64 H):=j 3 _ rfl)|(guard_hyp d;have d1:ζ wr g (m+k*3+1) (.int .i64 L):=j 1 _ rfl)|have d2:ζ wr g (m+k*3+2) (.int .i64 N):=j 2 _ rfl
      first
       |(
        guard_hyp b
        have c4:ζ wr e (l+k*5+4) (.string E):=i 4 _ rfl;have d4:ζ wr g (m+k*5+4) (.string R):=j 4 _ rfl)
       |(
        guard_hyp d
        have c2:ζ wr e (l+k*3+2) (.string z):=i 2 _ rfl;have d2:ζ wr g (m+k*3+2) (.string K):=j 2 _ rfl)
       |skip
      have ap:=u.size;have am:e<wr.heap.size:=by omega
      have ao:g<wr.heap.size:=by omega
      have G:=ω u;have ai:=ω o;have aj:=ω p
      first
       |(
        guard_hyp b
        have r:=ω ((G.alloc G.size (.cells #[a,v,w,s,E] 86)).drew);have step:=ω (fun (h:(⟨a,v,w,s,E⟩:aC)=⟨c,I,J,H,R⟩)=>iC (o.trans (congrArg some h)) p He.z);have ac:=ω (fun (h:(⟨a,v,w,s,E⟩:aC)≠⟨c,I,J,H,R⟩)=>nC o p h))
       |(
        guard_hyp d
        have r:=ω ((G.alloc G.size (.cells #[a,B,z] 81)).drew);have step:=ω (fun (h:(⟨a,B,z⟩:av)=⟨c,L,K⟩)=>iC (o.trans (congrArg some h)) p He.z);have ac:=ω (fun (h:(⟨a,B,z⟩:av)≠⟨c,L,K⟩)=>nC o p h))
       |(
        guard_hyp Q
        have r:=ω ((G.alloc G.size (.cells #[F,C,D] 77)).drew);have step:=ω (fun (h:(⟨F,C,D⟩:ak)=⟨S,M,N⟩)=>iC (o.trans (congrArg some h)) p He.z);have ac:=ω (fun (h:(⟨F,C,D⟩:ak)≠⟨S,M,N⟩)=>nC o p h))
      clear i j O P o p u
      first
       |(
        guard_hyp b
        obtain⟨t,X,n,-⟩:=An a c E R v I w J s H)
       |(
        guard_hyp d
        obtain⟨t,X,n,-⟩:=xP a c z K B L)
       |(
        guard_hyp Q
        obtain⟨t,X,n,-⟩:=uY F S C M D N)
      have HT:=ω X;cases t
      · have Aq:=ω (ac.z (fun h=>absurd (HT.z.2 h) (by decide)))
        first
         |(
          guard_hyp b
          have V:∀ W,(binOp .neq 86 (.agg #[a,v,w,s,E]) (.agg #[c,I,J,H,R])).run Tryz.prog W = .ok (.bool true) W:=n)
         |(
          guard_hyp d
          have V:∀ W,(binOp .neq 81 (.agg #[a,B,z]) (.agg #[c,L,K])).run Tryz.prog W = .ok (.bool true) W:=n)
         |(
          guard_hyp Q
          have V:∀ W,(binOp .neq 77 (.agg #[F,C,D]) (.agg #[S,M,N])).run Tryz.prog W = .ok (.bool true) W:=n)
        clear X n step;go_wp2
        go_region
        go_wp2;go_ret;exact⟨false,rfl,⟨fun h=>(by cases h),fun h=>absurd h Aq.z⟩,r⟩
      · have ah:=ω (step.z (HT.z.1 rfl))
        first
         |(
          guard_hyp b
          have V:∀ W,(binOp .neq 86 (.agg #[a,v,w,s,E]) (.agg #[c,I,J,H,R])).run Tryz.prog W = .ok (.bool false) W:=n)
         |(
          guard_hyp d
          have V:∀ W,(binOp .neq 81 (.agg #[a,B,z]) (.agg #[c,L,K])).run Tryz.prog W = .ok (.bool false) W:=n)
         |(
          guard_hyp Q
          have V:∀ W,(binOp .neq 77 (.agg #[F,C,D]) (.agg #[S,M,N])).run Tryz.prog W = .ok (.bool false) W:=n)
        clear X n ac;go_wp2
        go_region
        go_wp2
        go_roundw
        case rel=>exact⟨k+1,by omega,by go_num,ah,r⟩
        case measure=>simp [intOf]; omega
    · have r:=ω u
      have same:=ω (show T=U by
       have ag:=He.z;rwa [List.take_of_length_le (by rw [Lx.z]; omega),List.take_of_length_le (by rw [Ly.z]; omega)] at ag)
      clear u O P;go_wp2;go_ret;exact⟨true,rfl,⟨fun _=>same.z,fun _=>rfl⟩,r⟩
 · have h0:((q:Int) != ab)=true:=by simp; omega
   have r:=ω (show T≠U by rintro rfl; omega);clear Y Z O P
   first|(guard_hyp b;go_enter Tryz.func111,Tryz.ntmps111)|(guard_hyp d;go_enter Tryz.func112,Tryz.ntmps112)|go_enter Tryz.func113,Tryz.ntmps113
   go_wp2;go_ret;exact⟨false,rfl,⟨fun h=>(by cases h),fun h=>absurd h r.z⟩,θ⟩)
def DV (xs:List ak) (s:ByteArray) (w:World) (e:Ending) (w':World):Prop:=
 ∃ i:Int,e = .returned (.int .i64 i)/\Below w w w'/\((i = -1/\cE xs s=none)\/∃ (k:Nat) (x:ak),i=(k:Int)/\xs[k]? = some x/\cE xs s=some x)
def FN (xs:List ak) (s:ByteArray) (n:Nat) (w:World) (i:Value) (wr:World):Prop:=∃ k:Nat,k<=n/\i = .int .i64 k/\(xs.take k).find? (fun x=>decide (x.job=s))=none/\Below w w wr
theorem pZ (xs:List ak) (s:ByteArray) (A:Option Addr) (n c:Nat) (w:World) (l:bg w w 3 A n (au aB xs)) (q:xs.length=n) (E:n<=9223372036854775807) :
 ψ 106 #[.slice A n c,s] w (DV xs s w):=by
 have g:=ω q;clear q;go_enter Tryz.func106,Tryz.ntmps106;go_wp2
 go_loopw [4,5,6,9] (fun _ _ _ m wr=>FN xs s n w m wr) (fun _ _ _ m _=>n - (intOf m).toNat)
 case atStart=>exact⟨0,Nat.zero_le _,rfl,by simp,θ⟩
 case round=>
  obtain⟨k,C,rfl,r,b⟩:=hrel;have h:=ω r;have d:=ω b;have F:=b.size;clear r;by_cases hlt:k<n
  · obtain⟨x,i⟩:∃ x,xs[k]? = some x:=⟨_,δ (by rw [g.z]; exact hlt)⟩;obtain⟨u,G,rfl,B,p⟩:=(l.below b).dL aI g.z i;have e:=ω i;obtain⟨job,node,y⟩:=x;obtain⟨c0,z,c2⟩:=rc3 p;clear p i l b;have D:u<wr.heap.size:=by omega
    have o:=ω (d.alloc d.size (.cells #[job,node,y] 77));by_cases j:job=s
    · subst j;have v:=qD job;have a:=ω (zU h.z e.z (by simp));go_wp2;go_ret;exact⟨_,rfl,o,.inr ⟨k,_,rfl,e,a⟩⟩
    · have v:=sJ j;have a:=ω (xC h.z e.z (by simp [j]));go_wp2
      go_roundw
      case rel=>exact⟨k+1,by omega,by go_num,a,o⟩
      case measure=>simp [intOf]; omega
  · have a:=ω (zV h.z (by rw [g.z]; omega));clear l;go_wp2;go_ret;exact⟨_,rfl,d,.inl ⟨rfl,a⟩⟩
def KA (xs:List ByteArray):Prop:=∀ x ∈ xs,x.size<=9223372036854775807
theorem gA.keep {w w':World} {base g:Nat} {l:List UInt8} (h:gA w base g l) (a:dF base g w w'):Below base w w':=a.below h.at_.1 h.size
def fY {α:Type} (enc:α->List UInt8) (xs:List α):List UInt8:=bf xs.length ++ xs.flatMap enc
theorem iT {α:Type} {enc:α->List UInt8} (h:∀ x,(enc x).length<=85):∀ xs:List α,(xs.flatMap enc).length<=85*xs.length
 | []=>by simp
 | x :: xs=>by
  have:=iT h xs;have:=h x;rw [List.flatMap_cons,List.length_append,List.length_cons]; omega
theorem iU {α:Type} (enc:α->List UInt8) {xs:List α} {k:Nat} {x:α} (h:xs[k]? = some x):(xs.take (k+1)).flatMap enc=(xs.take k).flatMap enc ++ enc x:=by
 rw [List.take_add_one,h]; simp
def tS {α:Type} (enc:α->List UInt8) (xs:List α) (n:Nat) (base g:Nat) (l:List UInt8) (w:World) (i:Value) (wr:World):Prop:=
 ∃ k:Nat,k<=n/\i = .int .i64 k/\gA wr base g (l ++ bf n ++ (xs.take k).flatMap enc)/\dF base g w wr
theorem Qr.of {s:ByteArray} (h:s.size<=9223372036854775807):s.size<=9223372036854775807:=h
theorem xQ (base g p:Nat) (l:List UInt8) (xs:List ak) (A:Option Addr) (n c:Nat) (w:World) (y:bg w base 3 A n (au aB xs)) (e:xs.length=n) (hn:n<=1000000) (v:∀ x ∈ xs,uZ x) (h:gA w base g l) (ac:l.length<=1000000) :
 ψ 169 #[π g 0,.slice A n c,.func (.func 170) #[π g 0] #[]] w (iJ base g (l ++ fY eH xs) w):=by
 have C:∀ k,((xs.take k).flatMap eH).length<=85*n:=fun k=>by
  have h1:=iT (enc:=eH) (fun x=>ku _) (xs.take k);have h2:(xs.take k).length<=n:=by rw [List.length_take]; omega
  omega
 have U:=bT n;have J:=ω (show ∀ k,(l ++ bf n ++ (xs.take k).flatMap eH).length<=90000000 from fun k=>by have:=C k; simp only [List.length_append]; omega);have S:=ω (show l ++ fY eH xs=l ++ bf n ++ (xs.take n).flatMap eH from by unfold fY; rw [<- e,List.take_length,List.append_assoc]);have E:=ω (p8 base g l (n:Int) w (by omega) h (by omega));have M:=ω v;have o:=ω e;have N:=ω y;have K:=ω h;clear v e y h C U;go_enter Tryz.func169,Tryz.ntmps169
 go_wp2_with fail
 refine E.mono ?_;rintro T w0 ⟨rfl,ok0,z⟩;rw [show ((n:Int)).toNat=n from by omega] at ok0;have P:=ω ok0;have O:=ω z;clear ok0 z;go_wp2
 go_loopw [7,14] (fun _ j wr=>tS eH xs n base g l w j wr) (fun _ j _=>n - (intOf j).toNat)
 case atStart=>exact⟨0,Nat.zero_le _,rfl,by simpa using P.z,O⟩
 case round=>
  obtain⟨k,hk,rfl,i,d⟩:=hrel;have q:=ω i;have m:=ω d;have ad:=i.size;have r:=K.keep d;clear i d;by_cases hlt:k<n
  · obtain⟨x,a⟩:∃ x,xs[k]? = some x:=⟨_,δ (by rw [o.z]; exact hlt)⟩;obtain⟨R,ae,rfl,aa,u⟩:=(N.below r).dL aI o.z a;have V:=ω (M.z x (m8 a));have L:=ω (iU eH a);obtain⟨X,s⟩:∃ X,X=x:=⟨_,rfl⟩;have Y:=ω s;obtain⟨job,node,D⟩:=x;obtain⟨c0,Z,c2⟩:=rc3 u;clear u a s r;have ab:R<wr.heap.size:=by omega
    have b:Below wr wr (χ wr #[job,node,D] 77):=(θ).alloc lQ _;have G:=ω b;have F:=ω (q.below b);have I:=ω (J.z k);clear b
    go_wp2_with fail
    refine Calls.mono (FO base g _ ⟨job,node,D⟩ _ V.z F.z I.z) ?_;rintro T W ⟨rfl,ok1,B⟩;have H:=ω (m.trans ((dF.of_below G.z).trans B));have Q:=ω (show gA W base g (l ++ bf n ++ (xs.take (k+1)).flatMap eH) from by rw [L.z,<- List.append_assoc]; exact ok1);clear ok1 B;go_wp2
    go_roundw
    case rel=>exact⟨k+1,by omega,by go_num,Q,H⟩
    case measure=>simp [intOf]; omega
  · obtain rfl:k=n:=by omega
    go_wp2;go_end0;exact⟨rfl,by rw [S.z]; exact q.z,m⟩
theorem xR (n:Nat):(bf n).length<=4000:=by have:=dR n; omega
theorem gU {α:Type} {enc:α->List UInt8} {xs:List α} (h:∀ x,(enc x).length<=85) (c:xs.length<=40):(fY enc xs).length<=4000:=by
 have a:=iT h xs;have b:=bT xs.length;unfold fY;rw [List.length_append]; omega
theorem u7 (x:ByteArray):(dU x).length<=85:=by have:=dw x; omega
theorem gA.new {w:World} {base:Nat} (e:Tabs w) (c:ren.g 3<base) (d:ren.g 4<base) (a:base<=w.heap.size):gA (χ w #[.slice none 0 0] 239) base w []:=
 have b:Below w w (χ w #[.slice none 0 0] 239):=(θ).alloc lQ _
 ⟨⟨a,none,0,0,n5 w _,World.ownsRow_nil _ _ _ _⟩,e.below b,c,d,v6 a b.size⟩
theorem Tabs.lt {w:World} (h:Tabs w):ren.g 3<w.heap.size/\ren.g 4<w.heap.size:=by
 have lt:∀ {a:Addr} {v:Value},w.cell? a=some v->a.block<w.heap.size:=fun {a v} c=>by
  rcases Nat.lt_or_ge a.block w with b | b
  · exact b
  · simp [World.cell?,Array.getElem?_eq_none b] at c
 exact⟨lt (h.1 0 (by decide)),lt (h.2 0 (by decide)).1⟩
theorem DL (v k:Int) (p:ByteArray) (w:World) :
 ψ 62 #[.agg #[v,k,p]] w (gY v k p w):=by
 by_cases n:v<1\/3<v
 · have b:=ω (fun (a:World)=>gY.arg (v:=v) (k:=k) (p:=p) (w:=w) (w':=a) (by omega));have H:=ω n;clear n;go_enter Tryz.func62,Tryz.ntmps62
   go_wp2_with (go_at_call 20; refine (eC _ _ _ H.z _).mono ?_; rintro e a ⟨rfl,rfl⟩)
   go_ret2;exact b.z _ ((θ).alloc lQ _)
 have o:1<=v:=by omega
 have q:v<=3:=by omega
 clear n;by_cases m:k<1\/4<k
 · have b:=ω (fun (a:World)=>gY.arg (v:=v) (k:=k) (p:=p) (w:=w) (w':=a) (by omega));have G:=ω m;clear m;go_enter Tryz.func62,Tryz.ntmps62
   go_wp2_with fail
   refine Calls.mono (dh _ _ _ o q _) ?_;rintro e a ⟨rfl,rfl⟩
   go_wp2_with fail
   refine Calls.mono (eC _ _ _ G.z _) ?_;rintro e a ⟨rfl,rfl⟩;go_wp2;go_ret2;exact b.z _ ((θ).alloc lQ _)
 have D:1<=k:=by omega
 have E:k<=4:=by omega
 clear m;by_cases F:6000<p.size
 · have b:=ω (fun (a:World)=>gY.large (v:=v) (k:=k) (p:=p) (w:=w) (w':=a) (by omega) F);go_enter Tryz.func62,Tryz.ntmps62
   go_wp2_with fail
   refine Calls.mono (dh _ _ _ o q _) ?_;rintro e a ⟨rfl,rfl⟩
   go_wp2_with fail
   refine Calls.mono (dh _ _ _ D E _) ?_;rintro e a ⟨rfl,rfl⟩;go_wp2;go_ret2;exact b.z _ ((θ).alloc lQ _)
 have Z:IntKind.u64.wrap v=v:=by rw [IntKind.wrap_u64]; omega
 have X:IntKind.u64.wrap k=k:=by rw [IntKind.wrap_u64]; omega
 have Y:IntKind.u64.wrap (p.size:Int)=p.size:=by rw [IntKind.wrap_u64]; omega
 have O:=(dR p.size).2;have T:¬ 9223372036854775807<4+(bf p.size).length:=by omega
 have c2:¬ 9223372036854775807<4+(bf p.size).length+p.size:=by omega
 have u:=ω (DW v.toNat k.toNat p.data.toList);have b:=ω (fun (s:ByteArray) (a:World)=>gY.ok (v:=v) (k:=k) (p:=p) (w:=w) (w':=a) (s:=s) (by omega) F);have I:=ω (show ((p.size:Int)).toNat<128 ^ 10 from by omega);clear O;go_enter Tryz.func62,Tryz.ntmps62
 go_wp2_with fail
 refine Calls.mono (dh _ _ _ o q _) ?_;rintro e a ⟨rfl,rfl⟩
 go_wp2_with fail
 refine Calls.mono (dh _ _ _ D E _) ?_;rintro e a ⟨rfl,rfl⟩
 go_wp2_with fail
 generalize g:w.alloc (.cells #[v,k,p] 69)=c;have B:Below w w c:=by rw [<- g]; exact (θ).alloc lQ _
 have g0:ζ c w 0 (.int .i64 v):=by rw [<- g]; simp [go_sem]
 have x:ζ c w 1 (.int .i64 k):=by rw [<- g]; simp [go_sem]
 have y:ζ c w 2 (.string p):=by rw [<- g]; simp [go_sem]
 have K:=fun d h=>cell_regrown g0 d h;have L:=fun d h=>cell_regrown x d h;have M:=fun d h=>cell_regrown y d h;have j:=ω B;clear g g0 x y B;refine wp_region_quiet_below (by kernel_rfl) (by kernel_rfl) ?_
 repeat (quiet_step ((first | (go_at_call 127; exact Calls.regrown_of (p9 _ _ (by omega) (by omega))) | (go_at_call 122; exact Calls.regrown_of (qc 10 _ _ (by omega) (by omega) I.z (by omega))))))
 refine wpQuiet_nil ?_;intro _ P;obtain⟨⟨nq,osq⟩,hw''⟩:=P;subst hw'';have i:=j.trans ((below_regrown c nq osq).mono j.size);clear K L M j;generalize grow (redrawn c nq) osq=Q at i;clear c;obtain⟨S,l⟩:∃ S:ByteArray,S=(({ data:=#[66,75] } ++ { data:=#[UInt8.ofNat v.toNat] } ++ { data:=#[UInt8.ofNat k.toNat] } ++ { data:=(bf p.size).toArray } ++ p):ByteArray):=⟨_,rfl⟩;rw [<- l]
 have r:=ω (show S.data.toList=BJ v.toNat k.toNat p.data.toList from by
  rw [l];simp only [ByteArray.toList_data_append,BJ];have e:p.data.toList.length=p.size:=by rw [Array.length_toList]; rfl
  rw [e]; simp)
 have V:S.size<=6015:=by
  have N:=u.z;rw [<- r.z] at N;have e:p.data.toList.length=p.size:=by rw [Array.length_toList]; rfl
  have U:S.data.toList.length=S.size:=by rw [Array.length_toList]; rfl
  omega
 clear l u
 go_wp2_with fail
 refine Calls.mono (BZ S Q (by omega)) ?_;rintro e R ⟨rfl,C⟩;have z:=i.trans (C.mono i.size);clear i C;have W:(pC S.data.toList).length<=4:=Nat.le_refl 4;have J:=ω (b.z (S ++ ⟨(pC S.data.toList).toArray⟩) R (by rw [ByteArray.toList_data_append,r.z]; rfl) z);clear b z;go_wp2;go_ret2;exact J
structure TwoW (w w':World) (a b:Nat):Prop where
 os:w'.os=w.os
 tape:w'.tape=w.tape
 output:w'.output=w.output
 size:w.heap.size<=w'.heap.size
 block:∀ k,k<w.heap.size->k≠a->k≠b->w'.heap[k]? = w.heap[k]?
theorem TwoW.fst {w u v:World} {a b:Nat} (h:TwoW w u a b) (c:u.grownBy v (some a)):TwoW w v a b:=
 ⟨c.os.trans h.os,c.tape.trans h.tape,c.output.trans h.output,v6 h.size c.size,fun k e d f=>(c.block k (uI e h.size) (by simp; exact d)).trans (h.block k e d f)⟩
theorem TwoW.snd {w u v:World} {a b:Nat} (h:TwoW w u a b) (c:u.grownBy v (some b)):TwoW w v a b:=
 ⟨c.os.trans h.os,c.tape.trans h.tape,c.output.trans h.output,v6 h.size c.size,fun k e f d=>(c.block k (uI e h.size) (by simp; exact d)).trans (h.block k e f d)⟩
theorem TwoW.refl (w:World) (a b:Nat):TwoW w w a b:=⟨rfl,rfl,rfl,lQ,fun _ _ _ _=>rfl⟩
theorem TwoW.below {w0 w u:World} {a b:Nat} (h:TwoW w u a b) (c:Below w0 w0 w) (e:w0.heap.size<=a) (f:w0.heap.size<=b):Below w0 w0 u:=
 ⟨h.os.trans c.os,h.tape.trans c.tape,h.output.trans c.output,v6 c.size h.size,fun k d=>(h.block k (uI d c.size) (by omega) (by omega)).trans (c.block k d)⟩
end Go.Proofs.YtimglglgcgpjgabGreatDoor
