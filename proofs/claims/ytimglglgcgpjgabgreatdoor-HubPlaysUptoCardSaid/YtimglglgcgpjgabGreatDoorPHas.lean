/- Of the proof of a statement: HasF, Has, SlEq. -/
import Derived.Test.YtimglglgcgpjgabGreatDoorPEqRows
set_option linter.unusedVariables false
set_option linter.unusedSimpArgs false
set_option maxRecDepth 100000
set_option maxHeartbeats 8000000
namespace Go.Proofs.YtimglglgcgpjgabGreatDoor
open Go.RowKit
def B7 (a:Type) (e:Nat) (d:a->List Value) (f:FuncId):Prop:=
 ∀ (p:a->Bool) (F:FuncId) (b:Array Value) (xs:List a) (A:Option Addr) (n c:Nat) (w:World) (g:∀ args w,(callFunc F args).run Tryz.prog w = .ok (.enter F args) w) (k:bg w w e A n (au d xs)) (h:xs.length=n) (i:n<=9223372036854775807) (j:jX p F b d xs w),ψ f #[.slice A n c,.func (.func F) #[] b] w (Am p xs w)
theorem B8:B7 aC 5 aS 228 /\ B7 av 3 aH 230:=by
 refine⟨@fun v F l w A n K H M g o N p=>(fun(s:Unit)=>?_) (),@fun v F l w A n K H M g o N p=>(fun(O:Unit)=>?_) ()⟩<;>(
 first|(guard_hyp s;have G:=@aU)|(have G:=@aO)
 have i:=ω o;have I:=ω p;clear o p
 first|(guard_hyp s;go_enter Tryz.func228,Tryz.ntmps228)|go_enter Tryz.func230,Tryz.ntmps230
 go_wp2
 go_loopw [4,5,8,16] (fun _ _ r _ wr=>yU v w n H r wr) (fun _ _ r _ _=>n - (intOf r).toNat)
 case atStart=>exact⟨0,Nat.zero_le _,rfl,by simp,θ⟩
 case round=>
  obtain⟨k,X,rfl,E,c⟩:=hrel;have C:=ω E;have h:=ω c;have Z:=c.size;clear E;by_cases hlt:k<n
  · obtain⟨x,d⟩:∃ x,w[k]? = some x:=⟨_,δ (by rw [i.z]; exact hlt)⟩;obtain⟨J,aa,rfl,W,m⟩:=(g.below c).dL G i.z d;have z:=ω d;have a:=ω (I.z wr c x (m8 d));obtain⟨t,q⟩:∃ t,v x=t:=⟨_,rfl⟩;rw [q] at a;have B:=ω q
    first
     |(
      guard_hyp s
      obtain⟨u,Q,P,T,S⟩:=x;obtain⟨c0,L,c2,V,c4⟩:=rc5 m;have a:=ω (show ψ F (#[.agg #[u,Q,P,T,S]] ++ l) wr fun e j=>e = .returned (.bool t)/\Below wr wr j from a.z))
     |(
      guard_hyp O
      obtain⟨u,R,U⟩:=x;obtain⟨c0,L,c2⟩:=rc3 m;have a:=ω (show ψ F (#[.agg #[u,R,U]] ++ l) wr fun e j=>e = .returned (.bool t)/\Below wr wr j from a.z))
    clear m d g c q;have Y:J<wr.heap.size:=by omega
    go_wp2_with fail
    refine a.mono ?_;rintro e w2 ⟨rfl,D⟩;have y:=ω (h.trans (D.mono h.size));clear a D;cases t
    · have b:=ω (sR z.z C.z B.z);go_wp2
      go_roundw
      case rel=>exact⟨k+1,by omega,by go_num,b,y⟩
      case measure=>simp [intOf]; omega
    · have b:=ω (wA z.z B.z);go_wp2;go_ret;exact⟨_,rfl,y,.inr ⟨by omega,b⟩⟩
  · have b:=ω (CP C.z (by rw [i.z]; omega));clear g;go_wp2;go_ret;exact⟨_,rfl,h,.inl ⟨rfl,b⟩⟩)
def AM (a:Type) (f:Nat) (d:a->List Value) (g:FuncId):Prop:=
 ∀ (p:a->Bool) (F:FuncId) (b:Array Value) (xs:List a) (A:Option Addr) (n c:Nat) (w:World) (i:∀ args w,(callFunc F args).run Tryz.prog w = .ok (.enter F args) w) (m:bg w w f A n (au d xs)) (j:xs.length=n) (k:n<=9223372036854775807) (l:jX p F b d xs w),ψ g #[.slice A n c,.func (.func F) #[] b] w fun e h=>e = .returned (.bool (xs.any p))/\Below w w h
theorem Aj:AM aC 5 aS 192 /\ AM av 3 aH 195:=by
 refine⟨@fun p F h l A n g w b e c a d=>(fun(j:Unit)=>?_) (),@fun p F h l A n g w b e c a d=>?_⟩<;>(
 first|(guard_hyp j;have k:=@B8.1)|(have k:=@B8.2)
 have m:=ω (k p F h l A n g w b e c a d);clear e c a d b
 first|(guard_hyp j;go_enter Tryz.func192,Tryz.ntmps192)|go_enter Tryz.func195,Tryz.ntmps195
 go_wp2_with fail
 refine m.mono ?_;rintro t u ⟨r,rfl,i,o⟩;rcases o with ⟨rfl,a⟩ | ⟨q,a⟩
 · go_wp2;go_ret;exact⟨bA a.symm,i⟩
 · have s:decide (0<=r)=true:=t7 q;go_wp2;go_ret;exact⟨bA a.symm,i⟩)
noncomputable def eqB {α:Type} (x y:α):Bool:=@decide (x=y) (Classical.propDecidable _)
theorem Ik {α:Type} {x y:α}:eqB x y=true↔x=y:=by unfold eqB; exact @decide_eq_true_iff _ (Classical.propDecidable _)
theorem OQ {α:Type} {x y:α} {t:Bool} (h:t=true↔x=y):eqB x y=t:=by
 cases t with
 | true=>exact Ik.2 (h.1 rfl)
 | false=>
  cases a:eqB x y with
  | false=>rfl
  | true=>exact absurd (h.2 (Ik.1 a)) (by decide)
theorem oW :
 (∀ (v:aC) (xs:List aC) (A:Option Addr) (n c:Nat) (w:World) (u:bg w w 5 A n (au aS xs)) (s:xs.length=n) (E:n<=9223372036854775807),ψ 227 #[.slice A n c,.agg (aS v).toArray] w (Am (eqB v) xs w)) /\
 (∀ (v:aC) (xs:List aC) (A:Option Addr) (n c:Nat) (w:World) (u:bg w w 5 A n (au aS xs)) (s:xs.length=n) (E:n<=9223372036854775807),ψ 114 #[.slice A n c,.agg (aS v).toArray] w fun S w'=>S = .returned (.bool (xs.any (eqB v)))/\Below w w w') /\
 (∀ (v:av) (xs:List av) (A:Option Addr) (n c:Nat) (w:World) (u:bg w w 3 A n (au aH xs)) (s:xs.length=n) (E:n<=9223372036854775807),ψ 229 #[.slice A n c,.agg (aH v).toArray] w (Am (eqB v) xs w)) /\
 (∀ (v:av) (xs:List av) (A:Option Addr) (n c:Nat) (w:World) (u:bg w w 3 A n (au aH xs)) (s:xs.length=n) (E:n<=9223372036854775807),ψ 115 #[.slice A n c,.agg (aH v).toArray] w fun S w'=>S = .returned (.bool (xs.any (eqB v)))/\Below w w w') /\
 (∀ (v:ak) (xs:List ak) (A:Option Addr) (n c:Nat) (w:World) (u:bg w w 3 A n (au aB xs)) (s:xs.length=n) (E:n<=9223372036854775807),ψ 231 #[.slice A n c,.agg (aB v).toArray] w (Am (eqB v) xs w)) /\
 (∀ (v:ak) (xs:List ak) (A:Option Addr) (n c:Nat) (w:World) (u:bg w w 3 A n (au aB xs)) (s:xs.length=n) (E:n<=9223372036854775807),ψ 116 #[.slice A n c,.agg (aB v).toArray] w fun S w'=>S = .returned (.bool (xs.any (eqB v)))/\Below w w w'):=by
 refine⟨@fun v xs A n c w u s E=>(fun(G ae O:Unit)=>?_) () () (),@fun v xs A n c w u s E=>(fun(G ac C6:Unit)=>?_) () () (),@fun v xs A n c w u s E=>(fun(H af O:Unit)=>?_) () () (),@fun v xs A n c w u s E=>(fun(H ad C6:Unit)=>?_) () () (),@fun v xs A n c w u s E=>(fun(K ag O:Unit)=>?_) () () (),@fun v xs A n c w u s E=>(fun(K ah C6:Unit)=>?_) () () ()⟩<;>(
 first|(guard_hyp G;have ai:=@aU)|(guard_hyp H;have ai:=@aO)|(have ai:=@aI)
 have Hl:=ω s;have Hx:=ω u;clear s u
 first
  |(
   guard_hyp G
   obtain⟨a,g,h,e,q⟩:=v;rw [show (Value.agg (aS ⟨a,g,h,e,q⟩).toArray) = .agg #[a,g,h,e,q] from rfl];have ab:=ω (show Below w w (χ w #[a,g,h,e,q] 86) from (θ).alloc lQ _);have aa:=ω (show Blk (χ w #[a,g,h,e,q] 86) w 86 #[a,g,h,e,q] from n5 w _))
  |(
   guard_hyp H
   obtain⟨a,j,l⟩:=v;rw [show (Value.agg (aH ⟨a,j,l⟩).toArray) = .agg #[a,j,l] from rfl];have ab:=ω (show Below w w (χ w #[a,j,l] 81) from (θ).alloc lQ _);have aa:=ω (show Blk (χ w #[a,j,l] 81) w 81 #[a,j,l] from n5 w _))
  |(
   guard_hyp K
   obtain⟨r,m,o⟩:=v;rw [show (Value.agg (aB ⟨r,m,o⟩).toArray) = .agg #[r,m,o] from rfl];have ab:=ω (show Below w w (χ w #[r,m,o] 77) from (θ).alloc lQ _);have aa:=ω (show Blk (χ w #[r,m,o] 77) w 77 #[r,m,o] from n5 w _))
 first|(guard_hyp ae;go_enter Tryz.func227,Tryz.ntmps227)|(guard_hyp ac;go_enter Tryz.func114,Tryz.ntmps114)|(guard_hyp af;go_enter Tryz.func229,Tryz.ntmps229)|(guard_hyp ad;go_enter Tryz.func115,Tryz.ntmps115)|(guard_hyp ag;go_enter Tryz.func231,Tryz.ntmps231)|go_enter Tryz.func116,Tryz.ntmps116
 go_wp2
 first
  |(
   guard_hyp ae
   go_loopw [5,8] (fun _ i wr=>yU (eqB ⟨a,g,h,e,q⟩) xs n w i wr/\Blk wr w 86 #[a,g,h,e,q]) (fun _ i _=>n - (intOf i).toNat))
  |(
   guard_hyp ac
   go_loopw [6,9] (fun _ i wr=>yU (eqB ⟨a,g,h,e,q⟩) xs n w i wr/\Blk wr w 86 #[a,g,h,e,q]) (fun _ i _=>n - (intOf i).toNat))
  |(
   guard_hyp af
   go_loopw [5,8] (fun _ i wr=>yU (eqB ⟨a,j,l⟩) xs n w i wr/\Blk wr w 81 #[a,j,l]) (fun _ i _=>n - (intOf i).toNat))
  |(
   guard_hyp ad
   go_loopw [6,9] (fun _ i wr=>yU (eqB ⟨a,j,l⟩) xs n w i wr/\Blk wr w 81 #[a,j,l]) (fun _ i _=>n - (intOf i).toNat))
  |(
   guard_hyp ag
   go_loopw [5,8] (fun _ i wr=>yU (eqB ⟨r,m,o⟩) xs n w i wr/\Blk wr w 77 #[r,m,o]) (fun _ i _=>n - (intOf i).toNat))
  |(
   guard_hyp ah
   go_loopw [6,9] (fun _ i wr=>yU (eqB ⟨r,m,o⟩) xs n w i wr/\Blk wr w 77 #[r,m,o]) (fun _ i _=>n - (intOf i).toNat))
 case atStart=>exact⟨⟨0,Nat.zero_le _,rfl,by simp,ab⟩,aa⟩
 case round=>
  clear ab aa;obtain⟨⟨k,hk,rfl,aj,Z⟩,d⟩:=hrel;have fV:=ω aj;have b:=ω Z;have L:=ω d;have aq:=Z.size;have am:=d.lt;clear aj;by_cases hlt:k<n
  · obtain⟨y,hf⟩:∃ y,xs[k]? = some y:=⟨_,δ (by rw [Hl.z]; exact hlt)⟩;obtain⟨z,F,rfl,ao,B⟩:=(Hx.below Z).dL ai Hl.z hf;have N:=ω hf
    first
     |(
      guard_hyp G
      obtain⟨C,T,U,R,jf⟩:=y)
     |(
      guard_hyp H
      obtain⟨C,W,V⟩:=y)
     |(
      guard_hyp K
      obtain⟨jh,X,Y⟩:=y)
    first|(guard_hyp G;have c0:ζ wr z (F+k*5) (.string C):=B 0 _ rfl)|(guard_hyp H;have c0:ζ wr z (F+k*3) (.string C):=B 0 _ rfl)|have c0:ζ wr z (F+k*3) (.string jh):=B 0 _ rfl
    first
     |(
      guard_hyp K
      have d0:ζ wr w 0 (.string r):=d.cell 0;have c1:ζ wr z (F+k*3+1) (.string X):=B 1 _ rfl)
     |skip
    first|(guard_hyp K;have d1:ζ wr w 1 (.string m):=d.cell 1)|have d0:ζ wr w 0 (.string a):=d.cell 0
    first|(guard_hyp G;have c1:ζ wr z (F+k*5+1) (.int .i64 T):=B 1 _ rfl)|(guard_hyp H;have c1:ζ wr z (F+k*3+1) (.int .i64 W):=B 1 _ rfl)|have c2:ζ wr z (F+k*3+2) (.int .i64 Y):=B 2 _ rfl
    first|(guard_hyp G;have d1:ζ wr w 1 (.int .i64 g):=d.cell 1)|(guard_hyp H;have d1:ζ wr w 1 (.int .i64 j):=d.cell 1)|have d2:ζ wr w 2 (.int .i64 o):=d.cell 2
    first
     |(
      guard_hyp G
      have c2:ζ wr z (F+k*5+2) (.int .i64 U):=B 2 _ rfl;have d2:ζ wr w 2 (.int .i64 h):=d.cell 2;have c3:ζ wr z (F+k*5+3) (.int .i64 R):=B 3 _ rfl;have d3:ζ wr w 3 (.int .i64 e):=d.cell 3;have c4:ζ wr z (F+k*5+4) (.string jf):=B 4 _ rfl;have d4:ζ wr w 4 (.string q):=d.cell 4;obtain⟨t,ht,-,al⟩:=An a C q jf g T h U e R)
     |(
      guard_hyp H
      have c2:ζ wr z (F+k*3+2) (.string V):=B 2 _ rfl;have d2:ζ wr w 2 (.string l):=d.cell 2;obtain⟨t,ht,-,al⟩:=xP a C l V j W)
     |(
      guard_hyp K
      obtain⟨t,ht,-,al⟩:=uY r jh m X o Y)
    have J:=OQ ht
    first
     |(
      guard_hyp G
      have Q:=ω (fun (D:t=true)=>wA (p:=eqB ⟨a,g,h,e,q⟩) N.z (J.trans D));have P:=ω (fun (D:t=false)=>sR (p:=eqB ⟨a,g,h,e,q⟩) N.z fV.z (J.trans D)))
     |(
      guard_hyp H
      have Q:=ω (fun (D:t=true)=>wA (p:=eqB ⟨a,j,l⟩) N.z (J.trans D));have P:=ω (fun (D:t=false)=>sR (p:=eqB ⟨a,j,l⟩) N.z fV.z (J.trans D)))
     |(
      guard_hyp K
      have Q:=ω (fun (D:t=true)=>wA (p:=eqB ⟨r,m,o⟩) N.z (J.trans D));have P:=ω (fun (D:t=false)=>sR (p:=eqB ⟨r,m,o⟩) N.z fV.z (J.trans D)))
    have ap:z<wr.heap.size:=by omega
    clear B hf Z d ht J;cases t
    · have I:=ω (P.z rfl);clear Q P
      first
       |(
        guard_hyp ae
        have x:=ω b.drew;have M:=ω (show Blk wr.drew w 86 #[a,g,h,e,q] from L.z);go_wp2
        go_region)
       |(
        guard_hyp ac
        have x:=ω (b.alloc b.size (.cells #[C,T,U,R,jf] 86));have M:=ω (L.alloc (.cells #[C,T,U,R,jf] 86)))
       |(
        guard_hyp af
        have x:=ω b.drew;have M:=ω (show Blk wr.drew w 81 #[a,j,l] from L.z);go_wp2
        go_region)
       |(
        guard_hyp ad
        have x:=ω (b.alloc b.size (.cells #[C,W,V] 81));have M:=ω (L.alloc (.cells #[C,W,V] 81)))
       |(
        guard_hyp ag
        have x:=ω b.drew;have M:=ω (show Blk wr.drew w 77 #[r,m,o] from L.z);go_wp2
        go_region)
       |(
        guard_hyp ah
        have x:=ω (b.alloc b.size (.cells #[jh,X,Y] 77));have M:=ω (L.alloc (.cells #[jh,X,Y] 77)))
      go_wp2
      go_roundw
      case rel=>exact⟨⟨k+1,by omega,by go_num,I,x⟩,M⟩
      case measure=>simp [intOf]; omega
    · have I:=ω (Q.z rfl);clear Q P
      first
       |(
        guard_hyp O
        have x:=ω b.drew)
       |(
        guard_hyp ac
        have x:=ω (b.alloc b.size (.cells #[C,T,U,R,jf] 86)))
       |(
        guard_hyp ad
        have x:=ω (b.alloc b.size (.cells #[C,W,V] 81)))
       |(
        guard_hyp ah
        have x:=ω (b.alloc b.size (.cells #[jh,X,Y] 77)))
      go_wp2
      first|(guard_hyp O;go_region)|go_ret
      first
       |(
        guard_hyp O
        go_wp2;go_ret;exact⟨_,rfl,x,.inr ⟨by omega,I⟩⟩)
       |(
        guard_hyp C6
        exact⟨bA I.symm,x⟩)
  · have I:=ω (CP fV.z (by rw [Hl.z]; omega));clear Z d;go_wp2;go_ret
    first
     |(
      guard_hyp O
      exact⟨_,rfl,b,.inl ⟨rfl,I⟩⟩)
     |(
      guard_hyp C6
      exact⟨bA I.symm,b⟩))
def xX (a:Type) (d:Nat) (b:a->List Value) (f:FuncId):Prop:=
 ∀ (v:a) (xs:List a) (A:Option Addr) (n c:Nat) (w:World) (j:bg w w d A n (au b xs)) (h:xs.length=n) (i:n<=9223372036854775807),ψ f #[.slice A n c,.agg (b v).toArray] w fun e g=>e = .returned (.bool (xs.any (eqB v)))/\Below w w g
theorem xN:xX aC 5 aS 191 /\ xX av 3 aH 194 /\ xX ak 3 aB 197:=by
 refine⟨@fun v p A o i w h g a=>(fun(j:Unit)=>?_) (),@fun v p A o i w h g a=>(fun(k:Unit)=>?_) (),@fun v p A o i w h g a=>(fun(H:Unit)=>?_) ()⟩<;>(
 first|(guard_hyp j;have l:Tg 12:=⟨⟩;have m:Tg 17:=⟨⟩;have n:=@oW.1)|(guard_hyp k;have l:Tg 14:=⟨⟩;have m:Tg 18:=⟨⟩;have n:=@oW.2.2.1)|(have l:Tg 16:=⟨⟩;have m:Tg 19:=⟨⟩;have n:=@oW.2.2.2.2.1)
 have e:Below w w (w.alloc (.cells (l v).toArray m)):=(θ).alloc lQ _;have b:=n v p A o i _ ((h.below e).more e.size) g a;have c:=ω e;have b:=ω b;clear h g a e
 first
  |(
   guard_hyp j
   obtain⟨d,s,t,r,B⟩:=v;rw [show (aS ⟨d,s,t,r,B⟩).toArray=#[.string d,.int .i64 s,.int .i64 t,.int .i64 r,.string B] from rfl] at b c |-)
  |(
   guard_hyp k
   obtain⟨d,u,x⟩:=v;rw [show (aH ⟨d,u,x⟩).toArray=#[.string d,.int .i64 u,.string x] from rfl] at b c |-)
  |(
   guard_hyp H
   obtain⟨C,y,z⟩:=v;rw [show (aB ⟨C,y,z⟩).toArray=#[.string C,.string y,.int .i64 z] from rfl] at b c |-)
 first|(guard_hyp j;go_enter Tryz.func191,Tryz.ntmps191)|(guard_hyp k;go_enter Tryz.func194,Tryz.ntmps194)|go_enter Tryz.func197,Tryz.ntmps197
 go_wp2_with fail
 refine b.mono ?_;rintro J K ⟨G,rfl,D,E⟩;have q:=ω (c.trans (D.mono c.size));rcases E with ⟨rfl,a⟩ | ⟨F,a⟩
 · go_wp2;go_ret;exact⟨bA a.symm,q⟩
 · have I:decide (0<=G)=true:=t7 F;go_wp2;go_ret;exact⟨bA a.symm,q⟩)
def AN (d:Type) (e:Nat) (f:d->List Value) (h:FuncId):Prop:=
 ∀ (xs a:List d) (A b:Option Addr) (n m c g:Nat) (w:World) (k:bg w w e A n (au f xs)) (l:bg w w e b m (au f a)) (o:xs.length=n) (p:a.length=m) (j:n<=9223372036854775807) (i:m<=9223372036854775807),ψ h #[.slice A n c,.slice b m g] w (xO xs a w)
theorem AK:AN aC 5 aS 152 /\ AN av 3 aH 153:=by
 refine⟨@fun L M A A' n Y ab c' aa I J O P hn hm=>(fun(a:Unit)=>?_) (),@fun L M A A' n Y ab c' aa I J O P hn hm=>(fun(K:Unit)=>?_) ()⟩<;>(
 first|(guard_hyp a;have V:=@aU;have X:Tg 9:=⟨⟩)|(have V:=@aO;have X:Tg 10:=⟨⟩)
 by_cases h:n=Y
 · subst h;have h0:((n:Int) != n)=false:=by simp
   have R:=ω O;have S:=ω P;clear O P
   first|(guard_hyp a;go_enter Tryz.func152,Tryz.ntmps152)|go_enter Tryz.func153,Tryz.ntmps153
   go_wp2
   go_loopw [13] (fun U wr=>Id L M n aa U wr) (fun U _=>n - (intOf U).toNat)
   case atStart=>exact⟨0,Nat.zero_le _,rfl,rfl,θ⟩
   case round=>
    obtain⟨k,hk,rfl,he,j⟩:=hrel;have Q:=ω he;clear he;by_cases hlt:k<n
    · obtain⟨x,m⟩:∃ x,L[k]? = some x:=⟨_,δ (by rw [R.z]; exact hlt)⟩;obtain⟨y,o⟩:∃ y,M[k]? = some y:=⟨_,δ (by rw [S.z]; exact hlt)⟩;obtain⟨d,p,rfl,ag,g⟩:=(I.below j).dL V R.z m;obtain⟨e,q,rfl,xB,i⟩:=(J.below j).dL V S.z o
      first
       |(
        guard_hyp a
        obtain⟨c,C,D,s,H⟩:=x;obtain⟨b,u,v,r,G⟩:=y)
       |(
        guard_hyp K
        obtain⟨c,F,E⟩:=x;obtain⟨b,z,w⟩:=y)
      have c0:ζ wr d (p+k*X) (.string c):=g 0 _ rfl;have d0:ζ wr e (q+k*X) (.string b):=i 0 _ rfl
      first
       |(
        guard_hyp a
        have c1:ζ wr d (p+k*5+1) (.int .i64 C):=g 1 _ rfl;have d1:ζ wr e (q+k*5+1) (.int .i64 u):=i 1 _ rfl;have c2:ζ wr d (p+k*5+2) (.int .i64 D):=g 2 _ rfl;have d2:ζ wr e (q+k*5+2) (.int .i64 v):=i 2 _ rfl)
       |skip
      first|(guard_hyp a;have c3:ζ wr d (p+k*5+3) (.int .i64 s):=g 3 _ rfl)|have c1:ζ wr d (p+k*3+1) (.int .i64 F):=g 1 _ rfl
      first|(guard_hyp a;have d3:ζ wr e (q+k*5+3) (.int .i64 r):=i 3 _ rfl)|have d1:ζ wr e (q+k*3+1) (.int .i64 z):=i 1 _ rfl
      first|(guard_hyp a;have c4:ζ wr d (p+k*5+4) (.string H):=g 4 _ rfl)|have c2:ζ wr d (p+k*3+2) (.string E):=g 2 _ rfl
      first|(guard_hyp a;have d4:ζ wr e (q+k*5+4) (.string G):=i 4 _ rfl)|have d2:ζ wr e (q+k*3+2) (.string w):=i 2 _ rfl
      have aj:=j.size;have ah:d<wr.heap.size:=by omega
      have ai:e<wr.heap.size:=by omega
      have Hb:=ω j;have ae:=ω m;have af:=ω o;have B:=ω Hb.drew
      first
       |(
        guard_hyp a
        have step:=ω (fun (h:(⟨c,C,D,s,H⟩:aC)=⟨b,u,v,r,G⟩)=>iC (m.trans (congrArg some h)) o Q.z);have Z:=ω (fun (h:(⟨c,C,D,s,H⟩:aC)≠⟨b,u,v,r,G⟩)=>nC m o h))
       |(
        guard_hyp K
        have step:=ω (fun (h:(⟨c,F,E⟩:av)=⟨b,z,w⟩)=>iC (m.trans (congrArg some h)) o Q.z);have Z:=ω (fun (h:(⟨c,F,E⟩:av)≠⟨b,z,w⟩)=>nC m o h))
      clear g i I J m o j
      first
       |(
        guard_hyp a
        obtain⟨t,N,l,-⟩:=An c b H G C u D v s r)
       |(
        guard_hyp K
        obtain⟨t,N,l,-⟩:=xP c b E w F z)
      have HT:=ω N;cases t
      · have Aq:=ω (Z.z (fun h=>absurd (HT.z.2 h) (by decide)))
        first
         |(
          guard_hyp a
          have T:∀ W,(binOp .neq 86 (.agg #[c,C,D,s,H]) (.agg #[b,u,v,r,G])).run Tryz.prog W = .ok (.bool true) W:=l)
         |(
          guard_hyp K
          have T:∀ W,(binOp .neq 81 (.agg #[c,F,E]) (.agg #[b,z,w])).run Tryz.prog W = .ok (.bool true) W:=l)
        clear N l step;go_wp2
        go_region
        go_wp2;go_ret;exact⟨false,rfl,⟨fun h=>(by cases h),fun h=>absurd h Aq.z⟩,B⟩
      · have ad:=ω (step.z (HT.z.1 rfl))
        first
         |(
          guard_hyp a
          have T:∀ W,(binOp .neq 86 (.agg #[c,C,D,s,H]) (.agg #[b,u,v,r,G])).run Tryz.prog W = .ok (.bool false) W:=l)
         |(
          guard_hyp K
          have T:∀ W,(binOp .neq 81 (.agg #[c,F,E]) (.agg #[b,z,w])).run Tryz.prog W = .ok (.bool false) W:=l)
        clear N l Z;go_wp2
        go_region
        go_wp2
        go_roundw
        case rel=>exact⟨k+1,by omega,by go_num,ad,B⟩
        case measure=>simp [intOf]; omega
    · have B:=ω j
      have same:=ω (show L=M by
       have ac:=Q.z;rwa [List.take_of_length_le (by rw [R.z]; omega),List.take_of_length_le (by rw [S.z]; omega)] at ac)
      clear j I J;go_wp2;go_ret;exact⟨true,rfl,⟨fun _=>same.z,fun _=>rfl⟩,B⟩
 · have h0:((n:Int) != Y)=true:=by simp; omega
   have B:=ω (show L≠M by rintro rfl; omega);clear O P I J
   first|(guard_hyp a;go_enter Tryz.func152,Tryz.ntmps152)|go_enter Tryz.func153,Tryz.ntmps153
   go_wp2;go_ret;exact⟨false,rfl,⟨fun h=>(by cases h),fun h=>absurd h B.z⟩,θ⟩)
end Go.Proofs.YtimglglgcgpjgabGreatDoor
