/- Of the proof of a statement: Has, WPutD, Fits. -/
import Derived.Test.YtimglglgcgpjgaaGreatDoorQGone
import Derived.Test.YtimglglgcgpjgaaGreatDoorQGoneR
set_option linter.unusedVariables false
set_option linter.unusedSimpArgs false
set_option maxRecDepth 100000
set_option maxHeartbeats 8000000
namespace Go.Proofs.YtimglglgcgpjgaaGreatDoor
open Go.RowKit
noncomputable def eqB {α:Type} (x y:α):Bool:=@decide (x=y) (Classical.propDecidable _)
theorem Ij {α:Type} {x y:α}:eqB x y=true↔x=y:=by unfold eqB; exact @decide_eq_true_iff _ (Classical.propDecidable _)
theorem OH {α:Type} {x y:α} {t:Bool} (h:t=true↔x=y):eqB x y=t:=by
 cases t with
 | true=>exact Ij.2 (h.1 rfl)
 | false=>
  cases a:eqB x y with
  | false=>rfl
  | true=>exact absurd (h.2 (Ij.1 a)) (by decide)
theorem oY :
 (∀ (v:aC) (xs:List aC) (A:Option Addr) (n c:Nat) (w:World) (u:bC w w 5 A n (au aS xs)) (s:xs.length=n) (E:n<=9223372036854775807),ψ 226 #[.slice A n c,.agg (aS v).toArray] w (C4 (eqB v) xs w)) /\
 (∀ (v:aC) (xs:List aC) (A:Option Addr) (n c:Nat) (w:World) (u:bC w w 5 A n (au aS xs)) (s:xs.length=n) (E:n<=9223372036854775807),ψ 113 #[.slice A n c,.agg (aS v).toArray] w fun S w'=>S = .returned (.bool (xs.any (eqB v)))/\Below w w w') /\
 (∀ (v:av) (xs:List av) (A:Option Addr) (n c:Nat) (w:World) (u:bC w w 3 A n (au aH xs)) (s:xs.length=n) (E:n<=9223372036854775807),ψ 228 #[.slice A n c,.agg (aH v).toArray] w (C4 (eqB v) xs w)) /\
 (∀ (v:av) (xs:List av) (A:Option Addr) (n c:Nat) (w:World) (u:bC w w 3 A n (au aH xs)) (s:xs.length=n) (E:n<=9223372036854775807),ψ 114 #[.slice A n c,.agg (aH v).toArray] w fun S w'=>S = .returned (.bool (xs.any (eqB v)))/\Below w w w') /\
 (∀ (v:ak) (xs:List ak) (A:Option Addr) (n c:Nat) (w:World) (u:bC w w 3 A n (au aB xs)) (s:xs.length=n) (E:n<=9223372036854775807),ψ 230 #[.slice A n c,.agg (aB v).toArray] w (C4 (eqB v) xs w)) /\
 (∀ (v:ak) (xs:List ak) (A:Option Addr) (n c:Nat) (w:World) (u:bC w w 3 A n (au aB xs)) (s:xs.length=n) (E:n<=9223372036854775807),ψ 115 #[.slice A n c,.agg (aB v).toArray] w fun S w'=>S = .returned (.bool (xs.any (eqB v)))/\Below w w w'):=by
 refine⟨@fun v xs A n c w u s E=>(fun(G ae O:Unit)=>?_) () () (),@fun v xs A n c w u s E=>(fun(G ac M4:Unit)=>?_) () () (),@fun v xs A n c w u s E=>(fun(H af O:Unit)=>?_) () () (),@fun v xs A n c w u s E=>(fun(H ad M4:Unit)=>?_) () () (),@fun v xs A n c w u s E=>(fun(K ag O:Unit)=>?_) () () (),@fun v xs A n c w u s E=>(fun(K ah M4:Unit)=>?_) () () ()⟩<;>(
 first|(guard_hyp G;have ai:=@aT)|(guard_hyp H;have ai:=@aO)|(have ai:=@aI)
 have Hl:=ω s;have Hx:=ω u;clear s u
 first
  |(
   guard_hyp G
   obtain⟨a,g,h,e,q⟩:=v;rw [show (Value.agg (aS ⟨a,g,h,e,q⟩).toArray) = .agg #[a,g,h,e,q] from rfl];have ab:=ω (show Below w w (χ w #[a,g,h,e,q] 85) from (θ).alloc lJ _);have aa:=ω (show Blk (χ w #[a,g,h,e,q] 85) w 85 #[a,g,h,e,q] from n5 w _))
  |(
   guard_hyp H
   obtain⟨a,j,l⟩:=v;rw [show (Value.agg (aH ⟨a,j,l⟩).toArray) = .agg #[a,j,l] from rfl];have ab:=ω (show Below w w (χ w #[a,j,l] 70) from (θ).alloc lJ _);have aa:=ω (show Blk (χ w #[a,j,l] 70) w 70 #[a,j,l] from n5 w _))
  |(
   guard_hyp K
   obtain⟨r,m,o⟩:=v;rw [show (Value.agg (aB ⟨r,m,o⟩).toArray) = .agg #[r,m,o] from rfl];have ab:=ω (show Below w w (χ w #[r,m,o] 66) from (θ).alloc lJ _);have aa:=ω (show Blk (χ w #[r,m,o] 66) w 66 #[r,m,o] from n5 w _))
 first|(guard_hyp ae;go_enter Tryz.func226,Tryz.ntmps226)|(guard_hyp ac;go_enter Tryz.func113,Tryz.ntmps113)|(guard_hyp af;go_enter Tryz.func228,Tryz.ntmps228)|(guard_hyp ad;go_enter Tryz.func114,Tryz.ntmps114)|(guard_hyp ag;go_enter Tryz.func230,Tryz.ntmps230)|go_enter Tryz.func115,Tryz.ntmps115
 go_wp2
 first
  |(
   guard_hyp ae
   go_loopw [5,8] (fun _ i wr=>AL (eqB ⟨a,g,h,e,q⟩) xs n w i wr/\Blk wr w 85 #[a,g,h,e,q]) (fun _ i _=>n - (intOf i).toNat))
  |(
   guard_hyp ac
   go_loopw [6,9] (fun _ i wr=>AL (eqB ⟨a,g,h,e,q⟩) xs n w i wr/\Blk wr w 85 #[a,g,h,e,q]) (fun _ i _=>n - (intOf i).toNat))
  |(
   guard_hyp af
   go_loopw [5,8] (fun _ i wr=>AL (eqB ⟨a,j,l⟩) xs n w i wr/\Blk wr w 70 #[a,j,l]) (fun _ i _=>n - (intOf i).toNat))
  |(
   guard_hyp ad
   go_loopw [6,9] (fun _ i wr=>AL (eqB ⟨a,j,l⟩) xs n w i wr/\Blk wr w 70 #[a,j,l]) (fun _ i _=>n - (intOf i).toNat))
  |(
   guard_hyp ag
   go_loopw [5,8] (fun _ i wr=>AL (eqB ⟨r,m,o⟩) xs n w i wr/\Blk wr w 66 #[r,m,o]) (fun _ i _=>n - (intOf i).toNat))
  |(
   guard_hyp ah
   go_loopw [6,9] (fun _ i wr=>AL (eqB ⟨r,m,o⟩) xs n w i wr/\Blk wr w 66 #[r,m,o]) (fun _ i _=>n - (intOf i).toNat))
 case atStart=>exact⟨⟨0,Nat.zero_le _,rfl,by simp,ab⟩,aa⟩
 case round=>
  clear ab aa;obtain⟨⟨k,hk,rfl,aj,Z⟩,d⟩:=hrel;have gQ:=ω aj;have b:=ω Z;have L:=ω d;have aq:=Z.size;have am:=d.lt;clear aj;by_cases hlt:k<n
  · obtain⟨y,hf⟩:∃ y,xs[k]? = some y:=⟨_,gO (by rw [Hl.z]; exact hlt)⟩;obtain⟨z,F,rfl,ao,B⟩:=(Hx.below Z).eC ai Hl.z hf;have N:=ω hf
    first
     |(
      guard_hyp G
      obtain⟨C,T,U,R,jk⟩:=y)
     |(
      guard_hyp H
      obtain⟨C,W,V⟩:=y)
     |(
      guard_hyp K
      obtain⟨jl,X,Y⟩:=y)
    first|(guard_hyp G;have c0:ζ wr z (F+k*5) (.string C):=B 0 _ rfl)|(guard_hyp H;have c0:ζ wr z (F+k*3) (.string C):=B 0 _ rfl)|have c0:ζ wr z (F+k*3) (.string jl):=B 0 _ rfl
    first
     |(
      guard_hyp K
      have d0:ζ wr w 0 (.string r):=d.cell 0;have c1:ζ wr z (F+k*3+1) (.string X):=B 1 _ rfl)
     |skip
    first|(guard_hyp K;have d1:ζ wr w 1 (.string m):=d.cell 1)|have d0:ζ wr w 0 (.string a):=d.cell 0
    first|(guard_hyp G;have c1:ζ wr z (F+k*5+1) (.int .i64 T):=B 1 _ rfl)|(guard_hyp H;have c1:ζ wr z (F+k*3+1) (.int .i64 W):=B 1 _ rfl)|have c2:ζ wr z (F+k*3+2) (.int .i64 Y):=B 2 _ rfl
    first|(guard_hyp G;have d1:ζ wr w 1 (.int .i64 g):=d.cell 1)|(guard_hyp H;have d1:ζ wr w 1 (.int .i64 j):=d.cell 1)|have d2:ζ wr w 2 (.int .i64 o):=d.cell 2
    first
     |(
      guard_hyp G
      have c2:ζ wr z (F+k*5+2) (.int .i64 U):=B 2 _ rfl;have d2:ζ wr w 2 (.int .i64 h):=d.cell 2;have c3:ζ wr z (F+k*5+3) (.int .i64 R):=B 3 _ rfl;have d3:ζ wr w 3 (.int .i64 e):=d.cell 3;have c4:ζ wr z (F+k*5+4) (.string jk):=B 4 _ rfl;have d4:ζ wr w 4 (.string q):=d.cell 4;obtain⟨t,ht,-,al⟩:=Aw a C q jk g T h U e R)
     |(
      guard_hyp H
      have c2:ζ wr z (F+k*3+2) (.string V):=B 2 _ rfl;have d2:ζ wr w 2 (.string l):=d.cell 2;obtain⟨t,ht,-,al⟩:=xZ a C l V j W)
     |(
      guard_hyp K
      obtain⟨t,ht,-,al⟩:=vw r jl m X o Y)
    have J:=OH ht
    first
     |(
      guard_hyp G
      have Q:=ω (fun (D:t=true)=>zS (p:=eqB ⟨a,g,h,e,q⟩) N.z (J.trans D));have P:=ω (fun (D:t=false)=>wL (p:=eqB ⟨a,g,h,e,q⟩) N.z gQ.z (J.trans D)))
     |(
      guard_hyp H
      have Q:=ω (fun (D:t=true)=>zS (p:=eqB ⟨a,j,l⟩) N.z (J.trans D));have P:=ω (fun (D:t=false)=>wL (p:=eqB ⟨a,j,l⟩) N.z gQ.z (J.trans D)))
     |(
      guard_hyp K
      have Q:=ω (fun (D:t=true)=>zS (p:=eqB ⟨r,m,o⟩) N.z (J.trans D));have P:=ω (fun (D:t=false)=>wL (p:=eqB ⟨r,m,o⟩) N.z gQ.z (J.trans D)))
    have ap:z<wr.heap.size:=by omega
    clear B hf Z d ht J;cases t
    · have I:=ω (P.z rfl);clear Q P
      first
       |(
        guard_hyp ae
        have x:=ω b.drew;have M:=ω (show Blk wr.drew w 85 #[a,g,h,e,q] from L.z);go_wp2
        go_region)
       |(
        guard_hyp ac
        have x:=ω (b.alloc b.size (.cells #[C,T,U,R,jk] 85));have M:=ω (L.alloc (.cells #[C,T,U,R,jk] 85)))
       |(
        guard_hyp af
        have x:=ω b.drew;have M:=ω (show Blk wr.drew w 70 #[a,j,l] from L.z);go_wp2
        go_region)
       |(
        guard_hyp ad
        have x:=ω (b.alloc b.size (.cells #[C,W,V] 70));have M:=ω (L.alloc (.cells #[C,W,V] 70)))
       |(
        guard_hyp ag
        have x:=ω b.drew;have M:=ω (show Blk wr.drew w 66 #[r,m,o] from L.z);go_wp2
        go_region)
       |(
        guard_hyp ah
        have x:=ω (b.alloc b.size (.cells #[jl,X,Y] 66));have M:=ω (L.alloc (.cells #[jl,X,Y] 66)))
      go_wp2
      go_roundw
      case rel=>exact⟨⟨k+1,by omega,by go_num,I.z,x.z⟩,M.z⟩
      case measure=>simp [intOf]; omega
    · have I:=ω (Q.z rfl);clear Q P
      first
       |(
        guard_hyp O
        have x:=ω b.drew)
       |(
        guard_hyp ac
        have x:=ω (b.alloc b.size (.cells #[C,T,U,R,jk] 85)))
       |(
        guard_hyp ad
        have x:=ω (b.alloc b.size (.cells #[C,W,V] 70)))
       |(
        guard_hyp ah
        have x:=ω (b.alloc b.size (.cells #[jl,X,Y] 66)))
      go_wp2
      first|(guard_hyp O;go_region)|go_ret
      first
       |(
        guard_hyp O
        go_wp2;go_ret;exact⟨_,rfl,x,.inr ⟨by omega,I⟩⟩)
       |(
        guard_hyp M4
        exact⟨bB I.symm,x⟩)
  · have I:=ω (Ih gQ.z (by rw [Hl.z]; omega));clear Z d;go_wp2;go_ret
    first
     |(
      guard_hyp O
      exact⟨_,rfl,b,.inl ⟨rfl,I⟩⟩)
     |(
      guard_hyp M4
      exact⟨bB I.symm,b⟩))
def yh (a:Type) (d:Nat) (b:a->List Value) (f:FuncId):Prop:=
 ∀ (v:a) (xs:List a) (A:Option Addr) (n c:Nat) (w:World) (j:bC w w d A n (au b xs)) (h:xs.length=n) (i:n<=9223372036854775807),ψ f #[.slice A n c,.agg (b v).toArray] w fun e g=>e = .returned (.bool (xs.any (eqB v)))/\Below w w g
theorem xX:yh aC 5 aS 190 /\ yh av 3 aH 193 /\ yh ak 3 aB 196:=by
 refine⟨@fun v p A o i w h g a=>(fun(j:Unit)=>?_) (),@fun v p A o i w h g a=>(fun(k:Unit)=>?_) (),@fun v p A o i w h g a=>(fun(H:Unit)=>?_) ()⟩<;>(
 first|(guard_hyp j;have l:Tg 0:=⟨⟩;have m:Tg 3:=⟨⟩;have n:=@oY.1)|(guard_hyp k;have l:Tg 1:=⟨⟩;have m:Tg 4:=⟨⟩;have n:=@oY.2.2.1)|(have l:Tg 2:=⟨⟩;have m:Tg 5:=⟨⟩;have n:=@oY.2.2.2.2.1)
 have e:Below w w (w.alloc (.cells (l v).toArray m)):=(θ).alloc lJ _;have b:=n v p A o i _ ((h.below e).more e.size) g a;have c:=ω e;have b:=ω b;clear h g a e
 first
  |(
   guard_hyp j
   obtain⟨d,s,t,r,B⟩:=v;rw [show (aS ⟨d,s,t,r,B⟩).toArray=#[.string d,.int .i64 s,.int .i64 t,.int .i64 r,.string B] from rfl] at b c |-)
  |(
   guard_hyp k
   obtain⟨d,u,x⟩:=v;rw [show (aH ⟨d,u,x⟩).toArray=#[.string d,.int .i64 u,.string x] from rfl] at b c |-)
  |(
   guard_hyp H
   obtain⟨C,y,z⟩:=v;rw [show (aB ⟨C,y,z⟩).toArray=#[.string C,.string y,.int .i64 z] from rfl] at b c |-)
 first|(guard_hyp j;go_enter Tryz.func190,Tryz.ntmps190)|(guard_hyp k;go_enter Tryz.func193,Tryz.ntmps193)|go_enter Tryz.func196,Tryz.ntmps196
 go_wp2_with fail
 refine b.mono ?_;rintro J K ⟨G,rfl,D,E⟩;have q:=ω (c.trans (D.mono c.size));rcases E with ⟨rfl,a⟩ | ⟨F,a⟩
 · go_wp2;go_ret;exact⟨bB a.symm,q⟩
 · have I:decide (0<=G)=true:=t8 F;go_wp2;go_ret;exact⟨bB a.symm,q⟩)
theorem OI (base g p:Nat) (l:List UInt8) (x:aC) (w:World) (d:uF x) (h:gB w base g l) (u:l.length<=90000000) (b:Blk w p 236 #[π g 0]) :
 ψ 164 #[.agg (aS x).toArray,π p 0] w (iM base g (l ++ eK x 3) w):=by
 have o:=ω d;obtain⟨e,j,i,m,k⟩:=x;generalize c:l ++ eK _ 3=K;have n:=ω c;unfold aS;have a:=ω (WGo.start h 85 #[e,j,i,m,k] (by decide));have z:ζ w p 0 (π g 0):=b.cell 0;have v:=b.lt;clear h d b c;go_enter Tryz.func164,Tryz.ntmps164
 go_wp2_with fail
 refine Calls.mono (K8 base g _ ⟨e,j,i,m,k⟩ 3 _ (by decide) (by decide) o.z a.ok (by have:=a.len; omega)) ?_;rintro s y ⟨rfl,ok1,r⟩;rw [n.z] at ok1;have q:=a.keep.trans r;go_wp2;go_end0;exact⟨rfl,ok1,q⟩
theorem M5 (base g p:Nat) (l:List UInt8) (x:av) (w:World) (d:p8 x) (h:gB w base g l) (r:l.length<=90000000) (b:Blk w p 236 #[π g 0]) :
 ψ 167 #[.agg (aH x).toArray,π p 0] w (iM base g (l ++ cX x 3) w):=by
 have m:=ω d;obtain⟨e,i,j⟩:=x;generalize c:l ++ cX _ 3=K;have k:=ω c;unfold aH;have a:=ω (WGo.start h 70 #[e,i,j] (by decide));have v:ζ w p 0 (π g 0):=b.cell 0;have s:=b.lt;clear h d b c;go_enter Tryz.func167,Tryz.ntmps167
 go_wp2_with fail
 refine Calls.mono (Ik base g _ ⟨e,i,j⟩ 3 _ (by decide) m.z a.ok (by have:=a.len; omega)) ?_;rintro q u ⟨rfl,ok1,o⟩;rw [k.z] at ok1;have n:=a.keep.trans o;go_wp2;go_end0;exact⟨rfl,ok1,n⟩
theorem qC :
 (∀ (base g p:Nat) (l:List UInt8) (xs:List aC) (A:Option Addr) (n c:Nat) (w:World) (j:bC w base 5 A n (au aS xs)) (a:xs.length=n) (E:n<=1000000) (e:∀ x ∈ xs,uF x) (h:gB w base g l) (D:l.length<=1000000) (F:Blk w p 236 #[π g 0]) (G:p≠g),ψ 163 #[π g 0,.slice A n c,.func (.func 164) #[] #[π p 0]] w (iM base g (l ++ fZ (fun x=>eK x 3) xs) w)) /\
 (∀ (base g p:Nat) (l:List UInt8) (xs:List av) (A:Option Addr) (n c:Nat) (w:World) (j:bC w base 3 A n (au aH xs)) (a:xs.length=n) (E:n<=1000000) (e:∀ x ∈ xs,p8 x) (h:gB w base g l) (D:l.length<=1000000) (F:Blk w p 236 #[π g 0]) (G:p≠g),ψ 166 #[π g 0,.slice A n c,.func (.func 167) #[] #[π p 0]] w (iM base g (l ++ fZ (fun x=>cX x 3) xs) w)) /\
 (∀ (base g p:Nat) (l:List UInt8) (xs:List ByteArray) (A:Option Addr) (n c:Nat) (w:World) (j:bC w base 1 A n (au lR xs)) (a:xs.length=n) (E:n<=1000000) (e:∀ x ∈ xs,x.size<=9223372036854775807) (h:gB w base g l) (D:l.length<=1000000),ψ 171 #[π g 0,.slice A n c,.func (.func 172) #[π g 0] #[]] w (iM base g (l ++ fZ dW xs) w)):=by
 refine⟨@fun base g p l xs A n c w j a E e h D F G=>(fun(m af:Unit)=>?_) () (),@fun base g p l xs A n c w j a E e h D F G=>(fun(o af:Unit)=>?_) () (),@fun base g p l xs A n c w j a E e h D=>(fun(b:Unit)=>?_) ()⟩<;>(
 first|(guard_hyp m;have U:=@aT)|(guard_hyp o;have U:=@aO)|(have U:=@iY)
 first
  |(
   guard_hyp m
   have s:∀ k,((xs.take k).flatMap (fun x=>eK x 3)).length<=85*n:=fun k=>by
    have h1:=iW (enc:=fun x=>eK x 3) (fun x=>mH _ 3) (xs.take k);have h2:(xs.take k).length<=n:=by rw [List.length_take]; omega
    omega)
  |(
   guard_hyp o
   have s:∀ k,((xs.take k).flatMap (fun x=>cX x 3)).length<=85*n:=fun k=>by
    have h1:=iW (enc:=fun x=>cX x 3) (fun x=>kU _ 3) (xs.take k);have h2:(xs.take k).length<=n:=by rw [List.length_take]; omega
    omega)
  |(
   guard_hyp b
   have s:∀ k,((xs.take k).flatMap dW).length<=85*n:=fun k=>by
    have h1:=iW (enc:=dW) (by have:=dA; intro x; have:=this x; omega) (xs.take k);have h2:(xs.take k).length<=n:=by rw [List.length_take]; omega
    omega)
 have ae:=bT n
 first
  |(
   guard_hyp m
   have K:=ω (show ∀ k,(l ++ bg n ++ (xs.take k).flatMap (fun x=>eK x 3)).length<=90000000 from fun k=>by have:=s k; simp only [List.length_append]; omega);have Q:=ω (show l ++ fZ (fun x=>eK x 3) xs=l ++ bg n ++ (xs.take n).flatMap (fun x=>eK x 3) from by unfold fZ; rw [<- a,List.take_length,List.append_assoc]))
  |(
   guard_hyp o
   have K:=ω (show ∀ k,(l ++ bg n ++ (xs.take k).flatMap (fun x=>cX x 3)).length<=90000000 from fun k=>by have:=s k; simp only [List.length_append]; omega);have Q:=ω (show l ++ fZ (fun x=>cX x 3) xs=l ++ bg n ++ (xs.take n).flatMap (fun x=>cX x 3) from by unfold fZ; rw [<- a,List.take_length,List.append_assoc]))
  |(
   guard_hyp b
   have K:=ω (show ∀ k,(l ++ bg n ++ (xs.take k).flatMap dW).length<=90000000 from fun k=>by have:=s k; simp only [List.length_append]; omega);have Q:=ω (show l ++ fZ dW xs=l ++ bg n ++ (xs.take n).flatMap dW from by unfold fZ; rw [<- a,List.take_length,List.append_assoc]))
 have HN:=ω (pX base g l (n:Int) w (by omega) h (by omega));have Hw:=ω e;have Hl:=ω a;have Hx:=ω j;have Ho:=ω h
 first
  |(
   guard_hyp af
   have Hp:=ω F;clear e a j h s ae F)
  |(
   guard_hyp b
   clear e a j h s ae)
 first|(guard_hyp m;go_enter Tryz.func163,Tryz.ntmps163)|(guard_hyp o;go_enter Tryz.func166,Tryz.ntmps166)|go_enter Tryz.func171,Tryz.ntmps171
 go_wp2_with fail
 refine HN.mono ?_;rintro q w0 ⟨rfl,ok0,k0⟩;rw [show ((n:Int)).toNat=n from by omega] at ok0;have ag:=ω ok0;have K0:=ω k0;clear ok0 k0;go_wp2
 first
  |(
   guard_hyp m
   go_loopw [7,14] (fun _ i wr=>uf (fun x=>eK x 3) xs n base g l w i wr) (fun _ i _=>n - (intOf i).toNat))
  |(
   guard_hyp o
   go_loopw [7,14] (fun _ i wr=>uf (fun x=>cX x 3) xs n base g l w i wr) (fun _ i _=>n - (intOf i).toNat))
  |(
   guard_hyp b
   go_loopw [7,14] (fun _ i wr=>uf dW xs n base g l w i wr) (fun _ i _=>n - (intOf i).toNat))
 case atStart=>exact⟨0,Nat.zero_le _,rfl,by simpa using ag.z,K0⟩
 case round=>
  obtain⟨k,hk,rfl,S,R⟩:=hrel;have N:=ω S;have u:=ω R;have ak:=S.size;have L:=Ho.keep R;clear S R;by_cases hlt:k<n
  · obtain⟨x,d⟩:∃ x,xs[k]? = some x:=⟨_,gO (by rw [Hl.z]; exact hlt)⟩;obtain⟨ad,ah,rfl,ai,v⟩:=(Hx.below L).eC U Hl.z d;have T:=ω (Hw.z x (m8 d))
    first
     |(
      guard_hyp m
      have z:=ω (iX (fun x=>eK x 3) d);obtain⟨X,B⟩:∃ X,X=x:=⟨_,rfl⟩;have HX:=ω B;obtain⟨r,W,V,aa,Z⟩:=x;obtain⟨c0,c1,c2,c3,c4⟩:=rc5 v;clear v d B L)
     |(
      guard_hyp o
      have z:=ω (iX (fun x=>cX x 3) d);obtain⟨X,B⟩:∃ X,X=x:=⟨_,rfl⟩;have HX:=ω B;obtain⟨r,Y,ab⟩:=x;obtain⟨c0,c1,c2⟩:=rc3 v;clear v d B L)
     |(
      guard_hyp b
      have z:=ω (iX dW d);have c0:ζ wr ad (ah+k*1) (.string x):=v 0 _ rfl;rw [Nat.mul_one] at c0;clear v d L)
    have aj:ad<wr.heap.size:=by omega
    first
     |(
      guard_hyp m
      have C:Below wr wr (χ wr #[r,W,V,aa,Z] 85):=(θ).alloc lJ _)
     |(
      guard_hyp o
      have C:Below wr wr (χ wr #[r,Y,ab] 70):=(θ).alloc lJ _)
     |skip
    first|(guard_hyp b;have I:=ω N.z)|have ac:=ω C
    first|(guard_hyp b;have J:=ω (K.z k))|have I:=ω (N.below C)
    first
     |(
      guard_hyp b
      go_wp2_with fail
      refine Calls.mono (qx base g _ x _ T.z I.z (by have:=J.z; omega)) ?_;rintro q H ⟨rfl,ok1,y⟩)
     |skip
    first|(guard_hyp b;have M:=ω (u.trans y))|have J:=ω (K.z k)
    first
     |(
      guard_hyp m
      have O:=ω ((u.blk Hp.z (by decide) (by intro q; subst q; exact G rfl)).alloc (.cells #[r,W,V,aa,Z] 85));clear C
      go_wp2_with fail
      refine Calls.mono (OI base g p _ ⟨r,W,V,aa,Z⟩ _ T.z I.z J.z O.z) ?_;rintro q H ⟨rfl,ok1,y⟩;have M:=ω (u.trans ((dE.of_below ac.z).trans y));have P:=ω (show gB H base g (l ++ bg n ++ (xs.take (k+1)).flatMap (fun x=>eK x 3)) from by rw [z.z,<- List.append_assoc]; exact ok1))
     |(
      guard_hyp o
      have O:=ω ((u.blk Hp.z (by decide) (by intro q; subst q; exact G rfl)).alloc (.cells #[r,Y,ab] 70));clear C
      go_wp2_with fail
      refine Calls.mono (M5 base g p _ ⟨r,Y,ab⟩ _ T.z I.z J.z O.z) ?_;rintro q H ⟨rfl,ok1,y⟩;have M:=ω (u.trans ((dE.of_below ac.z).trans y));have P:=ω (show gB H base g (l ++ bg n ++ (xs.take (k+1)).flatMap (fun x=>cX x 3)) from by rw [z.z,<- List.append_assoc]; exact ok1))
     |(
      guard_hyp b
      have P:=ω (show gB H base g (l ++ bg n ++ (xs.take (k+1)).flatMap dW) from by rw [z.z,<- List.append_assoc]; exact ok1))
    clear ok1 y;go_wp2
    go_roundw
    case rel=>exact⟨k+1,by omega,by go_num,P.z,M.z⟩
    case measure=>simp [intOf]; omega
  · obtain rfl:k=n:=by omega
    go_wp2;go_end0;exact⟨rfl,by rw [Q.z]; exact N.z,u⟩)
def okJ (v:Int) (j:aC):Bool:=(decide (2<v) || decide (j.tag.size=0)) && (decide (1<v) || decide (j.tries=0))
def okN (v:Int) (n:av):Bool:=decide (1<v) || decide (n.zone.size=0)
def p9 (st:ah) (v:Int):Bool:=(decide (v=3) || decide (st.rev=0)) && st.jobs.all (okJ v) && st.nodes.all (okN v)
def AM (st:ah) (v:Int):Bool × Int:=if aE st≠0 then (false,aE st) else if ranged v 1 3=false then (false,1) else (p9 st v,0)
def C5 (st:ah) (v:Int) (w:World) (e:Ending) (w':World):Prop:=e = .returned (.tuple #[.bool (AM st v).1,.int .i64 (AM st v).2])/\Below w w w'
theorem C5.mk' {st:ah} {v:Int} {w w':World} {a:Bool} {b:Int} (h:AM st v=(a,b)) (c:Below w w w'):C5 st v w (.returned (.tuple #[.bool a,b])) w':=⟨by rw [h],c⟩
theorem wK {α:Type} {p:α->Bool} {l:List α} {k:Nat} {x:α} (h:l[k]? = some x):(l.take (k+1)).all p=((l.take k).all p && p x):=by
 rw [B8 h,List.all_append]; simp
def PH (st:ah) (x:StA) (v:Int) (a:Bool) (w:World) (n:Nat) (f i:Value) (wr:World):Prop:=
 ∃ k:Nat,k<=n/\i = .int .i64 k/\f = .bool (a && (st.jobs.take k).all (okJ v))/\Below w w wr/\Blk wr w 26 (stC st x)
def PI (st:ah) (x:StA) (v:Int) (a:Bool) (w:World) (n:Nat) (f i:Value) (wr:World):Prop:=
 ∃ k:Nat,k<=n/\i = .int .i64 k/\f = .bool (a && (st.nodes.take k).all (okN v))/\Below w w wr/\Blk wr w 26 (stC st x)
theorem FY {v:Int} {j:aC} {a b p q:Bool} (f:decide (j.tag.size=0)=a) (e:decide (j.tries=0)=b) (c:decide (1<v)=p) (d:decide (2<v)=q):okJ v j=((q || a) && (p || b)):=by unfold okJ; rw [f,e,c,d]
theorem FZ {v:Int} {n:av} {a p:Bool} (c:decide (n.zone.size=0)=a) (b:decide (1<v)=p):okN v n=(p || a):=by unfold okN; rw [c,b]
theorem Ei {v:Int} (h:ranged v 1 3=true):v=1\/v=2\/v=3:=by have:=aM.1 h; omega
theorem K9 (st:ah) (x:StA) (v:Int) (w:World) (hS:StAt w w st x) (hT:Tabs w) :
 ψ 202 #[.agg (stC st x),v] w (C5 st v w):=by
 have J:=ω hS;have m:Below w w (χ w (stC st x) 26):=(θ).alloc lJ _;have af:Blk (χ w (stC st x) 26) w 26 (stC st x):=n5 w _;have hC:=ω (pI st x _ ((hS.below m).more m.size) (hT.below m));have ae:=ω m;have O:=ω af;have aa:=ω (fun au l (h:AM st v=(au,l)) w'=>C5.mk' (w:=w) (w':=w') h);have ap:AM st v=if aE st≠0 then (false,aE st) else if ranged v 1 3=false then (false,1) else (p9 st v,0):=rfl;have P:=ω ap;clear m af hS hT ap;obtain⟨rev,jobs,nodes,leases⟩:=st;obtain⟨aj,V,cj,an,M,cn,al,nl,cl⟩:=x;simp only [stC] at *;go_enter Tryz.func202,Tryz.ntmps202
 go_wp2_with fail
 refine hC.mono ?_;rintro av w1 ⟨rfl,a⟩;have b:=ω (ae.trans (a.mono ae.size));have i:=ω (O.below a O.lt);clear a hC O;obtain⟨E,hE⟩:∃ E,aE ⟨rev,jobs,nodes,leases⟩=E:=⟨_,rfl⟩;rw [hE] at P |-;by_cases he:E=0;rotate_left
 · have T:=ω (aa.z false E (by rw [P.z,if_pos he]) _ b.z);have e1:(E == 0)=false:=beq_eq_false_iff_ne.2 he;have e2:(E != 0)=true:=bne_iff_ne.2 he;go_wp2;go_ret2;exact T
 subst he
 go_wp2_with fail
 refine Calls.mono (ku _ _ _ _) ?_;rintro av w2 ⟨rfl,rfl⟩;cases hr:ranged v 1 3
 · have T:=ω (aa.z false 1 (by rw [P.z,if_neg (by simp),if_pos hr]) _ b.z);go_wp2;go_ret2;exact T
 have C6:=ω (show AM ⟨rev,jobs,nodes,leases⟩ v=(p9 ⟨rev,jobs,nodes,leases⟩ v,0) by rw [P.z,if_neg (by simp),if_neg (by rw [hr]; simp)]);have ai:=J.lj;have ak:=J.ln;have ay:=J.bj;have az:=J.bn;simp only at ai ak ay az;obtain⟨y0,y1⟩:=Blk.c2 (i.z);obtain⟨K,D⟩:∃ K,(decide (v=3) || decide (rev=0))=K:=⟨_,rfl⟩;have ar:=ω (show p9 ⟨rev,jobs,nodes,leases⟩ v=(K && jobs.all (okJ v) && nodes.all (okN v)) by unfold p9; rw [<- D]);have ao:=Ei hr;clear hr P hE;have PJ:=ω (fun f w' (h:f=p9 ⟨rev,jobs,nodes,leases⟩ v)=>aa.z f 0 (by rw [C6.z,h]) w');clear aa C6
 have hd:(decide (1<v)=false/\decide (2<v)=false/\(v == 3)=false)\/(decide (1<v)=true/\decide (2<v)=false/\(v == 3)=false)\/(decide (1<v)=true/\decide (2<v)=true/\(v == 3)=true):=by
  rcases ao with rfl | rfl | rfl
  · exact .inl ⟨rfl,rfl,rfl⟩
  · exact .inr (.inl ⟨rfl,rfl,rfl⟩)
  · exact .inr (.inr ⟨rfl,rfl,rfl⟩)
 have ag:(v == 3)=decide (v=3):=by by_cases h:v=3 <;> simp [h]
 have am:(rev == 0)=decide (rev=0):=by by_cases h:rev=0 <;> simp [h]
 rw [<- ag,<- am] at D;clear ag am ao;obtain⟨z,hz⟩:∃ z,(rev == 0)=z:=⟨_,rfl⟩;rw [hz] at D;rcases hd with ⟨L,Y,Z⟩ | ⟨L,Y,Z⟩ | ⟨L,Y,Z⟩
 all_goals rw [Z] at D
 all_goals cases z
 all_goals simp only [Bool.or_true,Bool.or_false,Bool.true_or,Bool.false_or] at D
 all_goals have aq:=ω D
 all_goals clear D
 all_goals go_wp2
 all_goals clear y0 y1 hz Z
 all_goals (
  go_loopw [7,9,30] (fun f _ I wr=>PH ⟨rev,jobs,nodes,leases⟩ ⟨aj,V,cj,an,M,cn,al,nl,cl⟩ v K w V f I wr) (fun _ _ I _=>V - (intOf I).toNat)
  case atStart=>exact⟨0,Nat.zero_le _,rfl,by rw [<- aq.z]; simp,b,i⟩
  case round=>
   clear b i;obtain⟨k,hk,rfl,rfl,a,s⟩:=hrel;have b:=ω a;have i:=ω s;have a1:=a.size;by_cases hlt:k<V
   · obtain⟨y,G⟩:∃ y,jobs[k]? = some y:=⟨_,gO (by omega)⟩;obtain⟨l,a2,R,ax,S⟩:=(J.j.below a).eC aT ai G;have H:=ω (wK (p:=okJ v) G);simp only at R;subst R;obtain⟨o,ac,ab,c,W⟩:=y;obtain⟨c0,c1,c2,c3,c4⟩:=rc5 S;have a0:l<wr.heap.size:=by omega
     have F:=ω (b.alloc b.size (.cells #[o,ac,ab,c,W] 85));have C:=ω (i.alloc (.cells #[o,ac,ab,c,W] 85));clear S G a s;obtain⟨B,u⟩:∃ B,(K && (jobs.take k).all (okJ v))=B:=⟨_,rfl⟩;have r:=ω u;simp only [u];clear u;by_cases d:W.size=0
     · have q:=ω (fun (l:Bool) (h:decide (c=0)=l)=>FY (j:=⟨o,ac,ab,c,W⟩) (t8 d) h L Y);obtain rfl:=nP d;by_cases e:c=0
       · have e2:(c == 0)=true:=beq_iff_eq.2 e;have g:=ω (q.z true (t8 e));subst e;clear q;cases B
         all_goals go_wp2
         all_goals go_roundw
         all_goals (first
          | exact⟨k+1,by omega,by go_num,by rw [H.z,<- Bool.and_assoc,r.z,g.z]; rfl,F,C⟩
          | (simp [intOf]; omega))
       · have e2:(c == 0)=false:=beq_eq_false_iff_ne.2 e;have g:=ω (q.z false (fK e));cases B
         all_goals go_wp2
         all_goals go_roundw
         all_goals (first
          | exact⟨k+1,by omega,by go_num,by rw [H.z,<- Bool.and_assoc,r.z,g.z]; rfl,F,C⟩
          | (simp [intOf]; omega))
     · have q:=ω (fun (l:Bool) (h:decide (c=0)=l)=>FY (j:=⟨o,ac,ab,c,W⟩) (fK d) h L Y);have e1:=oN d;have aw:=mZ d;by_cases e:c=0
       · have e2:(c == 0)=true:=beq_iff_eq.2 e;have g:=ω (q.z true (t8 e));subst e;clear q;cases B
         all_goals go_wp2
         all_goals go_roundw
         all_goals (first
          | exact⟨k+1,by omega,by go_num,by rw [H.z,<- Bool.and_assoc,r.z,g.z]; rfl,F,C⟩
          | (simp [intOf]; omega))
       · have e2:(c == 0)=false:=beq_eq_false_iff_ne.2 e;have g:=ω (q.z false (fK e));cases B
         all_goals go_wp2
         all_goals go_roundw
         all_goals (first
          | exact⟨k+1,by omega,by go_num,by rw [H.z,<- Bool.and_assoc,r.z,g.z]; rfl,F,C⟩
          | (simp [intOf]; omega))
   · have U:jobs.take k=jobs:=List.take_of_length_le (by omega);obtain⟨Q,m⟩:∃ Q,(K && jobs.all (okJ v))=Q:=⟨_,rfl⟩;have O:=ω m;have y2:ζ wr w 2 (.slice an M cn):=i.cell 2;simp only [U,m];clear m U a s;go_wp2;clear y2
     go_loopw [7,11,57] (fun f _ I wr=>PI ⟨rev,jobs,nodes,leases⟩ ⟨aj,V,cj,an,M,cn,al,nl,cl⟩ v Q w M f I wr) (fun _ _ I _=>M - (intOf I).toNat)
     case atStart=>exact⟨0,Nat.zero_le _,rfl,by simp,b,i⟩
     case round=>
      clear b i;obtain⟨N,hq,rfl,rfl,a,s⟩:=hrel;have b:=ω a;have i:=ω s;have a1:=a.size;by_cases a3:N<M
      · obtain⟨y,G⟩:∃ y,nodes[N]? = some y:=⟨_,gO (by omega)⟩;obtain⟨l,a2,R,ax,S⟩:=(J.n.below a).eC aO ak G;have H:=ω (wK (p:=okN v) G);simp only at R;subst R;obtain⟨o,ad,X⟩:=y;obtain⟨c0,c1,c2⟩:=rc3 S;have a0:l<wr.heap.size:=by omega
        have F:=ω (b.alloc b.size (.cells #[o,ad,X] 70));have C:=ω (i.alloc (.cells #[o,ad,X] 70));clear S G a s;obtain⟨B,u⟩:∃ B,(Q && (nodes.take N).all (okN v))=B:=⟨_,rfl⟩;have r:=ω u;simp only [u];clear u;by_cases d:X.size=0
        · have g:=ω (FZ (n:=⟨o,ad,X⟩) (t8 d) L);obtain rfl:=nP d;cases B
          all_goals go_wp2
          all_goals go_roundw
          all_goals (first
           | exact⟨N+1,by omega,by go_num,by rw [H.z,<- Bool.and_assoc,r.z,g.z]; rfl,F,C⟩
           | (simp [intOf]; omega))
        · have g:=ω (FZ (n:=⟨o,ad,X⟩) (fK d) L);have e1:=oN d;have aw:=mZ d;cases B
          all_goals go_wp2
          all_goals go_roundw
          all_goals (first
           | exact⟨N+1,by omega,by go_num,by rw [H.z,<- Bool.and_assoc,r.z,g.z]; rfl,F,C⟩
           | (simp [intOf]; omega))
      · have U:nodes.take N=nodes:=List.take_of_length_le (by omega);have T:=ω (PJ.z (Q && nodes.all (okN v)) wr (by rw [ar.z,O.z]) b.z);simp only [U];clear U a s;go_wp2;go_ret2;exact T)
end Go.Proofs.YtimglglgcgpjgaaGreatDoor
