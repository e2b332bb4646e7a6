/- Of the proof of a statement: Gone. -/
import Derived.Lib.QuietBelow
import Derived.Test.YtimglglgcgpjgabGreatDoorPClone
set_option linter.unusedVariables false
set_option linter.unusedSimpArgs false
set_option maxRecDepth 100000
set_option maxHeartbeats 8000000
namespace Go.Proofs.YtimglglgcgpjgabGreatDoor
open Go.RowKit
def nL (xs:List ByteArray):Prop:=∀ x ∈ xs,x.size<=9223372036854775807
theorem rH :
 (∀ (name:ByteArray) (prio:Int) (need:Int) (tries:Int) (tag:ByteArray) (s:ByteArray) (e g:Nat) (w:World) (i:ζ w e 0 (.func (.func 130) #[] #[])) (j:ζ w g 0 (.string s)),ψ 232 #[.agg #[name,prio,need,tries,tag],π e 0,π g 0] w fun m o=>m = .returned (.bool (name.toList == s.toList))/\Below w w o) /\
 (∀ (name:ByteArray) (room:Int) (zone:ByteArray) (s:ByteArray) (e g:Nat) (w:World) (i:ζ w e 0 (.func (.func 133) #[] #[])) (j:ζ w g 0 (.string s)),ψ 233 #[.agg #[name,room,zone],π e 0,π g 0] w fun m o=>m = .returned (.bool (name.toList == s.toList))/\Below w w o) /\
 (∀ (job:ByteArray) (node:ByteArray) (till:Int) (s:ByteArray) (e g:Nat) (w:World) (i:ζ w e 0 (.func (.func 136) #[] #[])) (j:ζ w g 0 (.string s)),ψ 234 #[.agg #[job,node,till],π e 0,π g 0] w fun m o=>m = .returned (.bool (job.toList == s.toList))/\Below w w o):=by
 refine⟨@fun name prio need tries tag s e g w i j=>(fun(k:Unit)=>?_) (),@fun name room zone s e g w i j=>(fun(l B:Unit)=>?_) () (),@fun job node till s e g w i j=>(fun(n B:Unit)=>?_) () ()⟩<;>(
 first
  |(
   guard_hyp k
   have h:=(Below.refl w w).alloc lQ (.cells #[name,prio,need,tries,tag] 86))
  |(
   guard_hyp l
   have h:=(Below.refl w w).alloc lQ (.cells #[name,room,zone] 81))
  |(
   guard_hyp n
   have h:=(Below.refl w w).alloc lQ (.cells #[job,node,till] 77))
 have y:=block_lt_of_cell i;have z:=block_lt_of_cell j
 first
  |(
   guard_hyp k
   generalize b:w.alloc (.cells #[name,prio,need,tries,tag] 86)=c at h)
  |(
   guard_hyp l
   generalize b:w.alloc (.cells #[name,room,zone] 81)=c at h)
  |(
   guard_hyp n
   generalize b:w.alloc (.cells #[job,node,till] 77)=c at h)
 first|(guard_hyp n;have u:=fun d a=>cell_regrown (show ζ c w 0 (.string job) by rw [<- b]; simp [go_sem]) d a)|have u:=fun d a=>cell_regrown (show ζ c w 0 (.string name) by rw [<- b]; simp [go_sem]) d a
 first
  |(
   guard_hyp k
   have q:=fun d a=>cell_regrown (show ζ c w 1 (.int .i64 prio) by rw [<- b]; simp [go_sem]) d a;have r:=fun d a=>cell_regrown (show ζ c w 2 (.int .i64 need) by rw [<- b]; simp [go_sem]) d a)
  |(
   guard_hyp n
   have q:=fun d a=>cell_regrown (show ζ c w 1 (.string node) by rw [<- b]; simp [go_sem]) d a)
  |skip
 first|(guard_hyp k;have F:=fun d a=>cell_regrown (show ζ c w 3 (.int .i64 tries) by rw [<- b]; simp [go_sem]) d a)|(guard_hyp l;have q:=fun d a=>cell_regrown (show ζ c w 1 (.int .i64 room) by rw [<- b]; simp [go_sem]) d a)|have r:=fun d a=>cell_regrown (show ζ c w 2 (.int .i64 till) by rw [<- b]; simp [go_sem]) d a
 first
  |(
   guard_hyp k
   have G:=fun d a=>cell_regrown (show ζ c w 4 (.string tag) by rw [<- b]; simp [go_sem]) d a)
  |(
   guard_hyp l
   have r:=fun d a=>cell_regrown (show ζ c w 2 (.string zone) by rw [<- b]; simp [go_sem]) d a)
  |skip
 have C:=fun d a=>cell_regrown ((h.cell (p:=⟨e,0,none⟩) y).trans i) d a;have D:=fun d a=>cell_regrown ((h.cell (p:=⟨g,0,none⟩) z).trans j) d a;have v:=ω h;have E:=ω b;clear h b i j y z
 first|(guard_hyp k;go_enter Tryz.func232,Tryz.ntmps232)|(guard_hyp l;go_enter Tryz.func233,Tryz.ntmps233)|go_enter Tryz.func234,Tryz.ntmps234
 go_wp2_with fail
 rw [E.z];refine wp_region_quiet_below (by kernel_rfl) (by kernel_rfl) ?_
 first
  |(
   guard_hyp k
   repeat (go_big_quiet_step ((go_at_call 130; exact Calls.regrown_of (kr _ _ _ _ _ _)))))
  |(
   guard_hyp l
   repeat (go_big_quiet_step ((go_at_call 133; exact Calls.regrown_of (jc _ _ _ _)))))
  |(
   guard_hyp n
   repeat (go_big_quiet_step ((go_at_call 136; exact Calls.regrown_of (fF _ _ _ _)))))
 refine wpQuiet_nil ?_;intro _ H;obtain⟨⟨nq,osq⟩,hw''⟩:=H;subst hw'';have x:=ω (v.trans ((below_regrown c nq osq).mono v.size))
 first
  |(
   guard_hyp k
   clear u q r F G C D)
  |(
   guard_hyp B
   clear u q r C D)
 dsimp only;generalize Sort.grow (redrawn c nq) osq=I at x |-;go_wp2;go_ret;exact⟨rfl,x⟩)
def Jc (xs:List aC) (s:ByteArray) (w:World) (e:Ending) (w':World):Prop:=
 ∃ i:Int,e = .returned (.int .i64 i)/\Below w w w'/\((i = -1/\(cD xs s).isSome=false)\/(0<=i/\(cD xs s).isSome=true))
def KM (xs:List aC) (s:ByteArray) (n:Nat) (w:World) (i:Value) (wr:World):Prop:=∃ k:Nat,k<=n/\i = .int .i64 k/\(xs.take k).find? (fun x=>decide (x.name=s))=none/\Below w w wr
def FX (xs:List av) (s:ByteArray) (w:World) (e:Ending) (w':World):Prop:=
 ∃ i:Int,e = .returned (.int .i64 i)/\Below w w w'/\((i = -1/\(bU xs s).isSome=false)\/(0<=i/\(bU xs s).isSome=true))
def Jd (xs:List av) (s:ByteArray) (n:Nat) (w:World) (i:Value) (wr:World):Prop:=∃ k:Nat,k<=n/\i = .int .i64 k/\(xs.take k).find? (fun x=>decide (x.name=s))=none/\Below w w wr
def D5 (xs:List ak) (s:ByteArray) (w:World) (e:Ending) (w':World):Prop:=
 ∃ i:Int,e = .returned (.int .i64 i)/\Below w w w'/\((i = -1/\(cE xs s).isSome=false)\/(0<=i/\(cE xs s).isSome=true))
def FY (xs:List ak) (s:ByteArray) (n:Nat) (w:World) (i:Value) (wr:World):Prop:=∃ k:Nat,k<=n/\i = .int .i64 k/\(xs.take k).find? (fun x=>decide (x.job=s))=none/\Below w w wr
theorem sX :
 (∀ (xs:List aC) (s:ByteArray) (A:Option Addr) (n c a b:Nat) (w:World) (j:bg w w 5 A n (au aS xs)) (l:xs.length=n) (r:n<=9223372036854775807) (g:ζ w a 0 (.func (.func 130) #[] #[])) (h:ζ w b 0 (.string s)),ψ 228 #[.slice A n c,.func (.func 232) #[] #[π a 0,π b 0]] w (Jc xs s w)) /\
 (∀ (xs:List av) (s:ByteArray) (A:Option Addr) (n c a b:Nat) (w:World) (j:bg w w 3 A n (au aH xs)) (l:xs.length=n) (r:n<=9223372036854775807) (g:ζ w a 0 (.func (.func 133) #[] #[])) (h:ζ w b 0 (.string s)),ψ 230 #[.slice A n c,.func (.func 233) #[] #[π a 0,π b 0]] w (FX xs s w)) /\
 (∀ (xs:List ak) (s:ByteArray) (A:Option Addr) (n c a b:Nat) (w:World) (j:bg w w 3 A n (au aB xs)) (l:xs.length=n) (r:n<=9223372036854775807) (g:ζ w a 0 (.func (.func 136) #[] #[])) (h:ζ w b 0 (.string s)),ψ 223 #[.slice A n c,.func (.func 234) #[] #[π a 0,π b 0]] w (D5 xs s w)):=by
 refine⟨@fun xs s A n c a b w j l r g h=>(fun(m:Unit)=>?_) (),@fun xs s A n c a b w j l r g h=>(fun(o:Unit)=>?_) (),@fun xs s A n c a b w j l r g h=>(fun(J:Unit)=>?_) ()⟩<;>(
 first|(guard_hyp m;have K:=@aU)|(guard_hyp o;have K:=@aO)|(have K:=@aI)
 have D:=ω l;have C:=ω g;have E:=ω h;have H:=block_lt_of_cell g;have I:=block_lt_of_cell h;clear l g h
 first|(guard_hyp m;go_enter Tryz.func228,Tryz.ntmps228)|(guard_hyp o;go_enter Tryz.func230,Tryz.ntmps230)|go_enter Tryz.func223,Tryz.ntmps223
 go_wp2
 first|(guard_hyp m;go_loopw [4,5,8,16] (fun _ _ i _ wr=>KM xs s n w i wr) (fun _ _ i _ _=>n - (intOf i).toNat))|(guard_hyp o;go_loopw [4,5,8,16] (fun _ _ i _ wr=>Jd xs s n w i wr) (fun _ _ i _ _=>n - (intOf i).toNat))|go_loopw [4,5,8,16] (fun _ _ i _ wr=>FY xs s n w i wr) (fun _ _ i _ _=>n - (intOf i).toNat)
 case atStart=>exact⟨0,Nat.zero_le _,rfl,by simp,θ⟩
 case round=>
  obtain⟨k,hk,rfl,O,d⟩:=hrel;have F:=ω O;have q:=ω d;have ab:=d.size;clear O;by_cases hlt:k<n
  · obtain⟨x,G⟩:∃ x,xs[k]? = some x:=⟨_,δ (by rw [D.z]; exact hlt)⟩;obtain⟨P,ac,rfl,Z,y⟩:=(j.below d).dL K D.z G;have L:=ω G
    first
     |(
      guard_hyp m
      obtain⟨t,R,Q,V,T⟩:=x;obtain⟨c0,M,c2,X,c4⟩:=rc5 y;have z:=ω (rH.1 t R Q V T s a b wr ((d.cell (p:=⟨a,0,none⟩) H).trans C.z) ((d.cell (p:=⟨b,0,none⟩) I).trans E.z)))
     |(
      guard_hyp o
      obtain⟨t,S,W⟩:=x;obtain⟨c0,M,c2⟩:=rc3 y;have z:=ω (rH.2.1 t S W s a b wr ((d.cell (p:=⟨a,0,none⟩) H).trans C.z) ((d.cell (p:=⟨b,0,none⟩) I).trans E.z)))
     |(
      guard_hyp J
      obtain⟨job,node,U⟩:=x;obtain⟨c0,M,c2⟩:=rc3 y;have z:=ω (rH.2.2 job node U s a b wr ((d.cell (p:=⟨a,0,none⟩) H).trans C.z) ((d.cell (p:=⟨b,0,none⟩) I).trans E.z)))
    clear y G j d;have aa:P<wr.heap.size:=by omega
    go_wp2_with fail
    refine z.mono ?_;rintro Y w2 ⟨rfl,N⟩;have u:=ω (q.trans (N.mono q.size));clear z N
    first|(guard_hyp J;by_cases B:job=s)|by_cases B:t=s
    · subst B
      first|(guard_hyp J;have v:=qD job)|have v:=qD t
      have e:=ω (zU F.z L.z (by simp));rw [v];go_wp2;go_ret
      first|(guard_hyp m;exact⟨_,rfl,u,.inr ⟨by omega,by unfold cD; rw [e.z]; rfl⟩⟩)|(guard_hyp o;exact⟨_,rfl,u,.inr ⟨by omega,by unfold bU; rw [e.z]; rfl⟩⟩)|exact⟨_,rfl,u,.inr ⟨by omega,by unfold cE; rw [e.z]; rfl⟩⟩
    · have v:=sJ B;have e:=ω (xC F.z L.z (by simp [B]));rw [v];go_wp2
      go_roundw
      case rel=>exact⟨k+1,by omega,by go_num,e,u⟩
      case measure=>simp [intOf]; omega
  · have e:=ω (zV F.z (by rw [D.z]; omega));clear j;go_wp2;go_ret
    first|(guard_hyp m;exact⟨_,rfl,q,.inl ⟨rfl,by unfold cD; rw [e.z]; rfl⟩⟩)|(guard_hyp o;exact⟨_,rfl,q,.inl ⟨rfl,by unfold bU; rw [e.z]; rfl⟩⟩)|exact⟨_,rfl,q,.inl ⟨rfl,by unfold cE; rw [e.z]; rfl⟩⟩)
theorem FZ (xs:List aC) (s:ByteArray) (A:Option Addr) (n c b d:Nat) (w:World) (k:bg w w 5 A n (au aS xs)) (i:xs.length=n) (a:n<=9223372036854775807)
 (h:ζ w b 0 (.func (.func 130) #[] #[])) (j:ζ w d 0 (.string s)) :
 ψ 192 #[.slice A n c,.func (.func 232) #[] #[π b 0,π d 0]] w fun e q=>e = .returned (.bool (cD xs s).isSome)/\Below w w q:=by
 have l:=ω (sX.1 xs s A n c b d w k i a h j);clear k i a h j;go_enter Tryz.func192,Tryz.ntmps192
 go_wp2_with fail
 refine l.mono ?_;rintro e t ⟨p,rfl,g,m⟩;rcases m with ⟨rfl,a⟩ | ⟨o,a⟩
 · go_wp2;go_ret;exact⟨bA a.symm,g⟩
 · have r:decide (0<=p)=true:=t7 o;go_wp2;go_ret;exact⟨bA a.symm,g⟩
def KN (xs:List aC) (a:List ByteArray) (n:Nat) (R:Int) (w:World) (i:Value) (wr:World):Prop:=
 ∃ k:Nat,k<=n/\i = .int .i64 k/\fX (fun s=>(cD xs s).isSome) (prevK rW a k) (a.drop k)=R/\Below w w wr/\ζ wr w 0 (.func (.func 130) #[] #[])
theorem D6 (xs:List av) (s:ByteArray) (A:Option Addr) (n c b d:Nat) (w:World) (k:bg w w 3 A n (au aH xs)) (i:xs.length=n) (a:n<=9223372036854775807)
 (h:ζ w b 0 (.func (.func 133) #[] #[])) (j:ζ w d 0 (.string s)) :
 ψ 195 #[.slice A n c,.func (.func 233) #[] #[π b 0,π d 0]] w fun e q=>e = .returned (.bool (bU xs s).isSome)/\Below w w q:=by
 have l:=ω (sX.2.1 xs s A n c b d w k i a h j);clear k i a h j;go_enter Tryz.func195,Tryz.ntmps195
 go_wp2_with fail
 refine l.mono ?_;rintro e t ⟨p,rfl,g,m⟩;rcases m with ⟨rfl,a⟩ | ⟨o,a⟩
 · go_wp2;go_ret;exact⟨bA a.symm,g⟩
 · have r:decide (0<=p)=true:=t7 o;go_wp2;go_ret;exact⟨bA a.symm,g⟩
def Je (xs:List av) (a:List ByteArray) (n:Nat) (R:Int) (w:World) (i:Value) (wr:World):Prop:=
 ∃ k:Nat,k<=n/\i = .int .i64 k/\fX (fun s=>(bU xs s).isSome) (prevK rW a k) (a.drop k)=R/\Below w w wr/\ζ wr w 0 (.func (.func 133) #[] #[])
theorem C0 (xs:List ak) (s:ByteArray) (A:Option Addr) (n c b d:Nat) (w:World) (k:bg w w 3 A n (au aB xs)) (i:xs.length=n) (a:n<=9223372036854775807)
 (h:ζ w b 0 (.func (.func 136) #[] #[])) (j:ζ w d 0 (.string s)) :
 ψ 198 #[.slice A n c,.func (.func 234) #[] #[π b 0,π d 0]] w fun e q=>e = .returned (.bool (cE xs s).isSome)/\Below w w q:=by
 have l:=ω (sX.2.2 xs s A n c b d w k i a h j);clear k i a h j;go_enter Tryz.func198,Tryz.ntmps198
 go_wp2_with fail
 refine l.mono ?_;rintro e t ⟨p,rfl,g,m⟩;rcases m with ⟨rfl,a⟩ | ⟨o,a⟩
 · go_wp2;go_ret;exact⟨bA a.symm,g⟩
 · have r:decide (0<=p)=true:=t7 o;go_wp2;go_ret;exact⟨bA a.symm,g⟩
def F0 (xs:List ak) (a:List ByteArray) (n:Nat) (R:Int) (w:World) (i:Value) (wr:World):Prop:=
 ∃ k:Nat,k<=n/\i = .int .i64 k/\fX (fun s=>(cE xs s).isSome) (prevK rW a k) (a.drop k)=R/\Below w w wr/\ζ wr w 0 (.func (.func 136) #[] #[])
theorem qp :
 (∀ (a:List ByteArray) (xs:List aC) (A e:Option Addr) (n c b o:Nat) (w:World) (q:bg w w 1 A n (au kQ a)) (C:a.length=n) (U:n<=9223372036854775807) (F:nL a) (I:bg w w 5 e b (au aS xs)) (D:xs.length=b) (E:b<=9223372036854775807) (z:Tabs w),ψ 208 #[.slice A n c,.slice e b o,.func (.func 130) #[] #[]] w fun r X=>r = .returned (.int .i64 (jI (fun s=>(cD xs s).isSome) a))/\Below w w X) /\
 (∀ (a:List ByteArray) (xs:List av) (A e:Option Addr) (n c b o:Nat) (w:World) (q:bg w w 1 A n (au kQ a)) (C:a.length=n) (U:n<=9223372036854775807) (F:nL a) (I:bg w w 3 e b (au aH xs)) (D:xs.length=b) (E:b<=9223372036854775807) (z:Tabs w),ψ 209 #[.slice A n c,.slice e b o,.func (.func 133) #[] #[]] w fun r X=>r = .returned (.int .i64 (jI (fun s=>(bU xs s).isSome) a))/\Below w w X) /\
 (∀ (a:List ByteArray) (xs:List ak) (A e:Option Addr) (n c b o:Nat) (w:World) (q:bg w w 1 A n (au kQ a)) (C:a.length=n) (U:n<=9223372036854775807) (F:nL a) (I:bg w w 3 e b (au aB xs)) (D:xs.length=b) (E:b<=9223372036854775807) (z:Tabs w),ψ 210 #[.slice A n c,.slice e b o,.func (.func 136) #[] #[]] w fun r X=>r = .returned (.int .i64 (jI (fun s=>(cE xs s).isSome) a))/\Below w w X):=by
 refine⟨@fun a xs A e n c b o w q C U F I D E z=>(fun(u:Unit)=>?_) (),@fun a xs A e n c b o w q C U F I D E z=>(fun(v:Unit)=>?_) (),@fun a xs A e n c b o w q C U F I D E z=>?_⟩<;>(
 first|(guard_hyp u;have ac:Tg 3:=⟨⟩;have ah:=@FZ)|(guard_hyp v;have ac:Tg 5:=⟨⟩;have ah:=@D6)|(have ac:Tg 7:=⟨⟩;have ah:=@C0)
 first|(guard_hyp u;obtain⟨R,P⟩:∃ R,jI (fun s=>(cD xs s).isSome) a=R:=⟨_,rfl⟩)|(guard_hyp v;obtain⟨R,P⟩:∃ R,jI (fun s=>(bU xs s).isSome) a=R:=⟨_,rfl⟩)|obtain⟨R,P⟩:∃ R,jI (fun s=>(cE xs s).isSome) a=R:=⟨_,rfl⟩
 rw [P];have HR:=ω P;have K:=ω C;have ay:=ω F;have HT:=ω z;have HX:=ω (And.intro I (And.intro D E));have ax:=ω (show ∀ t,ζ (χ w #[.func (.func ac) #[] #[]] t) w 0 (.func (.func ac) #[] #[]) from fun t=>by simp [go_sem]);clear P C F z I D E
 first|(guard_hyp u;go_enter Tryz.func208,Tryz.ntmps208)|(guard_hyp v;go_enter Tryz.func209,Tryz.ntmps209)|go_enter Tryz.func210,Tryz.ntmps210
 go_wp2
 first|(guard_hyp u;go_loopw [6,7,8,11,18,20,35] (fun _ _ _ i _ _ _ wr=>KN xs a n R w i wr) (fun _ _ _ i _ _ _ _=>n - (intOf i).toNat))|(guard_hyp v;go_loopw [6,7,8,11,18,20,35] (fun _ _ _ i _ _ _ wr=>Je xs a n R w i wr) (fun _ _ _ i _ _ _ _=>n - (intOf i).toNat))|go_loopw [6,7,8,11,18,20,35] (fun _ _ _ i _ _ _ wr=>F0 xs a n R w i wr) (fun _ _ _ i _ _ _ _=>n - (intOf i).toNat)
 case atStart=>exact⟨0,Nat.zero_le _,rfl,by rw [<- HR.z]; rfl,(θ).alloc lQ _,ax.z _⟩
 case round=>
  obtain⟨k,hk,rfl,aq,Q,ag⟩:=hrel;have x:=ω aq;have Hb:=ω Q;have al:=ω ag;have a5:=Q.size;have ap:=block_lt_of_cell ag;clear aq ag;by_cases hlt:k<n
  · obtain⟨s,hf⟩:∃ s,a[k]? = some s:=⟨_,δ (by rw [K.z]; exact hlt)⟩;obtain⟨L,W,rfl,a8,hc⟩:=(q.below Q).dL gE K.z hf;have a4:=ω (ay.z s (m8 hf));have h:=ω hf;have c0:ζ wr L (W+k*1) (.string s):=hc 0 _ rfl;rw [Nat.mul_one] at c0;have a9:L<wr.heap.size:=by omega
    have aa:=(Below.refl wr wr).alloc lQ (.cells #[s] 9);have ad:=ω (Hb.trans (aa.mono a5));have a1:=ω (HT.below ad.z);have ao:=((aa.cell (p:=⟨w,0,none⟩) ap).trans al.z);have aj:=ω aa;have a7:=ω ao;clear hc hf aa ao
    go_wp2_with fail
    refine Calls.mono (kF s _ a4.z a1.z) ?_;rintro r Y ⟨rfl,ab⟩;have aw:=ω (aj.trans (ab.mono aj.size));have M:=ω (ad.trans (ab.mono ad.size));have ar:ζ Y wr 0 (.string s):=by rw [(dP ab).1 _ _ (by simp)]; simp [go_sem]
    have az:=ω ar;have S:=ω ((aw.cell (p:=⟨w,0,none⟩) ap).trans al.z);have a6:=ω ((HX.z.1.below M.z).more M.size);have aD:wr.heap.size<Y.heap.size:=block_lt_of_cell ar;clear ab Q;cases l:cP s
    · have h4:=ω (show R=4 by rw [<- x.z]; exact B3 h.z l);go_wp2;go_ret;exact⟨aX h4.symm,M⟩
    have N9:k=0\/∃ y,a[k - 1]? = some y:=by
     by_cases g:k=0
     · exact .inl g
     · exact .inr ⟨_,δ (by rw [K.z]; omega)⟩
    have N:=ω M.drew;have J:=ω (ah xs s e b o w wr Y.drew a6.drew HX.z.2.1 HX.z.2.2 S.z az.z);have aA:∀ (fn:Fn) (first am:Array Value) (w:World),(Instr.makeFunc fn first am).run Tryz.prog w = .ok (.func fn first am) w:=fun _ _ _ _=>rfl
    have ON:(k=0)\/(k≠0/\∃ y,a[k - 1]? = some y/\Op.bytesLess y.toList s.toList=true)\/(k≠0/\∃ y,a[k - 1]? = some y/\Op.bytesLess y.toList s.toList=false):=by
     rcases N9 with a0 | ⟨y,m⟩
     · exact .inl a0
     · by_cases g:k=0
       · exact .inl g
       · cases j:Op.bytesLess y.toList s.toList
         · exact .inr (.inr ⟨g,y,m,j⟩)
         · exact .inr (.inl ⟨g,y,m,j⟩)
    clear N9;rcases ON with g | ⟨g,y,m,j⟩ | ⟨g,y,m,j⟩
    · subst g
      first|(guard_hyp u;obtain⟨H,d⟩:∃ H,(cD xs s).isSome=H:=⟨_,rfl⟩)|(guard_hyp v;obtain⟨H,d⟩:∃ H,(bU xs s).isSome=H:=⟨_,rfl⟩)|obtain⟨H,d⟩:∃ H,(cE xs s).isSome=H:=⟨_,rfl⟩
      go_wp2_with fail
      go_region
      go_wp2_with fail
      rw [d] at J;refine J.mono ?_;rintro r w3 ⟨rfl,B⟩;have O:=ω (N.trans (B.mono N.size));have af:=ω ((B.cell (p:=⟨w,0,none⟩) (block_lt_of_cell S.z)).trans S.z);clear B J;cases H
      · first|(guard_hyp u;have G:=ω (lW (has:=fun s=>(cD xs s).isSome) h.z l (.inl rfl) d))|(guard_hyp v;have G:=ω (lW (has:=fun s=>(bU xs s).isSome) h.z l (.inl rfl) d))|have G:=ω (lW (has:=fun s=>(cE xs s).isSome) h.z l (.inl rfl) d)
        go_wp2
        go_roundw
        case rel=>exact⟨1,by omega,by go_num,by rw [<- G.z]; exact x.z,O,af⟩
        case measure=>simp [intOf]; omega
      · have h7:=ω (show R=7 by rw [<- x.z]; exact rI h.z l (.inl rfl) d);go_wp2;go_ret;exact⟨aX h7.symm,O⟩
    · obtain⟨b',ai,ae,xB,V⟩:=(q.below M.z).dL gE K.z m;obtain⟨rfl,rfl⟩:L=b'/\W=ai:=by simpa using ae
      have p0:ζ Y L (W+(k - 1)*1) (.string y):=V 0 _ rfl;rw [Nat.mul_one] at p0;have a3:decide ((0:Int)<(k:Int))=true:=t7 (by omega);have a2:0<k:=by omega
      have T:=j6 y.toList s.toList;have e1:(Op.bytesLess s.toList y.toList || s.toList == y.toList)=false:=by rw [<- T,j]; rfl
      first|(guard_hyp u;obtain⟨H,d⟩:∃ H,(cD xs s).isSome=H:=⟨_,rfl⟩)|(guard_hyp v;obtain⟨H,d⟩:∃ H,(bU xs s).isSome=H:=⟨_,rfl⟩)|obtain⟨H,d⟩:∃ H,(cE xs s).isSome=H:=⟨_,rfl⟩
      have Hy:=ω m;have Z:=ω j;clear V T m j
      go_wp2_with fail
      go_region
      go_wp2_with fail
      rw [d] at J;refine J.mono ?_;rintro r w3 ⟨rfl,B⟩;have O:=ω (N.trans (B.mono N.size));have af:=ω ((B.cell (p:=⟨w,0,none⟩) (block_lt_of_cell S.z)).trans S.z);clear B J;cases H
      · first|(guard_hyp u;have G:=ω (lW (has:=fun s=>(cD xs s).isSome) h.z l (.inr ⟨_,Hy,Z⟩) d))|(guard_hyp v;have G:=ω (lW (has:=fun s=>(bU xs s).isSome) h.z l (.inr ⟨_,Hy,Z⟩) d))|have G:=ω (lW (has:=fun s=>(cE xs s).isSome) h.z l (.inr ⟨_,Hy,Z⟩) d)
        go_wp2
        go_roundw
        case rel=>exact⟨k+1,by omega,by go_num,by rw [<- G.z]; exact x.z,O,af⟩
        case measure=>simp [intOf]; omega
      · have h7:=ω (show R=7 by rw [<- x.z]; exact rI h.z l (.inr ⟨_,Hy,Z⟩) d);go_wp2;go_ret;exact⟨aX h7.symm,O⟩
    · obtain⟨b',ai,ae,xB,V⟩:=(q.below M.z).dL gE K.z m;obtain⟨rfl,rfl⟩:L=b'/\W=ai:=by simpa using ae
      have p0:ζ Y L (W+(k - 1)*1) (.string y):=V 0 _ rfl;rw [Nat.mul_one] at p0;have a3:decide ((0:Int)<(k:Int))=true:=t7 (by omega);have a2:0<k:=by omega
      have T:=j6 y.toList s.toList;have e1:(Op.bytesLess s.toList y.toList || s.toList == y.toList)=true:=by rw [<- T,j]; rfl
      have h8:=ω (show R=8 by rw [<- x.z]; exact AE h.z l g m j);clear V T J m j;go_wp2
      go_region
      go_wp2;go_ret;exact⟨aX h8.symm,N⟩
  · have g:=ω (show R=0 by rw [<- x.z]; exact D7 (by rw [K.z]; omega) _);clear Q q;go_wp2;go_ret;exact⟨aX g.symm,Hb⟩)
end Go.Proofs.YtimglglgcgpjgabGreatDoor
