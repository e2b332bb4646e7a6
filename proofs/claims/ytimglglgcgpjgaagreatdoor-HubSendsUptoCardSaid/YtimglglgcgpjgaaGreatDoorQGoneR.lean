/- Of the proof of a statement: StTop, HasFL, HasF, AtL, GoneR, SameR, FrmEncR. -/
import Derived.Lib.QuietBelow
import Derived.Deep.DeepCutAuto
import Derived.Test.YtimglglgcgpjgaaGreatDoorQPlApply
import Derived.Test.YtimglglgcgpjgaaGreatDoorQWJob
set_option linter.unusedVariables false
set_option linter.unusedSimpArgs false
set_option maxRecDepth 100000
set_option maxHeartbeats 8000000
namespace Go.Proofs.YtimglglgcgpjgaaGreatDoor
open Go.RowKit
open Go.Sort (grow)
theorem pI (st:ah) (x:StA) (w:World) (i:StAt w w st x) (j:Tabs w) :
 ψ 37 #[.agg (stC st x)] w fun g m=>g = .returned (.int .i64 (aE st))/\Below w w m:=by
 have a:Below w w (χ w (stC st x) 26):=(θ).alloc lJ _;have h:=ω (Jd st x _ ((i.below a).more a.size) (j.below a));have e:=ω a;clear a i j;obtain⟨E,b⟩:∃ E,aE st=E:=⟨_,rfl⟩;rw [b];have c:=ω b;clear b;obtain⟨rev,jobs,nodes,leases⟩:=st;obtain⟨n,G,u,p,I,z,o,H,y⟩:=x;simp only [stC] at *;go_enter Tryz.func37,Tryz.ntmps37
 go_wp2_with fail
 refine h.mono ?_;rintro g J ⟨k,l⟩;have d:=ω (e.trans (k.mono e.size));clear k h;rw [c.z] at l;clear c;rcases l with ⟨b,rfl⟩ | ⟨rfl,T,q,r,s,C,D,F,B,rfl,-,-⟩
 · go_wp2;refine bodyPost_ret (v:=.int .i64 E) (by simp [results,Tryz.results37,go_sem]) rfl ⟨rfl,d⟩
 · go_wp2;refine bodyPost_ret (v:=.int .i64 0) (by simp [results,Tryz.results37,go_sem]) rfl ⟨rfl,d⟩
theorem MZ (w:World):ψ 6 #[] w fun e a=>e = .returned (.agg #[.int .i64 (-1),.slice none 0 0,.slice none 0 0,.slice none 0 0])/\Below w w a:=by
 go_enter Tryz.func6,Tryz.ntmps6;go_wp2;refine bodyPost_ret (v:=.agg #[.int .i64 (-1),.slice none 0 0,.slice none 0 0,.slice none 0 0]) (by simp [results,Tryz.results6,go_sem]) rfl ⟨rfl,?_⟩;exact (θ).alloc lJ _
def Ig:ah:=⟨-1,[],[],[]⟩
def badA:StA:=⟨none,0,0,none,0,0,none,0,0⟩
theorem PG (w:World) (B:Nat):StAt w B Ig badA:=
 ⟨bC.nil,bC.nil,bC.nil,rfl,rfl,rfl,by decide,by decide,by decide,(fun _ h=>by cases h),(fun _ h=>by cases h),(fun _ h=>by cases h)⟩
theorem Je:aE Ig=1:=Aq rfl
def lN {α:Type} (p:α->Bool) (F:FuncId) (b:Array Value) (enc:α->List Value) (xs:List α) (w:World):Prop:=
 ∀ W,Below w w W->∀ x ∈ xs,ψ F (#[.agg (enc x).toArray] ++ b) W fun e a=>e = .returned (.bool (p x))/\Below W.heap.size W a
def AL {α:Type} (p:α->Bool) (xs:List α) (n:Nat) (w:World) (i:Value) (wr:World):Prop:=∃ k:Nat,k<=n/\i = .int .i64 k/\(xs.take k).any p=false/\Below w w wr
def C4 {α:Type} (p:α->Bool) (xs:List α) (w:World) (e:Ending) (w':World):Prop:=
 ∃ i:Int,e = .returned (.int .i64 i)/\Below w w w'/\((i = -1/\xs.any p=false)\/(0<=i/\xs.any p=true))
theorem zS {α:Type} {p:α->Bool} {xs:List α} {k:Nat} {x:α} (h:xs[k]? = some x) (a:p x=true):xs.any p=true:=List.any_eq_true.2 ⟨x,m8 h,a⟩
theorem wL {α:Type} {p:α->Bool} {xs:List α} {k:Nat} {x:α} (h:xs[k]? = some x) (b:(xs.take k).any p=false) (a:p x=false):(xs.take (k+1)).any p=false:=by
 rw [List.take_add_one,h,List.any_append,b]; simp [a]
theorem Ih {α:Type} {p:α->Bool} {xs:List α} {k:Nat} (b:(xs.take k).any p=false) (a:xs.length<=k):xs.any p=false:=by rwa [List.take_of_length_le a] at b
def tq (a:Type) (e:Nat) (d:a->List Value) (f:FuncId):Prop:=
 ∀ (p:a->Bool) (F:FuncId) (b:Array Value) (xs:List a) (A:Option Addr) (n c:Nat) (w:World) (g:∀ args w,(callFunc F args).run Tryz.prog w = .ok (.enter F args) w) (k:bC w w e A n (au d xs)) (h:xs.length=n) (i:n<=9223372036854775807) (j:lN p F b d xs w),ψ f #[.slice A n c,.func (.func F) #[] b] w (C4 p xs w)
theorem tu:tq ak 3 aB 222 /\ tq aC 5 aS 227 /\ tq av 3 aH 229:=by
 refine⟨@fun p F c o A n G B K h l L m=>(fun(v:Unit)=>?_) (),@fun p F c o A n G B K h l L m=>(fun(w:Unit)=>?_) (),@fun p F c o A n G B K h l L m=>(fun(P:Unit)=>?_) ()⟩<;>(
 first|(guard_hyp v;have y:=@aI)|(guard_hyp w;have y:=@aT)|(have y:=@aO)
 have r:=ω l;have N:=ω m;clear l m
 first|(guard_hyp v;go_enter Tryz.func222,Tryz.ntmps222)|(guard_hyp w;go_enter Tryz.func227,Tryz.ntmps227)|go_enter Tryz.func229,Tryz.ntmps229
 go_wp2
 go_loopw [4,5,8,16] (fun _ _ u _ wr=>AL p o n B u wr) (fun _ _ u _ _=>n - (intOf u).toNat)
 case atStart=>exact⟨0,Nat.zero_le _,rfl,by simp,θ⟩
 case round=>
  obtain⟨k,Z,rfl,M,g⟩:=hrel;have I:=ω M;have q:=ω g;have ab:=g.size;clear M;by_cases hlt:k<n
  · obtain⟨x,j⟩:∃ x,o[k]? = some x:=⟨_,gO (by rw [r.z]; exact hlt)⟩;obtain⟨O,ac,rfl,Y,i⟩:=(h.below g).eC y r.z j;have D:=ω j;have a:=ω (N.z wr g x (m8 j));obtain⟨t,s⟩:∃ t,p x=t:=⟨_,rfl⟩;rw [s] at a;have E:=ω s
    first
     |(
      guard_hyp v
      obtain⟨job,node,U⟩:=x;obtain⟨c0,H,c2⟩:=rc3 i;have a:=ω (show ψ F (#[.agg #[job,node,U]] ++ c) wr fun e b=>e = .returned (.bool t)/\Below wr wr b from a.z))
     |(
      guard_hyp w
      obtain⟨z,R,Q,V,T⟩:=x;obtain⟨c0,H,c2,X,c4⟩:=rc5 i;have a:=ω (show ψ F (#[.agg #[z,R,Q,V,T]] ++ c) wr fun e b=>e = .returned (.bool t)/\Below wr wr b from a.z))
     |(
      guard_hyp P
      obtain⟨z,S,W⟩:=x;obtain⟨c0,H,c2⟩:=rc3 i;have a:=ω (show ψ F (#[.agg #[z,S,W]] ++ c) wr fun e b=>e = .returned (.bool t)/\Below wr wr b from a.z))
    clear i j h g s;have aa:O<wr.heap.size:=by omega
    go_wp2_with fail
    refine a.mono ?_;rintro e w2 ⟨rfl,J⟩;have C:=ω (q.trans (J.mono q.size));clear a J;cases t
    · have d:=ω (wL D.z I.z E.z);go_wp2
      go_roundw
      case rel=>exact⟨k+1,by omega,by go_num,d.z,C.z⟩
      case measure=>simp [intOf]; omega
    · have d:=ω (zS D.z E.z);go_wp2;go_ret;exact⟨_,rfl,C,.inr ⟨by omega,d⟩⟩
  · have d:=ω (Ih I.z (by rw [r.z]; omega));clear h;go_wp2;go_ret;exact⟨_,rfl,q,.inl ⟨rfl,d⟩⟩)
def rJ (a:Type) (f:Nat) (d:a->List Value) (g:FuncId):Prop:=
 ∀ (p:a->Bool) (F:FuncId) (b:Array Value) (xs:List a) (A:Option Addr) (n c:Nat) (w:World) (i:∀ args w,(callFunc F args).run Tryz.prog w = .ok (.enter F args) w) (m:bC w w f A n (au d xs)) (j:xs.length=n) (k:n<=9223372036854775807) (l:lN p F b d xs w),ψ g #[.slice A n c,.func (.func F) #[] b] w fun e h=>e = .returned (.bool (xs.any p))/\Below w w h
theorem rD:rJ ak 3 aB 197 /\ rJ aC 5 aS 191 /\ rJ av 3 aH 194:=by
 refine⟨@fun p F h j A n g w b e c a d=>(fun(l:Unit)=>?_) (),@fun p F h j A n g w b e c a d=>(fun(m:Unit)=>?_) (),@fun p F h j A n g w b e c a d=>?_⟩<;>(
 first|(guard_hyp l;have i:=@tu.1)|(guard_hyp m;have i:=@tu.2.1)|(have i:=@tu.2.2)
 have o:=ω (i p F h j A n g w b e c a d);clear e c a d b
 first|(guard_hyp l;go_enter Tryz.func197,Tryz.ntmps197)|(guard_hyp m;go_enter Tryz.func191,Tryz.ntmps191)|go_enter Tryz.func194,Tryz.ntmps194
 go_wp2_with fail
 refine o.mono ?_;rintro u v ⟨s,rfl,k,q⟩;rcases q with ⟨rfl,a⟩ | ⟨r,a⟩
 · go_wp2;go_ret;exact⟨bB a.symm,k⟩
 · have t:decide (0<=s)=true:=t8 r;go_wp2;go_ret;exact⟨bB a.symm,k⟩)
def Em (xs:List ak) (s:ByteArray) (w:World) (e:Ending) (w':World):Prop:=
 ∃ i:Int,e = .returned (.int .i64 i)/\Below w w w'/\((i = -1/\cD xs s=none)\/∃ (k:Nat) (x:ak),i=(k:Int)/\xs[k]? = some x/\cD xs s=some x)
def F6 (xs:List ak) (s:ByteArray) (n:Nat) (w:World) (i:Value) (wr:World):Prop:=∃ k:Nat,k<=n/\i = .int .i64 k/\(xs.take k).find? (fun x=>decide (x.job=s))=none/\Below w w wr
theorem qc (xs:List ak) (s:ByteArray) (A:Option Addr) (n c:Nat) (w:World) (l:bC w w 3 A n (au aB xs)) (q:xs.length=n) (E:n<=9223372036854775807) :
 ψ 108 #[.slice A n c,s] w (Em xs s w):=by
 have g:=ω q;clear q;go_enter Tryz.func108,Tryz.ntmps108;go_wp2
 go_loopw [4,5,6,9] (fun _ _ _ m wr=>F6 xs s n w m wr) (fun _ _ _ m _=>n - (intOf m).toNat)
 case atStart=>exact⟨0,Nat.zero_le _,rfl,by simp,θ⟩
 case round=>
  obtain⟨k,C,rfl,r,b⟩:=hrel;have h:=ω r;have d:=ω b;have F:=b.size;clear r;by_cases hlt:k<n
  · obtain⟨x,i⟩:∃ x,xs[k]? = some x:=⟨_,gO (by rw [g.z]; exact hlt)⟩;obtain⟨u,G,rfl,B,p⟩:=(l.below b).eC aI g.z i;have e:=ω i;obtain⟨job,node,y⟩:=x;obtain⟨c0,z,c2⟩:=rc3 p;clear p i l b;have D:u<wr.heap.size:=by omega
    have o:=ω (d.alloc d.size (.cells #[job,node,y] 66));by_cases j:job=s
    · subst j;have v:=qM job;have a:=ω (As h.z e.z (by simp));go_wp2;go_ret;exact⟨_,rfl,o,.inr ⟨k,_,rfl,e,a⟩⟩
    · have v:=sQ j;have a:=ω (xY h.z e.z (by simp [j]));go_wp2
      go_roundw
      case rel=>exact⟨k+1,by omega,by go_num,a.z,o.z⟩
      case measure=>simp [intOf]; omega
  · have a:=ω (Au h.z (by rw [g.z]; omega));clear l;go_wp2;go_ret;exact⟨_,rfl,d,.inl ⟨rfl,a⟩⟩
def KY (xs:List ByteArray):Prop:=∀ x ∈ xs,x.size<=9223372036854775807
theorem sS (l:ak) (w:World) (h:l.job.size<=9223372036854775807) (i:l.node.size<=9223372036854775807) :
 ψ 95 #[.agg (aB l).toArray] w fun e n=>e = .returned (.int .i64 (lsE l))/\Below w w n:=by
 obtain⟨E,d⟩:∃ E,lsE l=E:=⟨_,rfl⟩;rw [d];have b:=ω d;clear d;obtain⟨job,node,k⟩:=l;unfold aB;simp only at h i |-;have a:=ω ((Below.refl w w).alloc lJ (.cells #[job,node,k] 66));go_enter Tryz.func95,Tryz.ntmps95
 go_wp2_with fail
 refine Calls.mono (l9 _ _ h) ?_;rintro e m ⟨rfl,rfl⟩;cases c:cP job
 · go_wp2;go_ret;exact⟨aY (by rw [<- b.z]; simp [lsE,c]),a⟩
 go_wp2_with fail
 refine Calls.mono (l9 _ _ i) ?_;rintro e m ⟨rfl,rfl⟩;cases g:cP node
 · go_wp2;go_ret;exact⟨aY (by rw [<- b.z]; simp [lsE,c,g]),a⟩
 go_wp2_with fail
 refine Calls.mono (dF _ _ _ _) ?_;rintro e m ⟨rfl,rfl⟩;cases j:ranged k 0 1099511627776
 · go_wp2;go_ret;exact⟨aY (by rw [<- b.z]; simp [lsE,c,g,j]),a⟩
 go_wp2;go_ret;exact⟨aY (by rw [<- b.z]; simp [lsE,c,g,j]),a⟩
theorem I3 (xs:List aC) (s:ByteArray) (A:Option Addr) (n c g:Nat) (w:World) (i:bC w w 5 A n (au aS xs)) (h:xs.length=n) (a:n<=9223372036854775807) (p:ζ w g 2 (.slice A n c)) :
 ψ 118 #[s,π g 0] w fun e l=>e = .returned (.bool (cC xs s).isSome)/\Below w w l:=by
 have j:=ω (fJ.1 xs s A n c w i h a);clear i h a;go_enter Tryz.func118,Tryz.ntmps118
 go_wp2_with fail
 refine j.mono ?_;rintro e r ⟨q,rfl,d,k⟩;rcases k with ⟨rfl,a⟩ | ⟨m,x,rfl,-,a⟩
 · have b:=ω (show false=(cC xs s).isSome by rw [a]; rfl);clear a;go_wp2;go_ret;exact⟨bB b.z,d⟩
 · have b:=ω (show true=(cC xs s).isSome by rw [a]; rfl);have o:decide ((0:Int)<=(m:Int))=true:=t8 (by omega);clear a;go_wp2;go_ret;exact⟨bB b.z,d⟩
theorem FX (xs:List av) (s:ByteArray) (A:Option Addr) (n c g:Nat) (w:World) (i:bC w w 3 A n (au aH xs)) (h:xs.length=n) (a:n<=9223372036854775807) (p:ζ w g 3 (.slice A n c)) :
 ψ 119 #[s,π g 0] w fun e l=>e = .returned (.bool (bU xs s).isSome)/\Below w w l:=by
 have j:=ω (fJ.2 xs s A n c w i h a);clear i h a;go_enter Tryz.func119,Tryz.ntmps119
 go_wp2_with fail
 refine j.mono ?_;rintro e r ⟨q,rfl,d,k⟩;rcases k with ⟨rfl,a⟩ | ⟨m,x,rfl,-,a⟩
 · have b:=ω (show false=(bU xs s).isSome by rw [a]; rfl);clear a;go_wp2;go_ret;exact⟨bB b.z,d⟩
 · have b:=ω (show true=(bU xs s).isSome by rw [a]; rfl);have o:decide ((0:Int)<=(m:Int))=true:=t8 (by omega);clear a;go_wp2;go_ret;exact⟨bB b.z,d⟩
theorem Ee (xs:List ak) (s:ByteArray) (A:Option Addr) (n c g:Nat) (w:World) (i:bC w w 3 A n (au aB xs)) (h:xs.length=n) (a:n<=9223372036854775807) (p:ζ w g 4 (.slice A n c)) :
 ψ 120 #[s,π g 0] w fun e l=>e = .returned (.bool (cD xs s).isSome)/\Below w w l:=by
 have j:=ω (qc xs s A n c w i h a);clear i h a;go_enter Tryz.func120,Tryz.ntmps120
 go_wp2_with fail
 refine j.mono ?_;rintro e r ⟨q,rfl,d,k⟩;rcases k with ⟨rfl,a⟩ | ⟨m,x,rfl,-,a⟩
 · have b:=ω (show false=(cD xs s).isSome by rw [a]; rfl);clear a;go_wp2;go_ret;exact⟨bB b.z,d⟩
 · have b:=ω (show true=(cD xs s).isSome by rw [a]; rfl);have o:decide ((0:Int)<=(m:Int))=true:=t8 (by omega);clear a;go_wp2;go_ret;exact⟨bB b.z,d⟩
def OD (has:ByteArray->Bool) (a:List ByteArray) (n:Nat) (R:Int) (w:World) (i:Value) (wr:World):Prop:=
 ∃ k:Nat,k<=n/\i = .int .i64 k/\fW has (prevK rW a k) (a.drop k)=R/\Below w w wr
theorem qp (has:ByteArray->Bool) (F:FuncId) (P:Value) (d:List ByteArray) (A:Option Addr) (n c:Nat) (w:World) (l:bC w w 1 A n (au lR d)) (T:d.length=n) (hn:n<=9223372036854775807) (U:KY d) (af:∀ args w,(callFunc F args).run Tryz.prog w = .ok (.enter F args) w)
 (Q:∀ s W,Below w w W->ψ F #[.string s,P] W fun r M=>r = .returned (.bool (has s))/\Below W.heap.size W M) :
 ψ 117 #[.slice A n c,.func (.func F) #[] #[P]] w fun r M=>r = .returned (.int .i64 (jL has d))/\Below w w M:=by
 obtain⟨R,E⟩:∃ R,jL has d=R:=⟨_,rfl⟩;rw [E];have Z:=ω E;have p:=ω T;have aa:=ω U;have Y:=ω Q;clear E T U Q;go_enter Tryz.func117,Tryz.ntmps117;go_wp2
 go_loopw [4,5,6,9,15,30] (fun _ _ _ J _ _ wr=>OD has d n R w J wr) (fun _ _ _ J _ _ _=>n - (intOf J).toNat)
 case atStart=>exact⟨0,Nat.zero_le _,rfl,by rw [<- Z.z]; rfl,θ⟩
 case round=>
  obtain⟨k,hk,rfl,V,e⟩:=hrel;have i:=ω V;have g:=ω e;have ah:=e.size;clear V;by_cases hlt:k<n
  · obtain⟨s,B⟩:∃ s,d[k]? = some s:=⟨_,gO (by rw [p.z]; exact hlt)⟩;obtain⟨q,z,rfl,ae,S⟩:=(l.below e).eC iY p.z B;have ad:=ω (aa.z s (m8 B));have o:=ω B;have c0:ζ wr q (z+k*1) (.string s):=S 0 _ rfl;rw [Nat.mul_one] at c0;have ag:q<wr.heap.size:=by omega
    clear S B
    go_wp2_with fail
    refine Calls.mono (l9 s _ ad.z) ?_;rintro r w1 ⟨rfl,rfl⟩;cases t:cP s
    · have h4:=ω (show R=4 by rw [<- i.z]; exact Cf o.z t);go_wp2;go_ret;exact⟨aY h4.symm,g⟩
    have OC:(k=0)\/(k≠0/\∃ y,d[k - 1]? = some y/\Op.bytesLess y.toList s.toList=true)\/(k≠0/\∃ y,d[k - 1]? = some y/\Op.bytesLess y.toList s.toList=false):=by
     by_cases a:k=0
     · exact .inl a
     · obtain⟨y,b⟩:∃ y,d[k - 1]? = some y:=⟨_,gO (by rw [p.z]; omega)⟩;cases h:Op.bytesLess y.toList s.toList
       · exact .inr (.inr ⟨a,_,b,h⟩)
       · exact .inr (.inl ⟨a,_,b,h⟩)
    have m:=ω (Y.z s wr g.z);rcases OC with a | ⟨a,y,b,h⟩ | ⟨a,y,b,h⟩
    · subst a;obtain⟨H,j⟩:∃ H,has s=H:=⟨_,rfl⟩;clear e l
      go_wp2_with fail
      rw [j] at m;refine m.mono ?_;rintro r w3 ⟨rfl,v⟩;have u:=ω (g.trans (v.mono g.size));clear v m;cases H
      · have I:=ω (l7 (has:=has) o.z t (.inl rfl) j);go_wp2
        go_roundw
        case rel=>exact⟨1,by omega,by go_num,by rw [<- I.z]; exact i.z,u.z⟩
        case measure=>simp [intOf]; omega
      · have D:=ω (show R=7 by rw [<- i.z]; exact rI o.z t (.inl rfl) j);go_wp2;go_ret;exact⟨aY D.symm,u⟩
    · obtain⟨C,K,G,X,x⟩:=(l.below e).eC iY p.z b;obtain⟨rfl,rfl⟩:q=C/\z=K:=by simpa using G
      have L:ζ wr q (z+(k - 1)*1) (.string y):=x 0 _ rfl;rw [Nat.mul_one] at L;have ac:decide ((0:Int)<(k:Int))=true:=t8 (by omega);have ab:0<k:=by omega
      obtain⟨H,j⟩:∃ H,has s=H:=⟨_,rfl⟩;have O:=ω b;have N:=ω h;have e1:(!Op.bytesLess y.toList s.toList)=false:=by rw [h]; rfl
      clear x b e l
      go_wp2_with fail
      rw [j] at m;refine m.mono ?_;rintro r w3 ⟨rfl,v⟩;have u:=ω (g.trans (v.mono g.size));clear v m;cases H
      · have I:=ω (l7 (has:=has) o.z t (.inr ⟨_,O,N⟩) j);go_wp2
        go_roundw
        case rel=>exact⟨k+1,by omega,by go_num,by rw [<- I.z]; exact i.z,u.z⟩
        case measure=>simp [intOf]; omega
      · have D:=ω (show R=7 by rw [<- i.z]; exact rI o.z t (.inr ⟨_,O,N⟩) j);go_wp2;go_ret;exact⟨aY D.symm,u⟩
    · obtain⟨C,K,G,X,x⟩:=(l.below e).eC iY p.z b;obtain⟨rfl,rfl⟩:q=C/\z=K:=by simpa using G
      have L:ζ wr q (z+(k - 1)*1) (.string y):=x 0 _ rfl;rw [Nat.mul_one] at L;have ac:decide ((0:Int)<(k:Int))=true:=t8 (by omega);have ab:0<k:=by omega
      have h8:=ω (show R=8 by rw [<- i.z]; exact AI o.z t a b h);have e1:(!Op.bytesLess y.toList s.toList)=true:=by rw [h]; rfl
      clear x m b e l;go_wp2;go_ret;exact⟨aY h8.symm,g⟩
  · have a:=ω (show R=0 by rw [<- i.z]; exact El (by rw [p.z]; omega) _);clear e l;go_wp2;go_ret;exact⟨aY a.symm,g⟩
def pN (st st':ah) (w:World) (e:Ending) (w':World):Prop:=∃ t:Bool,e = .returned (.bool t)/\(t=true↔st=st')/\Below w w w'
theorem pN.no {st st':ah} {w w':World} (h:st≠st') (b:Below w w w'):pN st st' w (.returned (.bool false)) w':=⟨false,rfl,⟨fun h=>(by cases h),fun a=>absurd a h⟩,b⟩
theorem StAt.up {w w':World} {st:ah} {x:StA} (b:StAt w w st x) (a:Below w w w'):StAt w' w' st x:=(b.below a).more a.size
theorem bC.up {w w':World} {sz n:Nat} {A:Option Addr} {xs:List Value} (h:bC w w sz A n xs) (a:Below w w w'):bC w' w' sz A n xs:=(h.below a).more a.size
theorem wM (st st':ah) (x g:StA) (w:World) (O:StAt w w st x) (P:StAt w w st' g) :
 ψ 9 #[.agg (stC st x),.agg (stC st' g)] w (pN st st' w):=by
 have C:Below w w (χ w (stC st x) 26):=(θ).alloc lJ _;have Q:=C.alloc C.size (.cells (stC st' g) 26);have u:=ω (show Blk ((w.alloc (.cells (stC st x) 26)).alloc (.cells (stC st' g) 26)) w 26 (stC st x) from Blk.alloc (show Blk _ _ _ _ from n5 w _) _)
 have v:=ω (show Blk ((w.alloc (.cells (stC st x) 26)).alloc (.cells (stC st' g) 26)) (w.heap.size+1) 26 (stC st' g) from by
  have h:=n5 (χ w (stC st x) 26) (.cells (stC st' g) 26);rwa [show (w.alloc (.cells (stC st x) 26)).heap.size=w.heap.size+1 by simp] at h)
 have m:=ω Q;have d:=ω O;have e:=ω P;clear C Q O P;obtain⟨rev,jobs,nodes,leases⟩:=st;obtain⟨aj,nj,cj,H,T,L,F,R,J⟩:=x;obtain⟨B,k,o,p⟩:=st';obtain⟨ab,ad,ac,I,U,M,G,S,K⟩:=g;unfold stC at *;dsimp only at *;by_cases s:rev=B;rotate_left
 · have e1:(rev == B)=false:=beq_eq_false_iff_ne.2 s;have i:=ω (pN.no (st:=⟨rev,jobs,nodes,leases⟩) (st':=⟨B,k,o,p⟩) (fun h=>s (by injection h)) m.z);clear s;go_enter Tryz.func9,Tryz.ntmps9;go_wp2;go_ret;exact i
 subst s;have D:=ω (Ay.1 jobs k aj ab nj ad cj ac _ (d.j.up m.z) (e.j.up m.z) d.lj e.lj d.bj e.bj);have E:=ω (fun W (a:Below w w W)=>Ay.2.1 nodes o H I T U L M W (d.n.up a) (e.n.up a) d.ln e.ln d.bn e.bn);have Y:=ω (fun W (a:Below w w W)=>Ay.2.2 leases p F G R S J K W (d.l.up a) (e.l.up a) d.ll e.ll d.bl e.bl);go_enter Tryz.func9,Tryz.ntmps9
 go_wp2_with fail
 refine D.mono ?_;rintro N V ⟨t,rfl,b,a⟩;have c:=m.trans (a.mono m.size);cases t
 · have i:=ω (pN.no (st:=⟨rev,jobs,nodes,leases⟩) (st':=⟨rev,k,o,p⟩) (fun h=>absurd (b.2 (by injection h)) (by decide)) c);clear b a c;go_wp2;go_ret;exact i
 have Hj:=ω (b.1 rfl);have q:=ω (u.below a u.lt);have r:=ω (v.below a v.lt);have y:=ω c;have y2:ζ V w 2 (.slice H T L):=q.cell 2;have z2:ζ V (w.heap.size+1) 2 (.slice I U M):=r.cell 2;clear b a c u v D
 go_wp2_with fail
 refine Calls.mono (E.z _ y.z) ?_;rintro N X ⟨t,rfl,b,a⟩;have c:=y.trans (a.mono y.size);cases t
 · have i:=ω (pN.no (st:=⟨rev,jobs,nodes,leases⟩) (st':=⟨rev,k,o,p⟩) (fun h=>absurd (b.2 (by injection h)) (by decide)) c);clear b a c;go_wp2;go_ret;exact i
 have Hn:=ω (b.1 rfl);have Z:=ω (q.below a q.lt);have aa:=ω (r.below a r.lt);have z:=ω c;clear y2 z2;have y3:ζ X w 3 (.slice F R J):=Z.cell 3;have z3:ζ X (w.heap.size+1) 3 (.slice G S K):=aa.cell 3;clear b a c q r E
 go_wp2_with fail
 refine Calls.mono (Y.z _ z.z) ?_;rintro N w3 ⟨t,rfl,b,a⟩;have c:=z.trans (a.mono z.size);have i:=ω (show pN ⟨rev,jobs,nodes,leases⟩ ⟨rev,k,o,p⟩ w (.returned (.bool t)) w3 from ⟨t,rfl,⟨fun h=>by rw [Hj.z,Hn.z,b.1 h],fun h=>b.2 (by injection h)⟩,c⟩);clear b a c;go_wp2;go_ret;exact i
theorem Eo (v k:Int) (p:ByteArray) (w:World) :
 ψ 64 #[.agg #[v,k,p]] w (iq v k p w):=by
 by_cases n:v<1\/3<v
 · have b:=ω (fun (a:World)=>iq.arg (v:=v) (k:=k) (p:=p) (w:=w) (w':=a) (by omega));have H:=ω n;clear n;go_enter Tryz.func64,Tryz.ntmps64
   go_wp2_with (go_at_call 15; refine (eE _ _ _ H.z _).mono ?_; rintro e a ⟨rfl,rfl⟩)
   go_ret2;exact b.z _ ((θ).alloc lJ _)
 have o:1<=v:=by omega
 have q:v<=3:=by omega
 clear n;by_cases m:k<1\/4<k
 · have b:=ω (fun (a:World)=>iq.arg (v:=v) (k:=k) (p:=p) (w:=w) (w':=a) (by omega));have G:=ω m;clear m;go_enter Tryz.func64,Tryz.ntmps64
   go_wp2_with fail
   refine Calls.mono (dh _ _ _ o q _) ?_;rintro e a ⟨rfl,rfl⟩
   go_wp2_with fail
   refine Calls.mono (eE _ _ _ G.z _) ?_;rintro e a ⟨rfl,rfl⟩;go_wp2;go_ret2;exact b.z _ ((θ).alloc lJ _)
 have D:1<=k:=by omega
 have E:k<=4:=by omega
 clear m;by_cases F:6000<p.size
 · have b:=ω (fun (a:World)=>iq.large (v:=v) (k:=k) (p:=p) (w:=w) (w':=a) (by omega) F);go_enter Tryz.func64,Tryz.ntmps64
   go_wp2_with fail
   refine Calls.mono (dh _ _ _ o q _) ?_;rintro e a ⟨rfl,rfl⟩
   go_wp2_with fail
   refine Calls.mono (dh _ _ _ D E _) ?_;rintro e a ⟨rfl,rfl⟩;go_wp2;go_ret2;exact b.z _ ((θ).alloc lJ _)
 have Z:IntKind.u64.wrap v=v:=by rw [IntKind.wrap_u64]; omega
 have X:IntKind.u64.wrap k=k:=by rw [IntKind.wrap_u64]; omega
 have Y:IntKind.u64.wrap (p.size:Int)=p.size:=by rw [IntKind.wrap_u64]; omega
 have O:=(dO p.size).2;have T:¬ 9223372036854775807<4+(bg p.size).length:=by omega
 have c2:¬ 9223372036854775807<4+(bg p.size).length+p.size:=by omega
 have u:=ω (Ep v.toNat k.toNat p.data.toList);have b:=ω (fun (s:ByteArray) (a:World)=>iq.ok (v:=v) (k:=k) (p:=p) (w:=w) (w':=a) (s:=s) (by omega) F);have I:=ω (show ((p.size:Int)).toNat<128 ^ 10 from by omega);clear O;go_enter Tryz.func64,Tryz.ntmps64
 go_wp2_with fail
 refine Calls.mono (dh _ _ _ o q _) ?_;rintro e a ⟨rfl,rfl⟩
 go_wp2_with fail
 refine Calls.mono (dh _ _ _ D E _) ?_;rintro e a ⟨rfl,rfl⟩
 go_wp2_with fail
 generalize g:w.alloc (.cells #[v,k,p] 78)=c;have B:Below w w c:=by rw [<- g]; exact (θ).alloc lJ _
 have g0:ζ c w 0 (.int .i64 v):=by rw [<- g]; simp [go_sem]
 have x:ζ c w 1 (.int .i64 k):=by rw [<- g]; simp [go_sem]
 have y:ζ c w 2 (.string p):=by rw [<- g]; simp [go_sem]
 have K:=fun d h=>cell_regrown g0 d h;have L:=fun d h=>cell_regrown x d h;have M:=fun d h=>cell_regrown y d h;have j:=ω B;clear g g0 x y B;refine wp_region_quiet_below (by kernel_rfl) (by kernel_rfl) ?_
 repeat (quiet_step ((first | (go_at_call 126; exact Calls.regrown_of (pV _ _ (by omega) (by omega))) | (go_at_call 121; exact Calls.regrown_of (qd 10 _ _ (by omega) (by omega) I.z (by omega))))))
 refine wpQuiet_nil ?_;intro _ P;obtain⟨⟨nq,osq⟩,hw''⟩:=P;subst hw'';have i:=j.trans ((below_regrown c nq osq).mono j.size);clear K L M j;generalize grow (redrawn c nq) osq=Q at i;clear c;obtain⟨S,l⟩:∃ S:ByteArray,S=(({ data:=#[66,75] } ++ { data:=#[UInt8.ofNat v.toNat] } ++ { data:=#[UInt8.ofNat k.toNat] } ++ { data:=(bg p.size).toArray } ++ p):ByteArray):=⟨_,rfl⟩;rw [<- l]
 have r:=ω (show S.data.toList=BJ v.toNat k.toNat p.data.toList from by
  rw [l];simp only [ByteArray.toList_data_append,BJ];have e:p.data.toList.length=p.size:=by rw [Array.length_toList]; rfl
  rw [e]; simp)
 have V:S.size<=6015:=by
  have N:=u.z;rw [<- r.z] at N;have e:p.data.toList.length=p.size:=by rw [Array.length_toList]; rfl
  have U:S.data.toList.length=S.size:=by rw [Array.length_toList]; rfl
  omega
 clear l u
 go_wp2_with fail
 refine Calls.mono (Cb S Q (by omega)) ?_;rintro e R ⟨rfl,C⟩;have z:=i.trans (C.mono i.size);clear i C;have W:(pC S.data.toList).length<=4:=Nat.le_refl 4;have J:=ω (b.z (S ++ ⟨(pC S.data.toList).toArray⟩) R (by rw [ByteArray.toList_data_append,r.z]; rfl) z);clear b z;go_wp2;go_ret2;exact J
end Go.Proofs.YtimglglgcgpjgaaGreatDoor
