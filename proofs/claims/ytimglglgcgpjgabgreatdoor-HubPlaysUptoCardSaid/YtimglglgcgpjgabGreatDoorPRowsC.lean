/- Of the proof of a statement: RowsC, DChk, GoneR. -/
import Derived.Lib.QuietBelow
import Derived.Deep.QuietTactic
import Derived.BigQuiet
import Derived.Test.YtimglglgcgpjgabGreatDoorPEqRows
import Derived.Test.YtimglglgcgpjgabGreatDoorPGone
set_option linter.unusedVariables false
set_option linter.unusedSimpArgs false
set_option maxRecDepth 100000
set_option maxHeartbeats 8000000
namespace Go.Proofs.YtimglglgcgpjgabGreatDoor
open List (foldl_cons foldl_nil setIfInBounds_toArray set_cons_succ set_cons_zero)
open Go.RowKit
theorem tH (n lo hi:Int) (w:World):ψ 206 #[n,lo,hi] w fun e c=>e = .returned (.bool (ranged n lo hi))/\w=c:=by
 cases h:ranged n lo hi
 · have h:=fT.1 h;by_cases a:lo<=n
   · have b:decide (n<=hi)=false:=fQ (by omega);clear h;go_enter Tryz.func206,Tryz.ntmps206;go_wp2;go_ret;exact⟨rfl,rfl⟩
   · have d:decide (lo<=n)=false:=fQ a;clear h;go_enter Tryz.func206,Tryz.ntmps206;go_wp2;go_ret;exact⟨rfl,rfl⟩
 · have h:=aM.1 h;have a:=h.1;have b:decide (n<=hi)=true:=t7 h.2;clear h;go_enter Tryz.func206,Tryz.ntmps206;go_wp2;go_ret;exact⟨rfl,rfl⟩
theorem Bu (l:ak) (w:World) (s:l.job.size<=9223372036854775807) (u:l.node.size<=9223372036854775807) (x:Tabs w) :
 ψ 207 #[.agg (aB l).toArray] w fun e C=>e = .returned (.int .i64 (lsE l))/\Below w w C:=by
 obtain⟨E,j⟩:∃ E,lsE l=E:=⟨_,rfl⟩;rw [j];have c:=ω j;clear j;obtain⟨job,node,p⟩:=l;unfold aB;simp only at s u |-;have m:Below w w (χ w #[job,node,p] 77):=(θ).alloc lQ _;have k:=x.below m;have v:=ω (kF job _ s k);have q:=ω k;have h:=ω m;clear k m x;go_enter Tryz.func207,Tryz.ntmps207
 go_wp2_with fail
 refine v.mono ?_;rintro e g ⟨rfl,a⟩;have D:ζ g w 1 (.string node):=by rw [(dP a).1 _ _ (by simp)]; simp [go_sem]
 have B:ζ g w 2 (.int .i64 p):=by rw [(dP a).1 _ _ (by simp)]; simp [go_sem]
 have b:=ω (h.trans (a.mono h.size));have r:=ω (q.below a);have z:w.heap.size<g.heap.size:=by have:=a.size; simp at this; omega
 clear a h q v;cases d:cP job
 · go_wp2;go_ret;exact⟨aX (by rw [<- c.z]; simp [lsE,d]),b⟩
 go_wp2_with fail
 refine Calls.mono (kF node g u r.z) ?_;rintro e F ⟨rfl,n⟩;replace B:=((dP n).1 _ _ z).trans B;have i:=ω (b.trans (n.mono b.size));clear D n b r z;cases o:cP node
 · go_wp2;go_ret;exact⟨aX (by rw [<- c.z]; simp [lsE,d,o]),i⟩
 go_wp2_with fail
 refine Calls.mono (tH _ _ _ _) ?_;rintro e G ⟨rfl,rfl⟩;cases y:ranged p 0 1099511627776
 · go_wp2;go_ret;exact⟨aX (by rw [<- c.z]; simp [lsE,d,o,y]),i⟩
 · go_wp2;go_ret;exact⟨aX (by rw [<- c.z]; simp [lsE,d,o,y]),i⟩
def JS (xs:List ak):Prop:=∀ x ∈ xs,x.job.size<=9223372036854775807/\x.node.size<=9223372036854775807
def JT (xs:List ak) (n:Nat) (R:Int) (w:World) (i:Value) (wr:World):Prop:=∃ k:Nat,k<=n/\i = .int .i64 k/\eF lsE ak.job (prevK ak.job xs k) (xs.drop k)=R/\Below w w wr
theorem Bv (xs:List ak) (A:Option Addr) (n c:Nat) (w:World) (o:bg w w 3 A n (au aB xs)) (hl:xs.length=n) (hn:n<=9223372036854775807) (ac:JS xs) (hT:Tabs w) :
 ψ 135 #[.slice A n c,.func (.func 136) #[] #[],.func (.func 207) #[] #[]] w fun U w'=>U = .returned (.int .i64 (cu lsE ak.job xs))/\Below w w w':=by
 obtain⟨R,K⟩:∃ R,cu lsE ak.job xs=R:=⟨_,rfl⟩;rw [K];have HR:=ω K;have q:=ω hl;have HT:=ω hT;have af:=ω ac;clear hl K hT ac;go_enter Tryz.func135,Tryz.ntmps135;go_wp2
 go_loopw [6,7,8,9,12,19,28,35] (fun _ _ _ _ N _ _ _ wr=>JT xs n R w N wr) (fun _ _ _ _ N _ _ _ _=>n - (intOf N).toNat)
 case atStart=>exact⟨0,Nat.zero_le _,rfl,by rw [<- HR.z]; rfl,θ⟩
 case round=>
  obtain⟨k,hk,rfl,ad,z⟩:=hrel;have s:=ω ad;have p:=ω z;have aq:=z.size;clear ad;by_cases hlt:k<n
  · obtain⟨x,H⟩:∃ x,xs[k]? = some x:=⟨_,δ (by rw [q.z]; exact hlt)⟩;obtain⟨r,I,rfl,am,hc⟩:=(o.below z).dL aI q.z H;have ae:=ω (af.z x (m8 H));have F:=ω H;have aj:x.job=ak.job x:=rfl;obtain⟨E,Z⟩:∃ E,lsE x=E:=⟨_,rfl⟩;have l:=ω Z;obtain⟨X,hX⟩:∃ X,X=x:=⟨_,rfl⟩;have HX:=ω hX;obtain⟨job,node,D⟩:=x;obtain⟨c0,J,c2⟩:=rc3 hc;clear hc H Z hX aj;have L:r<wr.heap.size:=by omega
    have ah:=ω (HT.below (p.alloc p.size (.cells #[job,node,D] 77)));have W:=ω (p.alloc p.size (.cells #[job,node,D] 77))
    go_wp2_with fail
    refine Calls.mono (Bu ⟨job,node,D⟩ _ ae.z.1 ae.z.2 ah.z) ?_;rintro U b ⟨rfl,e⟩;rw [l.z];have u:=(Below.refl wr wr).alloc lQ (.cells #[job,node,D] 77);have m:=u.trans (e.mono u.size);have h:=ω (W.trans (e.mono W.size));by_cases G:E=0
    · subst G;have O:∀ d a,ζ (Sort.grow (redrawn b d) a) wr 0 (.string job):=fun d a=>cell_regrown (by rw [(dP e).1 _ _ (by simp)]; simp [go_sem]) d a;have P:∀ d a,ζ (Sort.grow (redrawn b d) a) wr 1 (.string node):=fun d a=>cell_regrown (by rw [(dP e).1 _ _ (by simp)]; simp [go_sem]) d a;have Q:∀ d a,ζ (Sort.grow (redrawn b d) a) wr 2 (.int .i64 D):=fun d a=>cell_regrown (by rw [(dP e).1 _ _ (by simp)]; simp [go_sem]) d a;by_cases aa:k=0
      · subst aa;have i:=ω (gS (key:=ak.job) F.z l.z (.inl rfl));clear c0 J c2 e o u m
        go_wp2_with fail
        refine wp_region_quiet_below (by kernel_rfl) (by kernel_rfl) ?_
        repeat (go_big_quiet_step (fail))
        refine wpQuiet_nil ?_;intro _ C;obtain⟨⟨nq,osq⟩,hw''⟩:=C;subst hw'';have g:=ω (h.trans ((below_regrown b nq osq).mono h.size));clear O P Q;dsimp only;generalize Sort.grow (redrawn b nq) osq=w2 at g |-;go_wp2
        go_roundw
        case rel=>exact⟨1,by omega,by go_num,by rw [<- i.z]; exact s.z,g⟩
        case measure=>simp [intOf]; omega
      · obtain⟨y,M⟩:∃ y,xs[k - 1]? = some y:=⟨_,δ (by rw [q.z]; omega)⟩;obtain⟨b',al,ai,xB,hp⟩:=(o.below z).dL aI q.z M;obtain⟨rfl,rfl⟩:r=b'/\I=al:=by simpa using ai
        have T:=ω M;obtain⟨Y,hY⟩:∃ Y,Y=y:=⟨_,rfl⟩;obtain⟨j,DY,DZ⟩:=y;obtain⟨q0,q1,q2⟩:=rc3 hp;have p0:∀ d a,ζ (Sort.grow (redrawn b d) a) r (I+(k - 1)*3) (.string j):=fun d a=>cell_regrown (((dP m).1 _ _ L).trans q0) d a;have p1:∀ d a,ζ (Sort.grow (redrawn b d) a) r (I+(k - 1)*3+1) (.string DY):=fun d a=>cell_regrown (((dP m).1 _ _ L).trans q1) d a;have p2:∀ d a,ζ (Sort.grow (redrawn b d) a) r (I+(k - 1)*3+2) (.int .i64 DZ):=fun d a=>cell_regrown (((dP m).1 _ _ L).trans q2) d a;clear q0 q1 q2 c0 J c2 hp M hY e o u m;have ap:decide ((0:Int)<(k:Int))=true:=t7 (by omega);have ao:0<k:=by omega
        have ab:=ω (j6 j.toList job.toList);obtain⟨B,v⟩:∃ B,Op.bytesLess j.toList job.toList=B:=⟨_,rfl⟩;have S:=ω v;cases B
        · have V:(Op.bytesLess job.toList j.toList || job.toList == j.toList)=true:=by rw [<- ab.z,v]; rfl
          have i:=ω (mW (key:=ak.job) F.z l.z aa T.z S.z);clear v
          go_wp2_with fail
          refine wp_region_quiet_below (by kernel_rfl) (by kernel_rfl) ?_
          repeat (go_big_quiet_step ((go_at_call 136; exact Calls.regrown_of (fF _ _ _ _))))
          refine wpQuiet_nil ?_;intro _ C;obtain⟨⟨nq,osq⟩,hw''⟩:=C;subst hw'';have g:=ω (h.trans ((below_regrown b nq osq).mono h.size));clear O P Q p0 p1 p2;dsimp only;generalize Sort.grow (redrawn b nq) osq=w2 at g |-;go_wp2;go_ret;exact⟨aX (by rw [<- s.z]; exact i.symm),g⟩
        · have V:(Op.bytesLess job.toList j.toList || job.toList == j.toList)=false:=by rw [<- ab.z,v]; rfl
          have i:=ω (gS (key:=ak.job) F.z l.z (.inr ⟨_,T,S⟩));clear v
          go_wp2_with fail
          refine wp_region_quiet_below (by kernel_rfl) (by kernel_rfl) ?_
          repeat (go_big_quiet_step ((go_at_call 136; exact Calls.regrown_of (fF _ _ _ _))))
          refine wpQuiet_nil ?_;intro _ C;obtain⟨⟨nq,osq⟩,hw''⟩:=C;subst hw'';have g:=ω (h.trans ((below_regrown b nq osq).mono h.size));clear O P Q p0 p1 p2;dsimp only;generalize Sort.grow (redrawn b nq) osq=w2 at g |-;go_wp2
          go_roundw
          case rel=>exact⟨k+1,by omega,by go_num,by rw [<- i.z]; exact s.z,g⟩
          case measure=>simp [intOf]; omega
    · have i:=ω (lC (E:=lsE) (key:=ak.job) F.z (by rw [l.z]; exact G));have V:(E == 0)=false:=beq_eq_false_iff_ne.2 G;have e2:(E != 0)=true:=bne_iff_ne.2 G;clear c0 J c2 e o u m;go_wp2;go_ret;exact⟨aX (by rw [<- s.z,i.z]; exact l.symm),h⟩
  · obtain rfl:k=n:=by omega
    have ag:=ω (show R=0 by rw [<- s.z]; exact qC (by rw [q.z]; exact lQ) _);clear z o;go_wp2;go_ret;exact⟨aX ag.symm,p⟩
structure eG where
 aj:Option Addr
 nj:Nat
 cj:Nat
 an:Option Addr
 nn:Nat
 cn:Nat
 al:Option Addr
 nl:Nat
 cl:Nat
 agj:Option Addr
 ngj:Nat
 cgj:Nat
 agn:Option Addr
 ngn:Nat
 cgn:Nat
 agl:Option Addr
 ngl:Nat
 cgl:Nat
def dC (d:aY) (x:eG):Array Value:=#[.int .i64 d.from_,.int .i64 d.to_,.slice x.aj x.nj x.cj,.slice x.an x.nn x.cn,.slice x.al x.nl x.cl,.slice x.agj x.ngj x.cgj,.slice x.agn x.ngn x.cgn,.slice x.agl x.ngl x.cgl]
structure dB (w:World) (B:Nat) (d:aY) (x:eG):Prop where
 j:bg w B 5 x.aj x.nj (au aS d.jobs)
 n:bg w B 3 x.an x.nn (au aH d.nodes)
 l:bg w B 3 x.al x.nl (au aB d.leases)
 gj:bg w B 1 x.agj x.ngj (au kQ d.gj)
 gn:bg w B 1 x.agn x.ngn (au kQ d.gn)
 gl:bg w B 1 x.agl x.ngl (au kQ d.gl)
 lj:d.jobs.length=x.nj
 ln:d.nodes.length=x.nn
 ll:d.leases.length=x.nl
 lgj:d.gj.length=x.ngj
 lgn:d.gn.length=x.ngn
 lgl:d.gl.length=x.ngl
 bj:x.nj<=9223372036854775807
 bn:x.nn<=9223372036854775807
 bl:x.nl<=9223372036854775807
 bgj:x.ngj<=9223372036854775807
 bgn:x.ngn<=9223372036854775807
 bgl:x.ngl<=9223372036854775807
 oj:oC d.jobs
 on_:mB d.nodes
 ol:lB d.leases
 ogj:nL d.gj
 ogn:nL d.gn
 ogl:nL d.gl
theorem dB.below {w w':World} {B:Nat} {d:aY} {x:eG} (h:dB w B d x) (a:Below B w w'):dB w' B d x:=
 { h with j:=h.j.below a,n:=h.n.below a,l:=h.l.below a,gj:=h.gj.below a,gn:=h.gn.below a,gl:=h.gl.below a }
theorem dB.more {w:World} {B b:Nat} {d:aY} {x:eG} (h:dB w B d x) (a:B<=b):dB w b d x:=
 { h with j:=h.j.more a,n:=h.n.more a,l:=h.l.more a,gj:=h.gj.more a,gn:=h.gn.more a,gl:=h.gl.more a }
theorem dB.up {w w':World} {d:aY} {x:eG} (h:dB w w d x) (a:Below w w w'):dB w' w' d x:=(h.below a).more a.size
def dV (S:Nat) (x:eG) (a c d e f g:Int):Nat->Value->World->Prop
 | 0,u,_=>u = π S 2
 | 1,u,_=>u = .slice x.aj x.nj x.cj
 | 2,u,_=>u = .int .i64 a
 | 3,u,_=>u = π S 3
 | 4,u,_=>u = .slice x.an x.nn x.cn
 | 5,u,_=>u = .int .i64 c
 | 6,u,_=>u = π S 4
 | 7,u,_=>u = .slice x.al x.nl x.cl
 | 8,u,_=>u = .int .i64 d
 | 9,u,_=>u = π S 5
 | 10,u,_=>u = .slice x.agj x.ngj x.cgj
 | 11,u,_=>u = π S 2
 | 12,u,_=>u = .slice x.aj x.nj x.cj
 | 13,u,_=>u = .int .i64 e
 | 14,u,_=>u = π S 6
 | 15,u,_=>u = .slice x.agn x.ngn x.cgn
 | 16,u,_=>u = π S 3
 | 17,u,_=>u = .slice x.an x.nn x.cn
 | 18,u,_=>u = .int .i64 f
 | 19,u,_=>u = π S 7
 | 20,u,_=>u = .slice x.agl x.ngl x.cgl
 | 21,u,_=>u = π S 4
 | 22,u,_=>u = .slice x.al x.nl x.cl
 | 23,u,_=>u = .int .i64 g
 | 24,u,w=>∃ b,u = .slice (some ⟨b,0,none⟩) 6 6/\b<w.heap.size/\jk w b 0 [.int .i64 a,.int .i64 c,.int .i64 d,.int .i64 e,.int .i64 f,.int .i64 g]
 | 25,u,_=>u = .int .i64 6
 | _,u,_=>u = .int .i64 0
theorem JU (S:Nat) (x:eG) (a b c d e f:Int) (i:Nat) (u:Value) (w w':World) (h:dV S x a b c d e f i u w) (j:Ext w w'):dV S x a b c d e f i u w':=by
 unfold dV at *
 split at h
 case h_25=>obtain⟨k,l,g,m⟩:=h; exact⟨k,l,uI g j.size,m.below j g⟩
 all_goals exact h
def sN (d:aY) (w:World) (e:Ending) (w':World):Prop:=e = .returned (.int .i64 (gD d))/\Below w w w'
theorem sN.mk' {d:aY} {w w':World} {E:Int} (h:gD d=E) (a:Below w w w'):sN d w (.returned (.int .i64 E)) w':=⟨by rw [h],a⟩
theorem tT {d:aY} (h:lu d=false):gD d=1:=by unfold gD; rw [if_pos h]
theorem mO {d:aY} (h:lu d=true) (a:jR d=false):gD d=2:=by unfold gD; rw [if_neg (by rw [h]; simp),if_pos a]
theorem CQ {d:aY} (h:lu d=true) (a:jR d=true):gD d=iK (Av d):=by unfold gD; rw [if_neg (by rw [h]; simp),if_neg (by rw [a]; simp)]
def mx (a b:Int):Int:=if a<b then b else a
theorem Mh (c:Array TypeId) (t:TypeId) (a b:Int) (W:World):(Builtin.max_ c t #[a,b]).run Tryz.prog W = .ok (.int .i64 (mx a b)) W:=rfl
theorem Mi (e:Array TypeId) (t:TypeId) (a b c d:Int) (W:World):(Builtin.max_ e t #[a,b,c,d]).run Tryz.prog W = .ok (.int .i64 (mx (mx (mx a b) c) d)) W:=rfl
theorem zm {a b n:Int}:n<mx a b↔n<a\/n<b:=by unfold mx; split <;> omega
theorem GJ (d:aY) (x:eG) (w:World) (c:dB w w d x) (o:Tabs w) (aH : -9223372036854775808<=d.from_) (aI:d.from_<=9223372036854775807) :
 ψ 162 #[.agg (dC d x)] w (sN d w):=by
 have O:Below w w (χ w (dC d x) 95):=(θ).alloc lQ _;have aw:Blk (χ w (dC d x) 95) w 95 (dC d x):=n5 w _;have y:=ω (c.up O);have z:=ω (o.below O);have B:=ω O;have v:=ω aw;have E:=ω (fun (a6:Int) (N:gD d=a6) D=>sN.mk' (w:=w) (w':=D) N);have ay:=c.lj;have a0:=c.ln;have az:=c.ll;have KB:=c.lgj;have KC:=c.lgn;have KE:=c.lgl;have aF:=c.bj;have aG:=c.bn;have a8:=c.bl;have OI:=c.bgj;have OJ:=c.bgn;have OK:=c.bgl;clear O aw c o;unfold dC at *;go_enter Tryz.func162,Tryz.ntmps162
 go_wp2_with fail
 refine Calls.mono (tH _ _ _ _) ?_;rintro e w0 ⟨rfl,rfl⟩;cases I:ranged d.from_ 0 1099511627776
 · have q:=ω (E.z 1 (tT (by unfold lu; rw [I]; rfl)) _ B.z);go_wp2;go_ret;exact q
 have aK:=aM.1 I
 go_wp2_with fail
 refine Calls.mono (tH _ _ _ _) ?_;rintro e w0 ⟨rfl,rfl⟩;cases ag:ranged d.to_ (d.from_+1) 1099511627776
 · have q:=ω (E.z 1 (tT (by
    have:=fT.1 ag;unfold lu;rw [I];by_cases N:d.from_<d.to_
    · rw [decide_eq_true N,decide_eq_false (by omega)]; rfl
    · rw [decide_eq_false N]; rfl)) _ B.z)
   go_wp2;go_ret;exact q
 have aL:=aM.1 ag;have sU:=ω (show lu d=true by unfold lu; rw [I,decide_eq_true (by omega),decide_eq_true (by omega)]; rfl);clear I ag;have a9:=fun T t F b W=>Mh T t F b W;have aA:=fun T t F b a7 d W=>Mi T t F b a7 d W;by_cases s1:x.nj<=40/\x.nl<=40/\x.ngj<=40/\x.ngl<=40;rotate_left
 · have q:=ω (E.z 2 (mO sU.z (by unfold jR; rw [ay,az,KB,KE]; by_cases q1:x.nj<=40 <;> by_cases q2:x.nl<=40 <;> by_cases q3:x.ngj<=40 <;> by_cases q4:x.ngl<=40 <;> simp [q1,q2,q3,q4] <;> omega)) _ B.z);have d1:decide ((40:Int)<mx (mx (mx (x.nj:Int) (x.nl:Int)) (x.ngj:Int)) (x.ngl:Int))=true:=t7 (by rw [zm,zm,zm]; omega);go_wp2;go_ret;exact q
 have d1:decide ((40:Int)<mx (mx (mx (x.nj:Int) (x.nl:Int)) (x.ngj:Int)) (x.ngl:Int))=false:=fQ (by rw [zm,zm,zm]; omega);by_cases s2:x.nn<=20/\x.ngn<=20;rotate_left
 · have q:=ω (E.z 2 (mO sU.z (by unfold jR; rw [a0,KC]; by_cases q1:x.nn<=20 <;> by_cases q2:x.ngn<=20 <;> simp [q1,q2] <;> omega)) _ B.z);have d2:decide ((20:Int)<mx (x.nn:Int) (x.ngn:Int))=true:=t7 (by rw [zm]; omega);go_wp2;go_ret;exact q
 have d2:decide ((20:Int)<mx (x.nn:Int) (x.ngn:Int))=false:=fQ (by rw [zm]; omega);have D3:=ω (CQ sU.z (show jR d=true by unfold jR; rw [ay,az,KB,KE,a0,KC]; simp; omega))
 go_wp2_with fail
 clear d1 d2 a9 aA s1 s2;generalize aB:w.alloc (.cells #[d.from_,d.to_,.slice x.aj x.nj x.cj,.slice x.an x.nn x.cn,.slice x.al x.nl x.cl,.slice x.agj x.ngj x.cgj,.slice x.agn x.ngn x.cgn,.slice x.agl x.ngl x.cgl] 95)=w0 at y z B v |-;clear aB;have K:=v.cell 2;have L:=v.cell 3;have M:=v.cell 4;have g5:=v.cell 5;have g6:=v.cell 6;have g7:=v.cell 7;simp only [List.getElem?_toArray,List.getElem?_cons_succ,List.getElem?_cons_zero] at K L M g5 g6 g7;obtain⟨U,aa⟩:∃ e,cu fG aC.name d.jobs=e:=⟨_,rfl⟩;have ai:=ω aa;obtain⟨G,ab⟩:∃ e,cu dE av.name d.nodes=e:=⟨_,rfl⟩;have am:=ω ab;obtain⟨V,ac⟩:∃ e,cu lsE ak.job d.leases=e:=⟨_,rfl⟩;have ao:=ω ac;obtain⟨X,ad⟩:∃ e,jI (fun J=>(cD d.jobs J).isSome) d.gj=e:=⟨_,rfl⟩;have ap:=ω ad;obtain⟨Y,ae⟩:∃ e,jI (fun J=>(bU d.nodes J).isSome) d.gn=e:=⟨_,rfl⟩;have aq:=ω ae;obtain⟨Z,af⟩:∃ e,jI (fun J=>(cE d.leases J).isSome) d.gl=e:=⟨_,rfl⟩;have ar:=ω af;have rE:=ω (show gD d=iK [U,G,V,X,Y,Z] by rw [D3.z]; unfold Av; rw [aa,ab,ac,ad,ae,af]);clear aa ab ac ad ae af D3;refine oM (n:=78) (by kernel_rfl) (dV w x U G V X Y Z) (by decide +kernel) rfl (JU _ _ _ _ _ _ _ _) ?_ ?_
 · refine⟨?_,?_,?_,?_,?_,?_,?_,?_,?_,?_,?_,?_,?_,?_,?_,?_,?_,?_,?_,?_,?_,?_,?_,?_,?_,?_,?_,trivial⟩
   all_goals (intro F r h u i; refine⟨rfl,?_⟩)
   · have g:=u 1 _ rfl (by decide +kernel);simp [go_sem,Oper.wp,execOp,Act.eval,g];exact⟨_,rfl,θ,rfl⟩
   · obtain⟨u1,g,a⟩:=i 0 _ 44 rfl rfl (by decide +kernel);replace a:u1=_:=a;subst a;have m:=gH K h;simp [go_sem,Oper.wp,execOp,Act.eval,g,m];exact⟨_,rfl,θ,rfl⟩
   · obtain⟨u1,g,a⟩:=i 1 _ 45 rfl rfl (by decide +kernel);replace a:u1=_:=a;subst a;simp [go_sem,Oper.wp,execOp,Act.eval,g];have c:=(y.below h).more h.size;have o:=z.below h;refine (nN.1 d.jobs x.aj x.nj x.cj r (c.j) c.lj c.bj c.oj o).mono ?_;rintro e D ⟨rfl,p⟩;exact⟨_,rfl,p,congrArg (Value.int .i64) ai.z⟩
   · have g:=u 1 _ rfl (by decide +kernel);simp [go_sem,Oper.wp,execOp,Act.eval,g];exact⟨_,rfl,θ,rfl⟩
   · obtain⟨u1,g,a⟩:=i 3 _ 47 rfl rfl (by decide +kernel);replace a:u1=_:=a;subst a;have m:=gH L h;simp [go_sem,Oper.wp,execOp,Act.eval,g,m];exact⟨_,rfl,θ,rfl⟩
   · obtain⟨u1,g,a⟩:=i 4 _ 48 rfl rfl (by decide +kernel);replace a:u1=_:=a;subst a;simp [go_sem,Oper.wp,execOp,Act.eval,g];have c:=(y.below h).more h.size;have o:=z.below h;refine (nN.2 d.nodes x.an x.nn x.cn r (c.n) c.ln c.bn c.on_ o).mono ?_;rintro e D ⟨rfl,p⟩;exact⟨_,rfl,p,congrArg (Value.int .i64) am.z⟩
   · have g:=u 1 _ rfl (by decide +kernel);simp [go_sem,Oper.wp,execOp,Act.eval,g];exact⟨_,rfl,θ,rfl⟩
   · obtain⟨u1,g,a⟩:=i 6 _ 50 rfl rfl (by decide +kernel);replace a:u1=_:=a;subst a;have m:=gH M h;simp [go_sem,Oper.wp,execOp,Act.eval,g,m];exact⟨_,rfl,θ,rfl⟩
   · obtain⟨u1,g,a⟩:=i 7 _ 51 rfl rfl (by decide +kernel);replace a:u1=_:=a;subst a;simp [go_sem,Oper.wp,execOp,Act.eval,g];have c:=(y.below h).more h.size;have o:=z.below h;refine (Bv d.leases x.al x.nl x.cl r (c.l) c.ll c.bl c.ol o).mono ?_;rintro e D ⟨rfl,p⟩;exact⟨_,rfl,p,congrArg (Value.int .i64) ao.z⟩
   · have g:=u 1 _ rfl (by decide +kernel);simp [go_sem,Oper.wp,execOp,Act.eval,g];exact⟨_,rfl,θ,rfl⟩
   · obtain⟨u1,g,a⟩:=i 9 _ 53 rfl rfl (by decide +kernel);replace a:u1=_:=a;subst a;have m:=gH g5 h;simp [go_sem,Oper.wp,execOp,Act.eval,g,m];exact⟨_,rfl,θ,rfl⟩
   · have g:=u 1 _ rfl (by decide +kernel);simp [go_sem,Oper.wp,execOp,Act.eval,g];exact⟨_,rfl,θ,rfl⟩
   · obtain⟨u1,g,a⟩:=i 11 _ 55 rfl rfl (by decide +kernel);replace a:u1=_:=a;subst a;have m:=gH K h;simp [go_sem,Oper.wp,execOp,Act.eval,g,m];exact⟨_,rfl,θ,rfl⟩
   · obtain⟨u1,g,a⟩:=i 10 _ 54 rfl rfl (by decide +kernel);replace a:u1=_:=a;subst a;obtain⟨u2,C,rfl⟩:=i 12 _ 56 rfl rfl (by decide +kernel);simp [go_sem,Oper.wp,execOp,Act.eval,g,C];have c:=(y.below h).more h.size;have o:=z.below h;refine (qp.1 d.gj d.jobs x.agj x.aj x.ngj x.cgj x.nj x.cj r c.gj c.lgj c.bgj c.ogj c.j c.lj c.bj o).mono ?_;rintro e D ⟨rfl,p⟩;exact⟨_,rfl,p,congrArg (Value.int .i64) ap.z⟩
   · have g:=u 1 _ rfl (by decide +kernel);simp [go_sem,Oper.wp,execOp,Act.eval,g];exact⟨_,rfl,θ,rfl⟩
   · obtain⟨u1,g,a⟩:=i 14 _ 58 rfl rfl (by decide +kernel);replace a:u1=_:=a;subst a;have m:=gH g6 h;simp [go_sem,Oper.wp,execOp,Act.eval,g,m];exact⟨_,rfl,θ,rfl⟩
   · have g:=u 1 _ rfl (by decide +kernel);simp [go_sem,Oper.wp,execOp,Act.eval,g];exact⟨_,rfl,θ,rfl⟩
   · obtain⟨u1,g,a⟩:=i 16 _ 60 rfl rfl (by decide +kernel);replace a:u1=_:=a;subst a;have m:=gH L h;simp [go_sem,Oper.wp,execOp,Act.eval,g,m];exact⟨_,rfl,θ,rfl⟩
   · obtain⟨u1,g,a⟩:=i 15 _ 59 rfl rfl (by decide +kernel);replace a:u1=_:=a;subst a;obtain⟨u2,C,rfl⟩:=i 17 _ 61 rfl rfl (by decide +kernel);simp [go_sem,Oper.wp,execOp,Act.eval,g,C];have c:=(y.below h).more h.size;have o:=z.below h;refine (qp.2.1 d.gn d.nodes x.agn x.an x.ngn x.cgn x.nn x.cn r c.gn c.lgn c.bgn c.ogn c.n c.ln c.bn o).mono ?_;rintro e D ⟨rfl,p⟩;exact⟨_,rfl,p,congrArg (Value.int .i64) aq.z⟩
   · have g:=u 1 _ rfl (by decide +kernel);simp [go_sem,Oper.wp,execOp,Act.eval,g];exact⟨_,rfl,θ,rfl⟩
   · obtain⟨u1,g,a⟩:=i 19 _ 63 rfl rfl (by decide +kernel);replace a:u1=_:=a;subst a;have m:=gH g7 h;simp [go_sem,Oper.wp,execOp,Act.eval,g,m];exact⟨_,rfl,θ,rfl⟩
   · have g:=u 1 _ rfl (by decide +kernel);simp [go_sem,Oper.wp,execOp,Act.eval,g];exact⟨_,rfl,θ,rfl⟩
   · obtain⟨u1,g,a⟩:=i 21 _ 65 rfl rfl (by decide +kernel);replace a:u1=_:=a;subst a;have m:=gH M h;simp [go_sem,Oper.wp,execOp,Act.eval,g,m];exact⟨_,rfl,θ,rfl⟩
   · obtain⟨u1,g,a⟩:=i 20 _ 64 rfl rfl (by decide +kernel);replace a:u1=_:=a;subst a;obtain⟨u2,C,rfl⟩:=i 22 _ 66 rfl rfl (by decide +kernel);simp [go_sem,Oper.wp,execOp,Act.eval,g,C];have c:=(y.below h).more h.size;have o:=z.below h;refine (qp.2.2 d.gl d.leases x.agl x.al x.ngl x.cgl x.nl x.cl r c.gl c.lgl c.bgl c.ogl c.l c.ll c.bl o).mono ?_;rintro e D ⟨rfl,p⟩;exact⟨_,rfl,p,congrArg (Value.int .i64) ar.z⟩
   · obtain⟨u1,g,a⟩:=i 2 _ 46 rfl rfl (by decide +kernel);replace a:u1=_:=a;subst a;obtain⟨u2,C,rfl⟩:=i 5 _ 49 rfl rfl (by decide +kernel);obtain⟨u3,h3,rfl⟩:=i 8 _ 52 rfl rfl (by decide +kernel);obtain⟨u4,h4,rfl⟩:=i 13 _ 57 rfl rfl (by decide +kernel);obtain⟨u5,h5,rfl⟩:=i 18 _ 62 rfl rfl (by decide +kernel);obtain⟨u6,h6,rfl⟩:=i 23 _ 67 rfl rfl (by decide +kernel);simp [go_sem,Oper.wp,execOp,Act.eval,g,C,h3,h4,h5,h6];exact⟨_,rfl,(θ).alloc lQ _,r.heap.size,rfl,by simp,jk.new r _ _⟩
   · obtain⟨u1,g,b,G,-,-⟩:=i 24 _ 68 rfl rfl (by decide +kernel);subst G;simp [go_sem,Oper.wp,execOp,Act.eval,g];exact⟨_,rfl,θ,rfl⟩
   · simp [go_sem,Oper.wp,execOp,Act.eval];exact⟨_,rfl,θ,rfl⟩
 · intro F r hd;obtain⟨f,R,Q⟩:=hd.frame' [44,45,46,47,48,49,50,51,52,53,54,55,56,57,58,59,60,61,62,63,64,65,66,67,68,69,70] rfl;obtain⟨b,a3,a8,a1⟩:∃ b,f 68=_/\_:=Q 24 _ 68 rfl rfl;have a4:f 69=_:=Q 25 _ 69 rfl rfl;have a5:f 70=_:=Q 26 _ 70 rfl rfl;have au:=ω (B.trans (hd.le.mono B.size));clear hd Q;subst R;simp only [foldl_cons,foldl_nil,setIfInBounds_toArray,set_cons_succ,set_cons_zero,a3,a4,a5];clear a3 a4 a5;obtain⟨s,P⟩:∃ s,s=[U,G,V,X,Y,Z]:=⟨_,rfl⟩;have a2:jk r b 0 (s.map (Value.int .i64)):=by rw [P]; exact a1
   have aJ:s.length=6:=by rw [P]; rfl
   have eW:=ω a2;have HA:=ω (show gD d=iK s by rw [P]; exact rE);clear a1 a2 P rE ai am ao ap aq ar K L M g5 g6 g7
   go_wp2_with fail
   go_loop [2,4,70] (fun _ _ ah=>∃ k:Nat,k<=6/\ah = .int .i64 k/\iK (s.drop k)=iK s) (fun _ _ ah=>6 - (intOf ah).toNat)
   case atStart=>exact⟨0,by omega,rfl,rfl⟩
   case round=>
    obtain⟨k,hk,rfl,R⟩:=hrel;have S:=ω R;clear R;by_cases hlt:k<6
    · obtain⟨e,he⟩:∃ e,s[k]? = some e:=⟨_,δ (by omega)⟩;have c0:ζ r b (0+k) (.int .i64 e):=eW.z k _ (by rw [List.getElem?_map,he]; rfl);rw [Nat.zero_add] at c0;have ax:=ω (drop_cons he);clear he;by_cases H:e=0
      · have hn:=ω (show iK (s.drop (k+1))=iK s by rw [<- S.z,ax.z,kD H]);subst H;go_wp2
        go_round
        case rel=>exact⟨k+1,by omega,by go_num,hn⟩
        case measure=>simp [intOf]; omega
      · have q:=ω (E.z e (by rw [HA.z,<- S.z,ax.z,ji H]) _ au.z);have aD:(e == 0)=false:=beq_eq_false_iff_ne.2 H;have aE:(e != 0)=true:=bne_iff_ne.2 H;go_wp2;go_ret;exact q
    · have q:=ω (E.z 0 (by rw [HA.z,<- S.z,List.drop_of_length_le (by omega)]; rfl) _ au.z);go_wp2;go_ret;exact q
theorem sV (l:ak) (w:World) (h:l.job.size<=9223372036854775807) (i:l.node.size<=9223372036854775807) :
 ψ 93 #[.agg (aB l).toArray] w fun e n=>e = .returned (.int .i64 (lsE l))/\Below w w n:=by
 obtain⟨E,d⟩:∃ E,lsE l=E:=⟨_,rfl⟩;rw [d];have b:=ω d;clear d;obtain⟨job,node,k⟩:=l;unfold aB;simp only at h i |-;have a:=ω ((Below.refl w w).alloc lQ (.cells #[job,node,k] 77));go_enter Tryz.func93,Tryz.ntmps93
 go_wp2_with fail
 refine Calls.mono (lV _ _ h) ?_;rintro e m ⟨rfl,rfl⟩;cases c:cP job
 · go_wp2;go_ret;exact⟨aX (by rw [<- b.z]; simp [lsE,c]),a⟩
 go_wp2_with fail
 refine Calls.mono (lV _ _ i) ?_;rintro e m ⟨rfl,rfl⟩;cases g:cP node
 · go_wp2;go_ret;exact⟨aX (by rw [<- b.z]; simp [lsE,c,g]),a⟩
 go_wp2_with fail
 refine Calls.mono (dG _ _ _ _) ?_;rintro e m ⟨rfl,rfl⟩;cases j:ranged k 0 1099511627776
 · go_wp2;go_ret;exact⟨aX (by rw [<- b.z]; simp [lsE,c,g,j]),a⟩
 go_wp2;go_ret;exact⟨aX (by rw [<- b.z]; simp [lsE,c,g,j]),a⟩
theorem I7 (xs:List aC) (s:ByteArray) (A:Option Addr) (n c g:Nat) (w:World) (i:bg w w 5 A n (au aS xs)) (h:xs.length=n) (a:n<=9223372036854775807) (p:ζ w g 2 (.slice A n c)) :
 ψ 119 #[s,π g 0] w fun e l=>e = .returned (.bool (cD xs s).isSome)/\Below w w l:=by
 have j:=ω (fJ.1 xs s A n c w i h a);clear i h a;go_enter Tryz.func119,Tryz.ntmps119
 go_wp2_with fail
 refine j.mono ?_;rintro e r ⟨q,rfl,d,k⟩;rcases k with ⟨rfl,a⟩ | ⟨m,x,rfl,-,a⟩
 · have b:=ω (show false=(cD xs s).isSome by rw [a]; rfl);clear a;go_wp2;go_ret;exact⟨bA b.z,d⟩
 · have b:=ω (show true=(cD xs s).isSome by rw [a]; rfl);have o:decide ((0:Int)<=(m:Int))=true:=t7 (by omega);clear a;go_wp2;go_ret;exact⟨bA b.z,d⟩
theorem FP (xs:List av) (s:ByteArray) (A:Option Addr) (n c g:Nat) (w:World) (i:bg w w 3 A n (au aH xs)) (h:xs.length=n) (a:n<=9223372036854775807) (p:ζ w g 3 (.slice A n c)) :
 ψ 120 #[s,π g 0] w fun e l=>e = .returned (.bool (bU xs s).isSome)/\Below w w l:=by
 have j:=ω (fJ.2 xs s A n c w i h a);clear i h a;go_enter Tryz.func120,Tryz.ntmps120
 go_wp2_with fail
 refine j.mono ?_;rintro e r ⟨q,rfl,d,k⟩;rcases k with ⟨rfl,a⟩ | ⟨m,x,rfl,-,a⟩
 · have b:=ω (show false=(bU xs s).isSome by rw [a]; rfl);clear a;go_wp2;go_ret;exact⟨bA b.z,d⟩
 · have b:=ω (show true=(bU xs s).isSome by rw [a]; rfl);have o:decide ((0:Int)<=(m:Int))=true:=t7 (by omega);clear a;go_wp2;go_ret;exact⟨bA b.z,d⟩
theorem D4 (xs:List ak) (s:ByteArray) (A:Option Addr) (n c g:Nat) (w:World) (i:bg w w 3 A n (au aB xs)) (h:xs.length=n) (a:n<=9223372036854775807) (p:ζ w g 4 (.slice A n c)) :
 ψ 121 #[s,π g 0] w fun e l=>e = .returned (.bool (cE xs s).isSome)/\Below w w l:=by
 have j:=ω (pZ xs s A n c w i h a);clear i h a;go_enter Tryz.func121,Tryz.ntmps121
 go_wp2_with fail
 refine j.mono ?_;rintro e r ⟨q,rfl,d,k⟩;rcases k with ⟨rfl,a⟩ | ⟨m,x,rfl,-,a⟩
 · have b:=ω (show false=(cE xs s).isSome by rw [a]; rfl);clear a;go_wp2;go_ret;exact⟨bA b.z,d⟩
 · have b:=ω (show true=(cE xs s).isSome by rw [a]; rfl);have o:decide ((0:Int)<=(m:Int))=true:=t7 (by omega);clear a;go_wp2;go_ret;exact⟨bA b.z,d⟩
def PG (has:ByteArray->Bool) (a:List ByteArray) (n:Nat) (R:Int) (w:World) (i:Value) (wr:World):Prop:=
 ∃ k:Nat,k<=n/\i = .int .i64 k/\fX has (prevK rW a k) (a.drop k)=R/\Below w w wr
theorem qo (has:ByteArray->Bool) (F:FuncId) (P:Value) (d:List ByteArray) (A:Option Addr) (n c:Nat) (w:World) (l:bg w w 1 A n (au kQ d)) (T:d.length=n) (hn:n<=9223372036854775807) (U:KA d) (ae:∀ args w,(callFunc F args).run Tryz.prog w = .ok (.enter F args) w)
 (Q:∀ s W,Below w w W->ψ F #[.string s,P] W fun r M=>r = .returned (.bool (has s))/\Below W W M) :
 ψ 118 #[.slice A n c,.func (.func F) #[] #[P]] w fun r M=>r = .returned (.int .i64 (jI has d))/\Below w w M:=by
 obtain⟨R,E⟩:∃ R,jI has d=R:=⟨_,rfl⟩;rw [E];have Y:=ω E;have p:=ω T;have Z:=ω U;have X:=ω Q;clear E T U Q;go_enter Tryz.func118,Tryz.ntmps118;go_wp2
 go_loopw [4,5,6,9,15,30] (fun _ _ _ J _ _ wr=>PG has d n R w J wr) (fun _ _ _ J _ _ _=>n - (intOf J).toNat)
 case atStart=>exact⟨0,Nat.zero_le _,rfl,by rw [<- Y.z]; rfl,θ⟩
 case round=>
  obtain⟨k,hk,rfl,V,e⟩:=hrel;have i:=ω V;have g:=ω e;have ag:=e.size;clear V;by_cases hlt:k<n
  · obtain⟨s,B⟩:∃ s,d[k]? = some s:=⟨_,δ (by rw [p.z]; exact hlt)⟩;obtain⟨q,z,rfl,ad,S⟩:=(l.below e).dL gE p.z B;have ac:=ω (Z.z s (m8 B));have o:=ω B;have c0:ζ wr q (z+k*1) (.string s):=S 0 _ rfl;rw [Nat.mul_one] at c0;have af:q<wr.heap.size:=by omega
    clear S B
    go_wp2_with fail
    refine Calls.mono (lV s _ ac.z) ?_;rintro r w1 ⟨rfl,rfl⟩;cases t:cP s
    · have h4:=ω (show R=4 by rw [<- i.z]; exact B3 o.z t);go_wp2;go_ret;exact⟨aX h4.symm,g⟩
    have ON:(k=0)\/(k≠0/\∃ y,d[k - 1]? = some y/\Op.bytesLess y.toList s.toList=true)\/(k≠0/\∃ y,d[k - 1]? = some y/\Op.bytesLess y.toList s.toList=false):=by
     by_cases a:k=0
     · exact .inl a
     · obtain⟨y,b⟩:∃ y,d[k - 1]? = some y:=⟨_,δ (by rw [p.z]; omega)⟩;cases h:Op.bytesLess y.toList s.toList
       · exact .inr (.inr ⟨a,_,b,h⟩)
       · exact .inr (.inl ⟨a,_,b,h⟩)
    have m:=ω (X.z s wr g.z);rcases ON with a | ⟨a,y,b,h⟩ | ⟨a,y,b,h⟩
    · subst a;obtain⟨H,j⟩:∃ H,has s=H:=⟨_,rfl⟩;clear e l
      go_wp2_with fail
      rw [j] at m;refine m.mono ?_;rintro r w3 ⟨rfl,v⟩;have u:=ω (g.trans (v.mono g.size));clear v m;cases H
      · have I:=ω (lW (has:=has) o.z t (.inl rfl) j);go_wp2
        go_roundw
        case rel=>exact⟨1,by omega,by go_num,by rw [<- I.z]; exact i.z,u⟩
        case measure=>simp [intOf]; omega
      · have D:=ω (show R=7 by rw [<- i.z]; exact rI o.z t (.inl rfl) j);go_wp2;go_ret;exact⟨aX D.symm,u⟩
    · obtain⟨C,K,G,xB,x⟩:=(l.below e).dL gE p.z b;obtain⟨rfl,rfl⟩:q=C/\z=K:=by simpa using G
      have L:ζ wr q (z+(k - 1)*1) (.string y):=x 0 _ rfl;rw [Nat.mul_one] at L;have ab:decide ((0:Int)<(k:Int))=true:=t7 (by omega);have aa:0<k:=by omega
      obtain⟨H,j⟩:∃ H,has s=H:=⟨_,rfl⟩;have O:=ω b;have N:=ω h;have e1:(!Op.bytesLess y.toList s.toList)=false:=by rw [h]; rfl
      clear x b e l
      go_wp2_with fail
      rw [j] at m;refine m.mono ?_;rintro r w3 ⟨rfl,v⟩;have u:=ω (g.trans (v.mono g.size));clear v m;cases H
      · have I:=ω (lW (has:=has) o.z t (.inr ⟨_,O,N⟩) j);go_wp2
        go_roundw
        case rel=>exact⟨k+1,by omega,by go_num,by rw [<- I.z]; exact i.z,u⟩
        case measure=>simp [intOf]; omega
      · have D:=ω (show R=7 by rw [<- i.z]; exact rI o.z t (.inr ⟨_,O,N⟩) j);go_wp2;go_ret;exact⟨aX D.symm,u⟩
    · obtain⟨C,K,G,xB,x⟩:=(l.below e).dL gE p.z b;obtain⟨rfl,rfl⟩:q=C/\z=K:=by simpa using G
      have L:ζ wr q (z+(k - 1)*1) (.string y):=x 0 _ rfl;rw [Nat.mul_one] at L;have ab:decide ((0:Int)<(k:Int))=true:=t7 (by omega);have aa:0<k:=by omega
      have h8:=ω (show R=8 by rw [<- i.z]; exact AE o.z t a b h);have e1:(!Op.bytesLess y.toList s.toList)=true:=by rw [h]; rfl
      clear x m b e l;go_wp2;go_ret;exact⟨aX h8.symm,g⟩
  · have a:=ω (show R=0 by rw [<- i.z]; exact D7 (by rw [p.z]; omega) _);clear e l;go_wp2;go_ret;exact⟨aX a.symm,g⟩
end Go.Proofs.YtimglglgcgpjgabGreatDoor
