/- Of the proof of a statement: SrvAt, SvTop, CkSz, Diff, EncC, ReqQ, UpSteps, SGood, PlEncV, WPutV, WEnc, REncV. -/
import Derived.Test.YtimglglgcgpjgaaGreatDoorQDoA
import Derived.Test.YtimglglgcgpjgaaGreatDoorQRBetween
import Derived.Test.YtimglglgcgpjgaaGreatDoorQRq
set_option linter.unusedVariables false
set_option linter.unusedSimpArgs false
set_option maxRecDepth 100000
set_option maxHeartbeats 8000000
namespace Go.Proofs.YtimglglgcgpjgaaGreatDoor
open Go.RowKit
def gL (cs:Array Value):Prop:=∀ (i:Nat) (s:ByteArray),cs[i]? ≠ some (.string s)
theorem nT {cs:Array Value} (h:∀ v ∈ cs,∀ s,v ≠ .string s):gL cs:=fun _ s e=>h _ (Array.mem_of_getElem? e) s rfl
theorem iV (st:ah) (x:StA):gL (stC st x):=nT (by
 intro v a s;simp only [stC,List.mem_toArray,List.mem_cons,List.not_mem_nil,or_false] at a;rcases a with rfl | rfl | rfl | rfl <;> simp)
def iB (st:ah) (x:StA) (now:Int):Array Value:=#[.int .i64 st.rev,.slice x.aj x.nj x.cj,.slice x.an x.nn x.cn,.slice x.al x.nl x.cl,.int .i64 now]
theorem pq (st:ah) (x:StA) (now:Int):gL (iB st x now):=nT (by
 intro v a s;simp only [iB,List.mem_toArray,List.mem_cons,List.not_mem_nil,or_false] at a;rcases a with rfl | rfl | rfl | rfl | rfl <;> simp)
theorem xS (n:Int):gL #[n]:=nT (by
 intro v a s;simp only [List.mem_toArray,List.mem_cons,List.not_mem_nil,or_false] at a;rcases a with rfl; simp)
theorem gJ (n m:Int):gL #[n,m]:=nT (by
 intro v a s;simp only [List.mem_toArray,List.mem_cons,List.not_mem_nil,or_false] at a;rcases a with rfl | rfl <;> simp)
section
variable {w w':World} {B sz n g:Nat} {A:Option Addr} {xs:List Value} {t:TypeId} {cs:Array Value}
theorem bC.fY (h:bC w B sz A n xs) (m:Blk w g t cs) (o:gL cs) (k:0<n->∃ s,xs[0]? = some (.string s)) (p:w.grownBy w' (some g)):bC w' B sz A n xs:=
 ⟨h.len,fun c=>by
  obtain⟨b,e,f,l,d⟩:=h.at_ c;obtain⟨s,q⟩:=k c;refine⟨b,e,f,l,fun u v r=>p.cell (d u v r) ?_⟩;intro i;have j:b=g:=by simpa using i
  subst j;have a:=d 0 _ q;rw [Nat.add_zero,m.cell e] at a;exact o _ _ a⟩
end
theorem pz {l:List aC} {n:Nat} (h:l.length=n) (b:0<n):∃ s,(au aS l)[0]? = some (.string s):=by
 match l,h with
 | [],h=>simp at h; omega
 | a :: l,_=>exact⟨a.name,rfl⟩
theorem nK {l:List av} {n:Nat} (h:l.length=n) (b:0<n):∃ s,(au aH l)[0]? = some (.string s):=by
 match l,h with
 | [],h=>simp at h; omega
 | a :: l,_=>exact⟨a.name,rfl⟩
theorem mg {l:List ak} {n:Nat} (h:l.length=n) (b:0<n):∃ s,(au aB l)[0]? = some (.string s):=by
 match l,h with
 | [],h=>simp at h; omega
 | a :: l,_=>exact⟨a.job,rfl⟩
theorem StAt.fY {w w':World} {B g:Nat} {t:TypeId} {cs:Array Value} {st:ah} {x:StA} (h:StAt w B st x) (a:Blk w g t cs) (b:gL cs) (c:w.grownBy w' (some g)):StAt w' B st x:=
 ⟨h.j.fY a b (pz h.lj) c,h.n.fY a b (nK h.ln) c,h.l.fY a b (mg h.ll) c,h.lj,h.ln,h.ll,h.bj,h.bn,h.bl,h.oj,h.on_,h.ol⟩
theorem StAt.drew {w:World} {B:Nat} {st:ah} {x:StA} (h:StAt w B st x):StAt w.drew B st x:=
 ⟨h.j.drew,h.n.drew,h.l.drew,h.lj,h.ln,h.ll,h.bj,h.bn,h.bl,h.oj,h.on_,h.ol⟩
theorem StAt.rev {w:World} {B:Nat} {st:ah} {x:StA} (h:StAt w B st x) (r:Int):StAt w B ⟨r,st.jobs,st.nodes,st.leases⟩ x:=
 ⟨h.j,h.n,h.l,h.lj,h.ln,h.ll,h.bj,h.bn,h.bl,h.oj,h.on_,h.ol⟩
theorem StAt.Ks {w:World} {B:Nat} {st:ah} {x:StA} (h:StAt w B st x) {a:List aC} {A:Option Addr} {m:Nat} (c:Nat) (d:bC w B 5 A m (au aS a)) (e:a.length=m) (b:m<=9223372036854775807) (f:oF a):StAt w B ⟨st.rev,a,st.nodes,st.leases⟩ ⟨A,m,c,x.an,x.nn,x.cn,x.al,x.nl,x.cl⟩:=
 ⟨d,h.n,h.l,e,h.ln,h.ll,b,h.bn,h.bl,f,h.on_,h.ol⟩
theorem StAt.NX {w:World} {B:Nat} {st:ah} {x:StA} (h:StAt w B st x) {a:List av} {A:Option Addr} {m:Nat} (c:Nat) (d:bC w B 3 A m (au aH a)) (e:a.length=m) (b:m<=9223372036854775807) (f:mP a):StAt w B ⟨st.rev,st.jobs,a,st.leases⟩ ⟨x.aj,x.nj,x.cj,A,m,c,x.al,x.nl,x.cl⟩:=
 ⟨h.j,d,h.l,h.lj,e,h.ll,h.bj,b,h.bl,h.oj,f,h.ol⟩
theorem StAt.NV {w:World} {B:Nat} {st:ah} {x:StA} (h:StAt w B st x) {a:List ak} {A:Option Addr} {m:Nat} (c:Nat) (d:bC w B 3 A m (au aB a)) (e:a.length=m) (b:m<=9223372036854775807) (f:lI a):StAt w B ⟨st.rev,st.jobs,st.nodes,a⟩ ⟨x.aj,x.nj,x.cj,x.an,x.nn,x.cn,A,m,c⟩:=
 ⟨h.j,h.n,d,h.lj,h.ln,e,h.bj,h.bn,b,h.oj,h.on_,f⟩
theorem StAt.upS {w w':World} {st:ah} {x:StA} (h:StAt w w st x) (a:Below w w w'):StAt w' w' st x:=(h.below a).more a.size
theorem qT {w:World} {B:Nat} {st:ah} {x:StA} (h:StAt w B st x) (b:aE st=0):x.nj<=40/\x.nn<=40/\x.nl<=40:=by
 have a:=(cV.1 b).2.1;unfold dR at a;simp only [Bool.and_eq_true,decide_eq_true_eq] at a;have:=h.lj; have:=h.ln; have:=h.ll;omega
structure SrvAt (w:World) (T:TypeId) (B:Nat) (st:ah) (x:StA) (now:Int):Prop where
 blk:Blk w B T (iB st x now)
 at_:StAt w w st x
 ok:aE st=0
 t:0<=now/\now<=1099511627776
theorem SrvAt.below {w w':World} {T:TypeId} {B:Nat} {st:ah} {x:StA} {now:Int} (h:SrvAt w T B st x now) (a:Below w w w'):SrvAt w' T B st x now:=
 ⟨h.blk.below a h.blk.lt,h.at_.upS a,h.ok,h.t⟩
theorem SrvAt.other {w w':World} {T c:TypeId} {B a:Nat} {st:ah} {x:StA} {now:Int} {cs:Array Value} (h:SrvAt w T B st x now) (d:Blk w a c cs) (e:gL cs) (b:w.grownBy w' (some a)) (f:B≠a):SrvAt w' T B st x now:=
 ⟨ay b h.blk f,(h.at_.fY d e b).more b.size,h.ok,h.t⟩
def kX (V:Nat) (A:Option Addr) (n:Nat):Prop:=0<n->∀ b a,A=some ⟨b,a,none⟩->b≠V
structure Far (V:Nat) (x:StA):Prop where
 j:kX V x.aj x.nj
 n:kX V x.an x.nn
 l:kX V x.al x.nl
theorem bC.qR {w w':World} {B sz n V:Nat} {A:Option Addr} {xs:List Value} (h:bC w B sz A n xs) (i:kX V A n) (j:w.grownBy w' (some V)):bC w' B sz A n xs:=
 ⟨h.len,fun a=>by
  obtain⟨b,c,e,f,k⟩:=h.at_ a;exact⟨b,c,e,f,fun m u l=>j.cell (k m u l) (fun d=>i a b c e (by simpa using d))⟩⟩
theorem bC.oB {w:World} {B sz n V:Nat} {A:Option Addr} {xs:List Value} {t:TypeId} {cs:Array Value} (h:bC w B sz A n xs) (f:Blk w V t cs) (i:gL cs) (d:0<n->∃ s,xs[0]? = some (.string s)):kX V A n:=fun c m l e=>by
 obtain⟨o,q,a,p,j⟩:=h.at_ c;obtain⟨s,k⟩:=d c;rw [e] at a;simp only [Option.some.injEq,Addr.mk.injEq] at a;obtain⟨rfl,rfl,_⟩:=a;rintro rfl;have b:=j 0 _ k;rw [Nat.add_zero,f.cell l] at b;exact i _ _ b
theorem kX.lt {w:World} {B sz n V:Nat} {A:Option Addr} {xs:List Value} (h:bC w B sz A n xs) (i:B<=V):kX V A n:=fun b c k e=>by
 obtain⟨d,l,a,f,j⟩:=h.at_ b;rw [e] at a;simp only [Option.some.injEq,Addr.mk.injEq] at a;omega
theorem StAt.qR {w w':World} {B V:Nat} {st:ah} {x:StA} (h:StAt w B st x) (a:Far V x) (b:w.grownBy w' (some V)):StAt w' B st x:=
 ⟨h.j.qR a.j b,h.n.qR a.n b,h.l.qR a.l b,h.lj,h.ln,h.ll,h.bj,h.bn,h.bl,h.oj,h.on_,h.ol⟩
theorem StAt.oB {w:World} {B V:Nat} {t:TypeId} {cs:Array Value} {st:ah} {x:StA} (h:StAt w B st x) (a:Blk w V t cs) (b:gL cs):Far V x:=
 ⟨h.j.oB a b (pz h.lj),h.n.oB a b (nK h.ln),h.l.oB a b (mg h.ll)⟩
theorem StAt.far {w:World} {B V:Nat} {st:ah} {x:StA} (h:StAt w B st x) (a:B<=V):Far V x:=⟨kX.lt h.j a,kX.lt h.n a,kX.lt h.l a⟩
def EH (tl:List Value) (st:ah) (x:StA) (now:Int):Array Value:=(.int .i64 st.rev :: .slice x.aj x.nj x.cj :: .slice x.an x.nn x.cn :: .slice x.al x.nl x.cl :: .int .i64 now :: tl).toArray
structure iO (tl:List Value) (w:World) (T:TypeId) (B:Nat) (st:ah) (x:StA) (now:Int):Prop where
 blk:Blk w B T (EH tl st x now)
 at_:StAt w w st x
 ok:aE st=0
 t:0<=now/\now<=1099511627776
 far:Far B x
theorem iO.below {tl:List Value} {w w':World} {T:TypeId} {B:Nat} {st:ah} {x:StA} {now:Int} (h:iO tl w T B st x now) (a:Below w w w'):iO tl w' T B st x now:=
 ⟨h.blk.below a h.blk.lt,h.at_.upS a,h.ok,h.t,h.far⟩
def Iv (T:TypeId) (B:Nat) (st:ah) (R:lF) (w:World) (e:Ending) (w':World):Prop:=
 ∃ (D:aX) (dx:eF) (a:StA),e = .returned (.tuple #[.agg #[R.e,R.st.rev],.agg (dC D dx),.bool R.ch])/\D=(if R.ch=true then dL st R.st else ⟨0,0,[],[],[],[],[],[]⟩)/\dz w' w' D dx/\Blk w' B T (iB R.st a R.now)/\StAt w' w' R.st a/\w.grownBy w' (some B)
def sE (T:TypeId) (V:Nat) (w:World) (b:Nat):Prop:=V<w.heap.size/\∀ st x now,Blk w V T (iB st x now)->Far b x
theorem sE.keep {T:TypeId} {V b:Nat} {w w':World} (h:sE T V w b) (a:w'.heap[V]? = w.heap[V]?) (d:w.heap.size<=w'.heap.size):sE T V w' b:=
 ⟨u7 h.1 d,fun st x e c=>h.2 st x e (a.symm.trans c)⟩
theorem sE.of {T:TypeId} {V b:Nat} {w:World} {st:ah} {x:StA} {now:Int} (f:Blk w V T (iB st x now)) (h:Far b x):sE T V w b:=⟨f.lt,fun k a i y=>by
 have m:Obj.cells _ _ _=Obj.cells _ _ _:=Option.some.inj (f.symm.trans y);have o:iB st x now=iB k a i:=by injection m
 have g:∀ j:Nat,(iB st x now)[j]? = (iB k a i)[j]?:=fun j=>by rw [o]
 have c:some (Value.slice x.aj x.nj x.cj)=some (Value.slice a.aj a.nj a.cj):=g 1;have d:some (Value.slice x.an x.nn x.cn)=some (Value.slice a.an a.nn a.cn):=g 2;have e:some (Value.slice x.al x.nl x.cl)=some (Value.slice a.al a.nl a.cl):=g 3;simp only [Option.some.injEq,Value.slice.injEq] at c d e;obtain⟨p,q,_⟩:=c;obtain⟨r,s,_⟩:=d;obtain⟨u,v,_⟩:=e;refine⟨?_,?_,?_⟩
 · rw [<- p,<- q]; exact h.j
 · rw [<- r,<- s]; exact h.n
 · rw [<- u,<- v]; exact h.l⟩
theorem kX.Pf {w:World} {base b n m c sz:Nat} {e:TypeId} {A:Option Addr} {xs:List Value} (f:w.ownsRow base e sz (.slice A n c) m xs) (k:b<base):kX b A n:=fun l h p d=>by
 rcases f with ⟨_,⟨a,_⟩ | ⟨q,i,j,a,o,_⟩⟩
 · simp only [Value.slice.injEq] at a; omega
 · simp only [Value.slice.injEq] at a;rw [a.1] at d;simp only [Option.some.injEq,Addr.mk.injEq] at d;omega
def lL (T:TypeId) (B:Nat) (st:ah) (R:lF) (w:World) (e:Ending) (w':World):Prop:=
 ∃ (D:aX) (dx:eF) (a:StA),e = .returned (.tuple #[.agg #[R.e,R.st.rev],.agg (dC D dx),.bool R.ch])/\D=(if R.ch=true then dL st R.st else ⟨0,0,[],[],[],[],[],[]⟩)/\dz w' w' D dx/\Blk w' B T (iB R.st a R.now)/\StAt w' w' R.st a/\w.grownBy w' (some B)/\∀ b,b<w.heap.size->sE T B w b->Far b a
theorem lL.plain {T:TypeId} {B:Nat} {st:ah} {R:lF} {w w':World} {e:Ending} (h:lL T B st R w e w'):Iv T B st R w e w':=by
 obtain⟨D,a,k,b,c,d,f,i,j,-⟩:=h;exact⟨D,a,k,b,c,d,f,i,j⟩
structure AX (V:Nat) (x:eF):Prop where
 j:kX V x.aj x.nj
 n:kX V x.an x.nn
 l:kX V x.al x.nl
 gj:kX V x.agj x.ngj
 gn:kX V x.agn x.ngn
 gl:kX V x.agl x.ngl
theorem Dc (V:Nat):AX V ⟨none,0,0,none,0,0,none,0,0,none,0,0,none,0,0,none,0,0⟩:=⟨fun h=>absurd h (by decide),fun h=>absurd h (by decide),fun h=>absurd h (by decide),fun h=>absurd h (by decide),fun h=>absurd h (by decide),fun h=>absurd h (by decide)⟩
theorem dz.qR {w w':World} {B V:Nat} {d:aX} {x:eF} (h:dz w B d x) (a:AX V x) (b:w.grownBy w' (some V)):dz w' B d x:=
 ⟨h.j.qR a.j b,h.n.qR a.n b,h.l.qR a.l b,h.gj.qR a.gj b,h.gn.qR a.gn b,h.gl.qR a.gl b,h.lj,h.ln,h.ll,h.lgj,h.lgn,h.lgl,h.bj,h.bn,h.bl,h.bgj,h.bgn,h.bgl,h.oj,h.on_,h.ol,h.ogj,h.ogn,h.ogl⟩
def ou (tl:List Value) (T:TypeId) (B:Nat) (st:ah) (R:lF) (w:World) (e:Ending) (w':World):Prop:=
 ∃ (D:aX) (dx:eF) (a:StA),e = .returned (.tuple #[.agg #[R.e,R.st.rev],.agg (dC D dx),.bool R.ch])/\D=(if R.ch=true then dL st R.st else ⟨0,0,[],[],[],[],[],[]⟩)/\dz w' w' D dx/\AX B dx/\Blk w' B T (EH tl R.st a R.now)/\StAt w' w' R.st a/\Far B a/\w.grownBy w' (some B)
theorem ou.plain {T:TypeId} {B:Nat} {st:ah} {R:lF} {w w':World} {e:Ending} (h:ou [] T B st R w e w'):Iv T B st R w e w':=by
 obtain⟨D,a,k,b,c,d,-,f,i,-,j⟩:=h;exact⟨D,a,k,b,c,d,f,i,j⟩
def zT (st:ah) (w:World) (e:Ending) (w':World):Prop:=
 Below w w w'/\((aE st≠0/\e = .returned (.tuple #[.pointer none,(aE st)])) \/
  (aE st=0/\∃ V a,e = .returned (.tuple #[π V 0,(0:Int)])/\w.heap.size<=V/\SrvAt w' 106 V st a 0))
theorem Mt {w:World} {B:Nat} {st:ah} {x:StA} (h:StAt w B st x):oF st.jobs/\mP st.nodes/\lI st.leases:=⟨h.oj,h.on_,h.ol⟩
theorem Jz (st:ah) (x:StA) (w:World) (L:StAt w w st x) (M:Tabs w) :
 ψ 13 #[.agg (stC st x)] w (zT st w):=by
 obtain⟨W,h⟩:∃ W,w.alloc (.cells (stC st x) 26)=W:=⟨_,rfl⟩;have j:Below w w W:=by rw [<- h]; exact (θ).alloc lJ _
 have e:Blk W w 26 (stC st x):=by rw [<- h]; exact n5 w _
 have C:=L.upS j;have H:=ω (show ψ 37 #[.agg #[st.rev,.slice x.aj x.nj x.cj,.slice x.an x.nn x.cn,.slice x.al x.nl x.cl]] W _ from pI st x W C (M.below j));obtain⟨c0,u,c2,v⟩:=Blk.c4 (e);have hlt:=e.lt;have k:=ω e;have r:=ω j;have J:=ω C;have o:=ω h;obtain⟨E,K⟩:∃ E,aE st=E:=⟨_,rfl⟩;have b:=ω K;clear h e j L C M K;unfold stC at o |-;go_enter Tryz.func13,Tryz.ntmps13
 go_wp2_with fail
 try rw [o.z]
 clear o;refine H.mono ?_;rintro T F ⟨rfl,i⟩;rw [b.z];have G:=ω (k.below i k.lt);have p:=ω (r.trans (i.mono r.size));have m:=ω (J.upS i);clear i H k r J c0 u c2 v hlt;by_cases d:E=0
 · have l:=ω (b.trans d);subst d;have P:=qT m.z l.z;have I:=ω (show ψ 38 #[.agg #[st.rev,.slice x.aj x.nj x.cj,.slice x.an x.nn x.cn,.slice x.al x.nl x.cl]] F _ from Bs st x F m.z (by omega) (by omega) (by omega));have c:=ω P;clear P b;obtain⟨c0,u,c2,v⟩:=Blk.c4 (G.z);have hlt:=G.lt
   go_wp2_with fail
   refine I.mono ?_;rintro T a ⟨y,rfl,U,V,X,O,N⟩;obtain⟨Q,S,R⟩:=Mt m.z;have z:=O.at2 (by have:=c.z; omega) (by have:=c.z; omega) (by have:=c.z; omega) Q S R;have q:=ω (p.trans (N.mono p.size));have Y:=ω z;have D:Below a a (χ a (iB st y 0) 106):=(θ).alloc lJ _;have s:=ω (show zT st w (.returned (.tuple #[π a 0,(0:Int)])) (χ a #[st.rev,.slice y.aj y.nj y.cj,.slice y.an y.nn y.cn,.slice y.al y.nl y.cl,(0:Int)] 106) from ⟨q.trans (D.mono q.size),.inr ⟨l,a.heap.size,y,rfl,q.size,n5 a _,z.upS D,l,by omega⟩⟩);clear z O N D I c0 u c2 v hlt Q S R U V X c;unfold stC;go_wp2;go_ret2;exact s
 · have Z:(E != 0)=true:=by simpa using d
   have s:=ω (show zT st w (.returned (.tuple #[.pointer none,E])) F from ⟨p,.inl ⟨by rw [b.z]; exact d,by rw [b.z]⟩⟩);go_wp2;go_ret2;exact s
def uC (st:ah) (w:World) (e:Ending) (w':World):Prop:=∃ y,e = .returned (.agg (stC st y))/\StAt w' w' st y/\Below w w w'
theorem sF (st:ah) (x:StA) (now:Int) (V:Nat) (w:World) (h:SrvAt w 106 V st x now) :
 ψ 36 #[π V 0] w (uC st w):=by
 obtain⟨W,e⟩:∃ W,w.alloc (.cells lP 26)=W:=⟨_,rfl⟩;have l:Below w w W:=by rw [<- e]; exact (θ).alloc lJ _
 have s:Blk W w 26 lP:=by rw [<- e]; exact n5 w _
 have a:=h.below l;have C:=qT a.at_ a.ok;have o:=ω (show ψ 38 #[.agg #[st.rev,.slice x.aj x.nj x.cj,.slice x.an x.nn x.cn,.slice x.al x.nl x.cl]] W _ from Bs st x W a.at_ (by omega) (by omega) (by omega));obtain⟨c0,H,c2,I⟩:=Blk.c4 (h.blk);have hlt:=a.blk.lt;have N:=h.blk.lt;have i:=ω s;have j:=ω l;have m:=ω a;have p:=ω e;have c:=ω C;clear e s l h a C;go_enter Tryz.func36,Tryz.ntmps36
 go_wp2_with fail
 try rw [p.z]
 clear p;refine o.mono ?_;rintro M T ⟨y,rfl,J,K,L,z,k⟩;obtain⟨D,F,E⟩:=Mt m.at_;have q:=z.at2 (by have:=c.z; omega) (by have:=c.z; omega) (by have:=c.z; omega) D F E;have b:=i.below k i.lt;have r:=j.trans (k.mono j.size);obtain⟨z0,z1,z2,z3⟩:=Blk.z4 (b);obtain⟨P,Q,R,S⟩:=Blk.c4 (b);obtain⟨u,d⟩:=Blk.S4 (b) (.int .i64 st.rev) (.slice y.aj y.nj y.cj) (.slice y.an y.nn y.cn) (.slice y.al y.nl y.cl);obtain⟨U,X,Y,Z⟩:=Blk.c4 u;have O:=b.lt;have G:=ω (show uC st w (.returned (.agg (stC st y))) _ from ⟨y,rfl,(q.fY b (iV ⟨0,[],[],[]⟩ ⟨none,0,0,none,0,0,none,0,0⟩) d).more d.size,cU r d lJ⟩);clear q z k b r u d o c0 H c2 I hlt J K L D F E c i j m;unfold stC;go_wp2;refine bodyPost_ret (v:=.agg (stC st y)) (by simp [results,Tryz.results36,go_sem,stC, *]) rfl ?_;exact G
theorem BE {st:ah} (h:aE st=0):st.jobs.length<=40/\st.nodes.length<=20/\st.leases.length<=40:=by
 have b:dR st=true:=by
  cases a:ranged st.rev 0 1099511627776 with
  | false=>rw [Aq a] at h; exact absurd h (by decide)
  | true=>
   cases c:dR st with
   | true=>rfl
   | false=>rw [nY a c] at h; exact absurd h (by decide)
 unfold dR at b;simp at b;omega
theorem BF {α:Type} {a b:List α} {x:α} (h:x ∈ newL a b):x ∈ b:=(List.mem_filter.1 h).1
theorem yU {α:Type} {key:α->ByteArray} {a b:List α} {s:ByteArray} (h:s ∈ bI key a b):∃ x ∈ a,key x=s:=by
 obtain⟨x,c,e⟩:=List.mem_map.1 h;exact⟨x,(List.mem_filter.1 c).1,e⟩
theorem uM {w w':World} {B h:Nat} {a b:ah} {x y:StA} (e:StAt w B a x) (f:StAt w' h b y) (ha:aE a=0) (p:aE b=0):Id (dL a b):=by
 obtain⟨i,j,k⟩:=BE ha;obtain⟨l,m,o⟩:=BE p
 exact⟨v6 (AF _ _) l,v6 (AF _ _) m,v6 (AF _ _) o,v6 (yc _ _ _) i,v6 (yc _ _ _) j,v6 (yc _ _ _) k,
  fun r c=>f.oj r (BF c),fun r c=>f.on_ r (BF c),fun r c=>f.ol r (BF c),
  fun s d=>(by obtain⟨r,c,rfl⟩:=yU d; exact (e.oj r c).1),fun s d=>(by obtain⟨r,c,rfl⟩:=yU d; exact (e.on_ r c).1),fun s d=>(by obtain⟨r,c,rfl⟩:=yU d; exact (e.ol r c).1)⟩
theorem qG (w:World) (a b c:Array Value) {ta tb tc:TypeId}:Blk (((w.alloc (.cells a ta)).alloc (.cells b tb)).alloc (.cells c tc)) w ta a/\Blk (((w.alloc (.cells a ta)).alloc (.cells b tb)).alloc (.cells c tc)) (w.heap.size+1) tb b /\
 Blk (((w.alloc (.cells a ta)).alloc (.cells b tb)).alloc (.cells c tc)) (w.heap.size+2) tc c/\Below w w (((w.alloc (.cells a ta)).alloc (.cells b tb)).alloc (.cells c tc)):=by
 have f:Blk (χ w a ta) w ta a:=n5 w _;have d:=n5 (χ w a ta) (.cells b tb);rw [show (w.alloc (.cells a ta)).heap.size=w.heap.size+1 by simp] at d;have e:=n5 ((w.alloc (.cells a ta)).alloc (.cells b tb)) (.cells c tc);rw [show ((w.alloc (.cells a ta)).alloc (.cells b tb)).heap.size=w.heap.size+2 by simp] at e;exact⟨(f.alloc _).alloc _,(show Blk _ _ _ _ from d).alloc _,e,(((θ).alloc lJ _).alloc (by simp) _).alloc (by simp; omega) _⟩
theorem sL.low {w:World} {g a:Nat} {d:aX} {x:eF} (j:sL w g d x) (I:a<g):sL w a d x:=by
 obtain⟨⟨b,C,r⟩,⟨c,D,s⟩,⟨e,E,u⟩,⟨f,F,v⟩,⟨h,G,y⟩,⟨i,H,z⟩,k,l,m,o,p,q⟩:=j;exact⟨⟨b,by omega,r⟩,⟨c,by omega,s⟩,⟨e,by omega,u⟩,⟨f,by omega,v⟩,⟨h,by omega,y⟩,⟨i,by omega,z⟩,k,l,m,o,p,q⟩
theorem xN (n:Nat):(bg n).length<=4000:=by have:=dO n; omega
theorem gU {α:Type} {enc:α->List UInt8} {xs:List α} (h:∀ x,(enc x).length<=85) (c:xs.length<=40):(fZ enc xs).length<=4000:=by
 have a:=iW h xs;have b:=bT xs.length;unfold fZ;rw [List.length_append]; omega
theorem uW (x:ByteArray):(dW x).length<=85:=by have:=dA x; omega
theorem gB.new {w:World} {base:Nat} (e:Tabs w) (c:ren.g 3<base) (d:ren.g 4<base) (a:base<=w.heap.size):gB (χ w #[.slice none 0 0] 238) base w []:=
 have b:Below w w (χ w #[.slice none 0 0] 238):=(θ).alloc lJ _
 ⟨⟨a,none,0,0,n5 w _,World.ownsRow_nil _ _ _ _⟩,e.below b,c,d,v6 a b.size⟩
theorem Tabs.lt {w:World} (h:Tabs w):ren.g 3<w.heap.size/\ren.g 4<w.heap.size:=by
 have lt:∀ {a:Addr} {v:Value},w.cell? a=some v->a.block<w.heap.size:=fun {a v} c=>by
  rcases Nat.lt_or_ge a.block w with b | b
  · exact b
  · simp [World.cell?,Array.getElem?_eq_none b] at c
 exact⟨lt (h.1 0 (by decide)),lt (h.2 0 (by decide)).1⟩
def tA (q:aK) (e:Int) (w:World) (x:Ending) (w':World):Prop:=x = .returned (.tuple #[bP q,e])/\Below w w w'
theorem StOwn.base {w:World} {base b:Nat} {st:ah} {x:StA} (h:StOwn w base st x) (a:b<=base):StOwn w b st x:=
 ⟨cZ h.j a,cZ h.n a,cZ h.l a,h.lj,h.ln,h.ll⟩
structure SGood (st:ah):Prop where
 r0:0<=st.rev
 r1:st.rev<=1099511627776
 nj:st.jobs.length<=40
 nn:st.nodes.length<=20
 nl:st.leases.length<=40
 ej:cE fS aC.name st.jobs=0
 en:cE dP av.name st.nodes=0
 el:cE (dN st) ak.job st.leases=0
theorem Oe {st:ah} (h:aE st=0):SGood st:=by
 have f:=BE h
 have b:ranged st.rev 0 1099511627776=true:=by
  cases b:ranged st.rev 0 1099511627776 with
  | true=>rfl
  | false=>rw [Aq b] at h; exact absurd h (by decide)
 have e:dR st=true:=by
  cases e:dR st with
  | true=>rfl
  | false=>rw [nY b e] at h; exact absurd h (by decide)
 have a:cE fS aC.name st.jobs=0:=by
  by_cases a:cE fS aC.name st.jobs=0
  · exact a
  · rw [CU b e a] at h; exact absurd h a
 have c:cE dP av.name st.nodes=0:=by
  by_cases c:cE dP av.name st.nodes=0
  · exact c
  · rw [Ar b e a c] at h; exact absurd h c
 have d:cE (dN st) ak.job st.leases=0:=by
  by_cases d:cE (dN st) ak.job st.leases=0
  · exact d
  · rw [CV b e a c,if_pos d] at h; exact absurd h d
 have:=aM.1 b;exact⟨this.1,this.2,f.1,f.2.1,f.2.2,a,c,d⟩
theorem SGood.job {st:ah} (h:SGood st) {x:aC} (d:x ∈ st.jobs):x.name.size<=16/\x.tag.size<=16/\(-1000<=x.prio/\x.prio<=1000)/\(0<=x.need/\x.need<=1000000)/\(0<=x.tries/\x.tries<=100):=by
 obtain⟨a,b,c⟩:=oX (fC h.ej d);exact⟨eV a,nH b,c⟩
theorem SGood.node {st:ah} (h:SGood st) {x:av} (d:x ∈ st.nodes):x.name.size<=16/\x.zone.size<=16/\(0<=x.room/\x.room<=1000000):=by
 obtain⟨a,b,c⟩:=pM (fC h.en d);exact⟨eV a,nH b,c⟩
theorem SGood.lease {st:ah} (h:SGood st) {l:ak} (m:l ∈ st.leases):l.job.size<=16/\l.node.size<=16/\(0<=l.till/\l.till<=1099511627776):=by
 have a:=fC h.el m;unfold dN at a
 split at a
 · rename_i b
   split at a
   · rename_i i
     have q:=aM.1 i;simp only [Bool.and_eq_true] at b;obtain⟨r,e⟩:=Option.isSome_iff_exists.1 b.1;obtain⟨n,f⟩:=Option.isSome_iff_exists.1 b.2;have k:=List.mem_of_find?_eq_some e;have p:=List.mem_of_find?_eq_some f;have j:r.name=l.job:=by simpa using List.find?_some e
     have o:n.name=l.node:=by simpa using List.find?_some f
     have c:=eV (oX (fC h.ej k)).1;have d:=eV (pM (fC h.en p)).1;rw [j] at c;rw [o] at d;exact⟨c,d,q⟩
   · exact absurd a (by decide)
 · exact absurd a (by decide)
def uR (st:ah) (v:Int):List UInt8:=(if 2<v then bg st.rev.toNat else []) ++ mL st.jobs st.nodes st.leases v
def jY (st:ah) (v:Int):ByteArray × Int:=if aE st≠0 then (⟨#[]⟩,aE st) else if ranged v 1 3=false then (⟨#[]⟩,1) else if p9 st v=false then (⟨#[]⟩,4) else (⟨(uR st v).toArray⟩,0)
theorem zC {st:ah} {v:Int} (h:aE st≠0):jY st v=(⟨#[]⟩,aE st):=by unfold jY; rw [if_pos h]
theorem CA {st:ah} {v:Int} (h:aE st=0) (a:ranged v 1 3=false):jY st v=(⟨#[]⟩,1):=by unfold jY; rw [if_neg (by simp [h]),if_pos a]
theorem BG {st:ah} {v:Int} (h:aE st=0) (a:ranged v 1 3=true) (b:p9 st v=false):jY st v=(⟨#[]⟩,4):=by unfold jY; rw [if_neg (by simp [h]),if_neg (by simp [a]),if_pos b]
theorem Fp {st:ah} {v:Int} (h:aE st=0) (a:ranged v 1 3=true) (b:p9 st v=true):jY st v=(⟨(uR st v).toArray⟩,0):=by unfold jY; rw [if_neg (by simp [h]),if_neg (by simp [a]),if_neg (by simp [b])]
theorem SGood.jobs {st:ah} (h:SGood st):∀ x ∈ st.jobs,uF x:=fun _ a=>If (fC h.ej a)
theorem SGood.nodes {st:ah} (h:SGood st):∀ x ∈ st.nodes,p8 x:=fun _ a=>Eh (fC h.en a)
theorem SGood.leases {st:ah} (h:SGood st):∀ x ∈ st.leases,vB x:=fun _ a=>by
 obtain⟨b,c,d⟩:=h.lease a;exact⟨by omega,by omega,by omega⟩
def vT (st:ah) (v:Int) (w:World) (e:Ending) (w':World):Prop:=e = .returned (.tuple #[.string (jY st v).1,.int .i64 (jY st v).2])/\Below w w w'
theorem vT.mk' {st:ah} {v E:Int} {s:ByteArray} {w w':World} (h:jY st v=(s,E)) (a:Below w w w'):vT st v w (.returned (.tuple #[s,E])) w':=⟨by rw [h],a⟩
theorem JU {st:ah} (g:SGood st) (v:Int):(mL st.jobs st.nodes st.leases v).length<=12000:=by
 have d:=iW (enc:=fun x=>eK x v) (fun x=>mH x v) st.jobs;have e:=iW (enc:=fun x=>cX x v) (fun x=>kU x v) st.nodes;have f:=iW (enc:=eH) kC st.leases;have a:=bT st.jobs.length;have b:=bT st.nodes.length;have c:=bT st.leases.length;have:=g.nj;have:=g.nn;have:=g.nl;unfold mL fZ;simp only [List.length_append]; omega
theorem NQ (base g p q:Nat) (v:Int) (l:List UInt8) (x:aC) (w:World) (e:uF x) (h:gB w base g l) (C:l.length<=90000000) (b:Blk w p 236 #[π g 0]) (c:Blk w q 3 #[v]) :
 ψ 203 #[.agg (aS x).toArray,π p 0,π q 0] w (iM base g (l ++ eK x v) w):=by
 have s:=ω e;obtain⟨i,k,j,o,m⟩:=x;generalize d:l ++ eK _ v=K;have r:=ω d;unfold aS;have a:=ω (WGo.start h 85 #[i,k,j,o,m] (by decide));have G:ζ w p 0 (π g 0):=b.cell 0;have D:=b.lt;have H:ζ w q 0 (.int .i64 v):=c.cell 0;have E:=c.lt;clear h e b c d;go_enter Tryz.func203,Tryz.ntmps203
 go_wp2_with fail
 refine Calls.mono (Ms base g _ ⟨i,k,j,o,m⟩ v _ s.z a.ok (by have:=a.len; omega)) ?_;rintro z F ⟨rfl,ok1,y⟩;rw [r.z] at ok1;have u:=a.keep.trans y;go_wp2;go_end0;exact⟨rfl,ok1,u⟩
theorem Mu (base g p q:Nat) (v:Int) (l:List UInt8) (x:av) (w:World) (e:p8 x) (h:gB w base g l) (y:l.length<=90000000) (b:Blk w p 236 #[π g 0]) (c:Blk w q 3 #[v]) :
 ψ 204 #[.agg (aH x).toArray,π p 0,π q 0] w (iM base g (l ++ cX x v) w):=by
 have o:=ω e;obtain⟨i,j,k⟩:=x;generalize d:l ++ cX _ v=K;have m:=ω d;unfold aH;have a:=ω (WGo.start h 70 #[i,j,k] (by decide));have E:ζ w p 0 (π g 0):=b.cell 0;have z:=b.lt;have F:ζ w q 0 (.int .i64 v):=c.cell 0;have C:=c.lt;clear h e b c d;go_enter Tryz.func204,Tryz.ntmps204
 go_wp2_with fail
 refine Calls.mono (JT base g _ ⟨i,j,k⟩ v _ o.z a.ok (by have:=a.len; omega)) ?_;rintro u D ⟨rfl,ok1,s⟩;rw [m.z] at ok1;have r:=a.keep.trans s;go_wp2;go_end0;exact⟨rfl,ok1,r⟩
theorem rU :
 (∀ (base g p q:Nat) (v:Int) (l:List UInt8) (xs:List aC) (A:Option Addr) (n c:Nat) (w:World) (z:bC w base 5 A n (au aS xs)) (d:xs.length=n) (R:n<=1000000) (y:∀ x ∈ xs,uF x) (j:gB w base g l) (Q:l.length<=1000000) (o:Blk w p 236 #[π g 0]) (r:p≠g) (s:Blk w q 3 #[v]) (u:q≠g),ψ 163 #[π g 0,.slice A n c,.func (.func 203) #[] #[π p 0,π q 0]] w (iM base g (l ++ fZ (fun x=>eK x v) xs) w)) /\
 (∀ (base g p q:Nat) (v:Int) (l:List UInt8) (xs:List av) (A:Option Addr) (n c:Nat) (w:World) (z:bC w base 3 A n (au aH xs)) (d:xs.length=n) (R:n<=1000000) (y:∀ x ∈ xs,p8 x) (j:gB w base g l) (Q:l.length<=1000000) (o:Blk w p 236 #[π g 0]) (r:p≠g) (s:Blk w q 3 #[v]) (u:q≠g),ψ 166 #[π g 0,.slice A n c,.func (.func 204) #[] #[π p 0,π q 0]] w (iM base g (l ++ fZ (fun x=>cX x v) xs) w)):=by
 refine⟨@fun base g p q v l xs A n c w z d R y j Q o r s u=>(fun(a:Unit)=>?_) (),@fun base g p q v l xs A n c w z d R y j Q o r s u=>(fun(C:Unit)=>?_) ()⟩<;>(
 first|(guard_hyp a;have ac:=@aT)|(have ac:=@aO)
 first
  |(
   guard_hyp a
   have F:∀ k,((xs.take k).flatMap (fun x=>eK x v)).length<=85*n:=fun k=>by
    have h1:=iW (enc:=fun x=>eK x v) (fun x=>mH _ v) (xs.take k);have h2:(xs.take k).length<=n:=by rw [List.length_take]; omega
    omega)
  |(
   guard_hyp C
   have F:∀ k,((xs.take k).flatMap (fun x=>cX x v)).length<=85*n:=fun k=>by
    have h1:=iW (enc:=fun x=>cX x v) (fun x=>kU _ v) (xs.take k);have h2:(xs.take k).length<=n:=by rw [List.length_take]; omega
    omega)
 have ah:=bT n
 first|(guard_hyp a;have W:=ω (show ∀ k,(l ++ bg n ++ (xs.take k).flatMap (fun x=>eK x v)).length<=90000000 from fun k=>by have:=F k; simp only [List.length_append]; omega))|have W:=ω (show ∀ k,(l ++ bg n ++ (xs.take k).flatMap (fun x=>cX x v)).length<=90000000 from fun k=>by have:=F k; simp only [List.length_append]; omega)
 first|(guard_hyp a;have bE:=ω (show l ++ fZ (fun x=>eK x v) xs=l ++ bg n ++ (xs.take n).flatMap (fun x=>eK x v) from by unfold fZ; rw [<- d,List.take_length,List.append_assoc]))|have bE:=ω (show l ++ fZ (fun x=>cX x v) xs=l ++ bg n ++ (xs.take n).flatMap (fun x=>cX x v) from by unfold fZ; rw [<- d,List.take_length,List.append_assoc])
 have HN:=ω (pX base g l (n:Int) w (by omega) j (by omega));have Hw:=ω y;have V:=ω d;have Hx:=ω z;have Ho:=ω j;have Z:=ω o;have Hq:=ω s;clear y d z j F ah o s
 first|(guard_hyp a;go_enter Tryz.func163,Tryz.ntmps163)|go_enter Tryz.func166,Tryz.ntmps166
 go_wp2_with fail
 refine HN.mono ?_;rintro e w0 ⟨rfl,ok0,k0⟩;rw [show ((n:Int)).toNat=n from by omega] at ok0;have af:=ω ok0;have K0:=ω k0;clear ok0 k0;go_wp2
 first|(guard_hyp a;go_loopw [7,14] (fun _ i wr=>uf (fun x=>eK x v) xs n base g l w i wr) (fun _ i _=>n - (intOf i).toNat))|go_loopw [7,14] (fun _ i wr=>uf (fun x=>cX x v) xs n base g l w i wr) (fun _ i _=>n - (intOf i).toNat)
 case atStart=>exact⟨0,Nat.zero_le _,rfl,by simpa using af.z,K0⟩
 case round=>
  obtain⟨k,hk,rfl,S,P⟩:=hrel;have Y:=ω S;have h:=ω P;have ak:=S.size;have hB:=Ho.keep P;clear S P;by_cases hlt:k<n
  · obtain⟨x,m⟩:∃ x,xs[k]? = some x:=⟨_,gO (by rw [V.z]; exact hlt)⟩;obtain⟨ag,al,rfl,ai,O⟩:=(Hx.below hB).eC ac V.z m;have ab:=ω (Hw.z x (m8 m))
    first|(guard_hyp a;have N:=ω (iX (fun x=>eK x v) m))|have N:=ω (iX (fun x=>cX x v) m)
    obtain⟨X,hX⟩:∃ X,X=x:=⟨_,rfl⟩;have HX:=ω hX
    first
     |(
      guard_hyp a
      obtain⟨b,G,E,J,I⟩:=x;obtain⟨c0,c1,c2,c3,c4⟩:=rc5 O)
     |(
      guard_hyp C
      obtain⟨b,H,K⟩:=x;obtain⟨c0,c1,c2⟩:=rc3 O)
    clear O m hX hB;have aj:ag<wr.heap.size:=by omega
    first
     |(
      guard_hyp a
      have D:Below wr wr (χ wr #[b,G,E,J,I] 85):=(θ).alloc lJ _)
     |(
      guard_hyp C
      have D:Below wr wr (χ wr #[b,H,K] 70):=(θ).alloc lJ _)
    have ad:=ω D;have T:=ω (Y.below D);have U:=ω (W.z k)
    first
     |(
      guard_hyp a
      have L:=ω ((h.blk Z.z (by decide) (by intro e; subst e; exact r rfl)).alloc (.cells #[b,G,E,J,I] 85));have M:=ω ((h.blk Hq.z (by decide) (by intro e; subst e; exact u rfl)).alloc (.cells #[b,G,E,J,I] 85)))
     |(
      guard_hyp C
      have L:=ω ((h.blk Z.z (by decide) (by intro e; subst e; exact r rfl)).alloc (.cells #[b,H,K] 70));have M:=ω ((h.blk Hq.z (by decide) (by intro e; subst e; exact u rfl)).alloc (.cells #[b,H,K] 70)))
    clear D
    go_wp2_with fail
    first
     |(
      guard_hyp a
      refine Calls.mono (NQ base g p q v _ ⟨b,G,E,J,I⟩ _ ab.z T.z U.z L.z M.z) ?_)
     |(
      guard_hyp C
      refine Calls.mono (Mu base g p q v _ ⟨b,H,K⟩ _ ab.z T.z U.z L.z M.z) ?_)
    rintro e w1 ⟨rfl,ok1,k1⟩;have ae:=ω (h.trans ((dE.of_below ad.z).trans k1))
    first|(guard_hyp a;have aa:=ω (show gB w1 base g (l ++ bg n ++ (xs.take (k+1)).flatMap (fun x=>eK x v)) from by rw [N.z,<- List.append_assoc]; exact ok1))|have aa:=ω (show gB w1 base g (l ++ bg n ++ (xs.take (k+1)).flatMap (fun x=>cX x v)) from by rw [N.z,<- List.append_assoc]; exact ok1)
    clear ok1 k1;go_wp2
    go_roundw
    case rel=>exact⟨k+1,by omega,by go_num,aa.z,ae.z⟩
    case measure=>simp [intOf]; omega
  · obtain rfl:k=n:=by omega
    go_wp2;go_end0;exact⟨rfl,by rw [bE.z]; exact Y.z,h⟩)
structure VGo (w0 w:World) (base g p S Q:Nat) (v:Int) (l:List UInt8) (cs:Array Value) (N:Nat):Prop where
 ok:gB w base g l
 keep:dE base g w0 w
 bS:Blk w S 26 cs
 bq:Blk w Q 3 #[v]
 bp:Blk w p 236 #[π g 0]
 nS:S≠g
 nq:Q≠g
 np:p≠g
 len:l.length<=N
theorem VGo.next {w0 w w':World} {base g p S Q N:Nat} {v:Int} {l k:List UInt8} {cs:Array Value} (h:VGo w0 w base g p S Q v l cs N) (ha:gB w' base g (l ++ k)) (a:dE base g w w') (b:k.length<=4000):VGo w0 w' base g p S Q v (l ++ k) cs (N+4000):=
 ⟨ha,h.keep.trans a,a.blk h.bS (by decide) h.nS,a.blk h.bq (by decide) h.nq,a.blk h.bp (by decide) h.np,h.nS,h.nq,h.np,by have:=h.len; rw [List.length_append]; omega⟩
theorem Fh (st:ah) (x:StA) (v:Int) (w:World) (hS:StAt w w st x) (hT:Tabs w) :
 ψ 161 #[.agg (stC st x),v] w (vT st v w):=by
 have ag:Below w w (χ w (stC st x) 26):=(θ).alloc lJ _;have Y:=ag.alloc ag.size (.cells #[v] 3);have av:Blk ((w.alloc (.cells (stC st x) 26)).alloc (.cells #[v] 3)) w 26 (stC st x):=Blk.alloc (show Blk _ _ _ _ from n5 w _) _
 have au:Blk ((w.alloc (.cells (stC st x) 26)).alloc (.cells #[v] 3)) (w.heap.size+1) 3 #[v]:=by
  have ae:=n5 (χ w (stC st x) 26) (.cells #[v] 3);rwa [show (w.alloc (.cells (stC st x) 26)).heap.size=w.heap.size+1 by simp] at ae
 have al:=ω (K9 st x v _ (hS.up Y) (hT.below Y));have V:=ω (fun aB E (ae:jY st v=(aB,E)) w'=>vT.mk' (w:=w) (w':=w') ae);have d:=ω hS;have HT:=ω hT;have ar:=ω Y;have ab:=ω av;have aa:=ω au;have hF:AM st v=if aE st≠0 then (false,aE st) else if ranged v 1 3=false then (false,1) else (p9 st v,0):=rfl;have HF:=ω hF;clear ag Y hS av au hT hF;obtain⟨rev,jobs,nodes,leases⟩:=st;obtain⟨a1,nj,cj,an,nn,cn,D,Q,F⟩:=x;unfold stC at *;dsimp only at *;go_enter Tryz.func161,Tryz.ntmps161
 go_wp2_with fail
 refine al.mono ?_;rintro s a ⟨rfl,X⟩;have C:=ω (ar.trans (X.mono ar.size));have a0:=ω (ab.below X ab.lt);have aq:=ω (aa.below X aa.lt);have aD:w.heap.size+1<a.heap.size:=aq.lt;rw [HF.z];clear X al ab aa;obtain⟨E,hE⟩:∃ E,aE ⟨rev,jobs,nodes,leases⟩=E:=⟨_,rfl⟩;obtain⟨a2,aj⟩:∃ f,p9 ⟨rev,jobs,nodes,leases⟩ v=f:=⟨_,rfl⟩;have z:=ω hE;have C6:=ω aj;rw [hE,aj];clear hE aj HF;by_cases W:E=0;rotate_left
 · rw [if_pos W];have e2:(E != 0)=true:=bne_iff_ne.2 W;have q:=ω (V.z _ _ (by rw [zC (by rw [z.z]; exact W),z.z]) _ C.z);go_wp2;go_ret2;exact q
 subst W;rw [if_neg (by simp)];cases L:ranged v 1 3
 · rw [if_pos rfl];have q:=ω (V.z _ _ (CA z.z L) _ C.z);clear L;go_wp2;go_ret2;exact q
 rw [if_neg (by simp)];have Hr:=ω L;have hv:=aM.1 L;clear L;cases a2
 · have q:=ω (V.z _ _ (BG z.z Hr.z C6.z) _ C.z);go_wp2;go_ret2;exact q
 have q:=ω (V.z _ _ (Fp z.z Hr.z C6.z));have G:=ω (Oe z.z);have am:=ω (G.jobs);have ap:=ω (G.nodes);have ao:=ω (G.leases);have a5:=G.r0;have a6:=G.r1;have ad:=G.nj;have a4:=G.nn;have a3:=G.nl;have a7:=d.lj;have a8:=d.ln;have a9:=d.ll;dsimp only at a5 a6 ad a4 a3 a7 a8 a9;have af:=HT.lt;have az:=gB.new (HT.below C.z) af.1 af.2 (show w.heap.size<=a.heap.size by omega);have aw:Below a a (χ a #[.slice none 0 0] 238):=(θ).alloc lJ _;have ay:(a.alloc (.cells #[.slice none 0 0] 238)).heap.size=a.heap.size+1:=by simp
 have ai:Below (a.alloc (.cells #[.slice none 0 0] 238)).heap.size (χ a #[.slice none 0 0] 238) ((a.alloc (.cells #[.slice none 0 0] 238)).alloc (.cells #[π a 0] 236)):=(θ).alloc lJ _
 have ax:Blk ((a.alloc (.cells #[.slice none 0 0] 238)).alloc (.cells #[π a 0] 236)) (a.heap.size+1) 236 #[π a 0]:=by
  have:=n5 (χ a #[.slice none 0 0] 238) (.cells #[π a 0] 236);rw [ay] at this;exact this
 have e:=ω (VGo.mk (w0:=w) (N:=0) (az.below ai) (((dE.of_below C.z).trans (dE.of_below aw)).trans (dE.of_below ai)) ((a0.alloc _).alloc _) ((aq.alloc _).alloc _) ax (show w.heap.size≠a.heap.size by omega) (show w.heap.size+1≠a.heap.size by omega) (by omega) (by simp));obtain⟨y0,Z,r,i⟩:=Blk.c4 (e.bS);have yq:ζ ((a.alloc (.cells #[.slice none 0 0] 238)).alloc (.cells #[π a 0] 236)) (w.heap.size+1) 0 (.int .i64 v):=e.bq.cell 0;clear af az aw ay ai ax C;by_cases h2:2<v
 · have d2:decide (2<v)=true:=t8 h2
   go_wp2_with fail
   refine Calls.mono (pX w a _ rev _ (by omega) e.ok (by have:=e.len; omega)) ?_;rintro s U ⟨rfl,ok1,k1⟩;have h:=ω (e.next ok1 k1 (xN _));clear ok1 k1 e y0 Z r i yq;have m:ζ U (a.heap.size+1) 0 (π a 0):=h.bp.cell 0;have k:a.heap.size+1<U.heap.size:=h.bp.lt;have Z:ζ U w 1 (.slice a1 nj cj):=h.bS.cell 1;have r:ζ U w 2 (.slice an nn cn):=h.bS.cell 2;have i:ζ U w 3 (.slice D Q F):=h.bS.cell 3
   go_wp2_with fail
   refine Calls.mono (rU.1 w.heap.size a (a.heap.size+1) (w.heap.size+1) v _ jobs _ _ _ _ (d.j.below (h.keep.below (show w.heap.size<=a.heap.size by omega) lJ)) d.lj (by first | omega | (dsimp only; omega)) am.z h.ok (by have:=h.len; omega) h.bp h.np h.bq h.nq) ?_;rintro s p ⟨rfl,R,M⟩;have b:=ω (h.next R M (gU (fun x=>mH x v) ad));clear R M m k Z r i;have m:ζ p (a.heap.size+1) 0 (π a 0):=b.bp.cell 0;have k:a.heap.size+1<p.heap.size:=b.bp.lt;have r:ζ p w 2 (.slice an nn cn):=b.bS.cell 2;have i:ζ p w 3 (.slice D Q F):=b.bS.cell 3
   go_wp2_with fail
   refine Calls.mono (rU.2 w.heap.size a (a.heap.size+1) (w.heap.size+1) v _ nodes _ _ _ _ (d.n.below (b.keep.below (show w.heap.size<=a.heap.size by omega) lJ)) d.ln (by first | omega | (dsimp only; omega)) ap.z b.ok (by have:=b.len; omega) b.bp b.np b.bq b.nq) ?_;rintro s u ⟨rfl,S,O⟩;have c:=ω (b.next S O (gU (fun x=>kU x v) (by omega)));clear S O m k r i;have m:ζ u (a.heap.size+1) 0 (π a 0):=c.bp.cell 0;have k:a.heap.size+1<u.heap.size:=c.bp.lt;have i:ζ u w 3 (.slice D Q F):=c.bS.cell 3
   go_wp2_with fail
   refine Calls.mono (xO w a (a.heap.size+1) _ leases _ _ _ _ (d.l.below (c.keep.below (show w.heap.size<=a.heap.size by omega) lJ)) d.ll (by first | omega | (dsimp only; omega)) ao.z c.ok (by have:=c.len; omega)) ?_;rintro s y ⟨rfl,T,P⟩;have o:=ω (c.next T P (gU (fun x=>kC x) (by omega)));clear T P m k i;have m:ζ y (a.heap.size+1) 0 (π a 0):=o.bp.cell 0;have k:a.heap.size+1<y.heap.size:=o.bp.lt;have I:[] ++ bg rev.toNat ++ fZ (fun x=>eK x v) jobs ++ fZ (fun x=>cX x v) nodes ++ fZ eH leases=uR ⟨rev,jobs,nodes,leases⟩ v:=by unfold uR mL; rw [if_pos (by omega)]; simp only [List.append_assoc,List.nil_append]
   have J:=o.ok.at_;rw [I] at J;obtain⟨_,AA,ak,ac,H,K⟩:=J;have z0:ζ y a 0 (.slice AA ak ac):=H.cell 0;have aA:=iS Tryz.underlying55 Tryz.underlying5 Tryz.underlying9 K;have bE:=ω (q.z _ (o.keep.below (show w.heap.size<=a.heap.size by omega) lJ));clear I H K;go_wp2;go_ret2;exact bE
 · have d2:decide (2<v)=false:=fK h2;have aC:a.heap.size<a.heap.size+1:=by omega
   go_wp2_with fail
   refine Calls.mono (rU.1 w.heap.size a (a.heap.size+1) (w.heap.size+1) v _ jobs _ _ _ _ (d.j.below (e.keep.below (show w.heap.size<=a.heap.size by omega) lJ)) d.lj (by first | omega | (dsimp only; omega)) am.z e.ok (by have:=e.len; omega) e.bp e.np e.bq e.nq) ?_;rintro s p ⟨rfl,R,M⟩;have b:=ω (e.next R M (gU (fun x=>mH x v) ad));clear R M y0 Z r i yq;have m:ζ p (a.heap.size+1) 0 (π a 0):=b.bp.cell 0;have k:a.heap.size+1<p.heap.size:=b.bp.lt;have r:ζ p w 2 (.slice an nn cn):=b.bS.cell 2;have i:ζ p w 3 (.slice D Q F):=b.bS.cell 3
   go_wp2_with fail
   refine Calls.mono (rU.2 w.heap.size a (a.heap.size+1) (w.heap.size+1) v _ nodes _ _ _ _ (d.n.below (b.keep.below (show w.heap.size<=a.heap.size by omega) lJ)) d.ln (by first | omega | (dsimp only; omega)) ap.z b.ok (by have:=b.len; omega) b.bp b.np b.bq b.nq) ?_;rintro s u ⟨rfl,S,O⟩;have c:=ω (b.next S O (gU (fun x=>kU x v) (by omega)));clear S O m k r i;have m:ζ u (a.heap.size+1) 0 (π a 0):=c.bp.cell 0;have k:a.heap.size+1<u.heap.size:=c.bp.lt;have i:ζ u w 3 (.slice D Q F):=c.bS.cell 3
   go_wp2_with fail
   refine Calls.mono (xO w a (a.heap.size+1) _ leases _ _ _ _ (d.l.below (c.keep.below (show w.heap.size<=a.heap.size by omega) lJ)) d.ll (by first | omega | (dsimp only; omega)) ao.z c.ok (by have:=c.len; omega)) ?_;rintro s y ⟨rfl,T,P⟩;have o:=ω (c.next T P (gU (fun x=>kC x) (by omega)));clear T P m k i;have m:ζ y (a.heap.size+1) 0 (π a 0):=o.bp.cell 0;have k:a.heap.size+1<y.heap.size:=o.bp.lt;have I:[] ++ fZ (fun x=>eK x v) jobs ++ fZ (fun x=>cX x v) nodes ++ fZ eH leases=uR ⟨rev,jobs,nodes,leases⟩ v:=by unfold uR mL; rw [if_neg (by omega)]; simp only [List.append_assoc,List.nil_append]
   have J:=o.ok.at_;rw [I] at J;obtain⟨_,AA,ak,ac,H,K⟩:=J;have z0:ζ y a 0 (.slice AA ak ac):=H.cell 0;have aA:=iS Tryz.underlying55 Tryz.underlying5 Tryz.underlying9 K;have bE:=ω (q.z _ (o.keep.below (show w.heap.size<=a.heap.size by omega) lJ));clear I H K;go_wp2;go_ret2;exact bE
theorem GW (st:ah) (x:StA) (v:Int) (w:World) (c:StAt w w st x) (g:SGood st) :
 ψ 175 #[.agg (stC st x),v] w (gq (uR st v) w):=by
 have r:Below w w (χ w (stC st x) 26):=(θ).alloc lJ _;have y:Blk (χ w (stC st x) 26) w 26 (stC st x):=n5 w _;have h:=c.up r;have C:=c.lj;have D:=c.ln;have E:=c.ll;have a:=ω (B6 st.jobs st.nodes st.leases x.aj x.nj x.cj x.an x.nn x.cn x.al x.nl x.cl v (χ w (stC st x) 26) h.j C (by have:=g.nj; omega) g.jobs h.n D (by have:=g.nn; omega) g.nodes h.l E (by have:=g.nl; omega) g.leases);have m:=ω (show uR st v=(if 2<v then bg st.rev.toNat else []) ++ mL st.jobs st.nodes st.leases v from rfl);have g0:=g.r0;have Y:=g.r1;have F:=JU g v;have s:=ω r;have k:=ω y;clear r y h c C D E g;obtain⟨rev,jobs,nodes,leases⟩:=st;obtain⟨R,nj,V,U,nn,X,S,nl,W⟩:=x;unfold stC at *;dsimp only at *;generalize M:mL jobs nodes leases v=u at a m F;have O:(bs u).size<=12000:=by rw [dB]; exact F
 generalize z:bs u=T at a O;have o:=ω z;clear M z;unfold gq at a;rw [o.z] at a;go_enter Tryz.func175,Tryz.ntmps175
 go_wp2_with fail
 refine a.mono ?_;rintro L H ⟨rfl,b⟩;have p:=ω (s.trans (b.mono s.size));have q:=k.below b k.lt;have P:ζ H w 0 (.int .i64 rev):=q.cell 0;have Z:=q.lt;clear b a k q;by_cases d:2<v
 · have K:decide (2<v)=true:=t8 d;have i:=ω (show bs (bg rev.toNat) ++ T=bs (uR ⟨rev,jobs,nodes,leases⟩ v) from by rw [m.z,if_pos d,<- o.z,fA]);have e:=jJ rev H (by omega);have N:(bs (bg rev.toNat)).size<=17:=by rw [dB]; exact bT _
   generalize G:bs (bg rev.toNat)=Q at N i;unfold gq at e;rw [G] at e;have I:=ω e;clear e G
   go_wp2_with fail
   refine I.mono ?_;rintro L w2 ⟨rfl,b⟩;have J:=ω (p.trans (b.mono p.size));clear b P;go_wp2;go_ret;exact⟨kS i.z,J⟩
 · have K:decide (2<v)=false:=fK d;have i:=ω (show T=bs (uR ⟨rev,jobs,nodes,leases⟩ v) from by rw [m.z,if_neg d,<- o.z,List.nil_append]);go_wp2;go_ret;exact⟨kS i.z,p⟩
theorem Fi (st:ah) (x:StA) (v:Int) (w:World) (r:StAt w w st x) :
 ψ 116 #[.agg (stC st x),v] w (vT st v w):=by
 have s:Below w w (χ w (stC st x) 26):=(θ).alloc lJ _;have M:Blk (χ w (stC st x) 26) w 26 (stC st x):=n5 w _;have y:=ω (lQ st x _ (r.up s));have k:=ω (fun ad E (ab:jY st v=(ad,E)) w'=>vT.mk' (w:=w) (w':=w') ab);have C:=ω r;have D:=ω s;have o:=ω M;clear s M r;obtain⟨E,N⟩:∃ E,aE st=E:=⟨_,rfl⟩;obtain⟨aa,Q⟩:∃ f,p9 st v=f:=⟨_,rfl⟩;have b:=ω N;have m:=ω Q;clear N Q;obtain⟨S,O⟩:∃ S,S=st:=⟨_,rfl⟩;obtain⟨X,P⟩:∃ X,X=x:=⟨_,rfl⟩;have ae:=ω O;have af:=ω P;obtain⟨rev,jobs,nodes,leases⟩:=st;obtain⟨G,R,J,I,U,L,H,T,K⟩:=x;clear O P;unfold stC at *;dsimp only at *;go_enter Tryz.func116,Tryz.ntmps116
 go_wp2_with fail
 refine y.mono ?_;rintro p w1 ⟨rfl,a⟩;have e:=ω (D.trans (a.mono D.size));have d:=ω (o.below a o.lt);have ac:=d.lt;rw [b.z];clear a y o;obtain⟨V,W,Y,Z⟩:=Blk.c4 (d.z);by_cases q:E=0;rotate_left
 · have e2:(E != 0)=true:=bne_iff_ne.2 q;have c:=ω (k.z _ _ (by rw [zC (by rw [b.z]; exact q),b.z]) _ e.z);go_wp2;go_ret2;exact c
 subst q
 go_wp2_with fail
 refine Calls.mono (dF v 1 3 _) ?_;rintro p w0 ⟨rfl,rfl⟩;cases i:ranged v 1 3
 · have c:=ω (k.z _ _ (CA b.z i) _ e.z);clear i;go_wp2;go_ret2;exact c
 have F:=ω i;have h:=I5 ⟨rev,jobs,nodes,leases⟩ ⟨G,R,J,I,U,L,H,T,K⟩ v w1 (C.up e.z) i;rw [m.z] at h;unfold stC at h;dsimp only at h;have z:=ω h;clear i h
 go_wp2_with fail
 refine z.mono ?_;rintro p w2 ⟨rfl,a⟩;have j:=ω (e.trans (a.mono e.size));have u:=ω (d.below a d.lt);have ac:=u.lt;clear a V W Y Z z d;obtain⟨V,W,Y,Z⟩:=Blk.c4 (u.z);cases aa
 · have c:=ω (k.z _ _ (BG b.z F.z m.z) _ j.z);go_wp2;go_ret2;exact c
 have c:=ω (k.z _ _ (Fp b.z F.z m.z));have l:=GW ⟨rev,jobs,nodes,leases⟩ ⟨G,R,J,I,U,L,H,T,K⟩ v w2 (C.up j.z) (Oe b.z);unfold stC at l;dsimp only at l;have HC:=ω l;clear l
 go_wp2_with fail
 refine HC.mono ?_;rintro p w3 ⟨rfl,a⟩;have bE:=ω (c.z _ (j.trans (a.mono j.size)));clear a;go_wp2;go_ret2;exact bE
end Go.Proofs.YtimglglgcgpjgaaGreatDoor
