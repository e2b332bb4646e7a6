/- Of the proof of a statement: SrvAt, RcD, CkSz, Diff, ByteRow, FeedN, ButFd, PlEncS, PlEnc, PlJp, RRows, UpSteps, SGood, PlEncV, WPutV, Frames, TextRR, ReqQ, Frm. -/
import Derived.Lib.AtoiAll
import Derived.Lib.AtoiAllCases
import Derived.Lib.Small
import Derived.Test.YtimglglgcgpjgabGreatDoorRows
import Derived.WalkKit
import Derived.ProofKit
import Derived.OpenShut
import Derived.ShutString
import Derived.ChangeOld
import Derived.Below
import Derived.Lib.SmallJoins
import Derived.Test.YtimglglgcgpjgabGreatDoorPRBetween
import Derived.Test.YtimglglgcgpjgabGreatDoorPRcB
set_option linter.unusedVariables false
set_option linter.unusedSimpArgs false
set_option maxRecDepth 100000
set_option maxHeartbeats 8000000
namespace Go.Proofs.YtimglglgcgpjgabGreatDoor
open Go.RowKit
open Go.Lib (hasPrefix trimPrefix itoa atoiAll atoiSat decDigits)
open Go.Lib (validD)
def gJ (cs:Array Value):Prop:=∀ (i:Nat) (s:ByteArray),cs[i]? ≠ some (.string s)
theorem nR {cs:Array Value} (h:∀ v ∈ cs,∀ s,v ≠ .string s):gJ cs:=fun _ s e=>h _ (Array.mem_of_getElem? e) s rfl
theorem jL (st:ah) (x:StA):gJ (stC st x):=nR (by
 intro v b s;simp only [stC,List.mem_toArray,List.mem_cons,List.not_mem_nil,or_false] at b;rcases b with rfl | rfl | rfl | rfl <;> simp)
def jw (st:ah) (x:StA) (now:Int):Array Value:=#[.int .i64 st.rev,.slice x.aj x.nj x.cj,.slice x.an x.nn x.cn,.slice x.al x.nl x.cl,.int .i64 now]
theorem qW (st:ah) (x:StA) (now:Int):gJ (jw st x now):=nR (by
 intro v b s;simp only [jw,List.mem_toArray,List.mem_cons,List.not_mem_nil,or_false] at b;rcases b with rfl | rfl | rfl | rfl | rfl <;> simp)
theorem yt (n:Int):gJ #[n]:=nR (by
 intro v b s;simp only [List.mem_toArray,List.mem_cons,List.not_mem_nil,or_false] at b;rcases b with rfl; simp)
theorem gG (n m:Int):gJ #[n,m]:=nR (by
 intro v b s;simp only [List.mem_toArray,List.mem_cons,List.not_mem_nil,or_false] at b;rcases b with rfl | rfl <;> simp)
section
variable {w w':World} {B sz n g:Nat} {A:Option Addr} {xs:List Value} {t:TypeId} {cs:Array Value}
theorem bg.gy (h:bg w B sz A n xs) (p:Blk w g t cs) (q:gJ cs) (l:0<n->∃ s,xs[0]? = some (.string s)) (r:w.grownBy w' (some g)):bg w' B sz A n xs:=
 ⟨h.len,fun d=>by
  obtain⟨b,f,i,m,e⟩:=h.at_ d;obtain⟨s,u⟩:=l d;refine⟨b,f,i,m,fun x y v=>r.cell (e x y v) ?_⟩;intro j;have k:b=g:=by simpa using j
  subst k;have c:=e 0 _ u;rw [Nat.add_zero,p.cell f] at c;exact q _ _ c⟩
end
theorem qF {l:List aC} {n:Nat} (h:l.length=n) (b:0<n):∃ s,(au aS l)[0]? = some (.string s):=by
 match l,h with
 | [],h=>simp at h; omega
 | a :: l,_=>exact⟨a.name,rfl⟩
theorem pD {l:List av} {n:Nat} (h:l.length=n) (b:0<n):∃ s,(au aH l)[0]? = some (.string s):=by
 match l,h with
 | [],h=>simp at h; omega
 | a :: l,_=>exact⟨a.name,rfl⟩
theorem nT {l:List ak} {n:Nat} (h:l.length=n) (b:0<n):∃ s,(au aB l)[0]? = some (.string s):=by
 match l,h with
 | [],h=>simp at h; omega
 | a :: l,_=>exact⟨a.job,rfl⟩
theorem StAt.gy {w w':World} {B g:Nat} {t:TypeId} {cs:Array Value} {st:ah} {x:StA} (h:StAt w B st x) (b:Blk w g t cs) (c:gJ cs) (d:w.grownBy w' (some g)):StAt w' B st x:=
 ⟨h.j.gy b c (qF h.lj) d,h.n.gy b c (pD h.ln) d,h.l.gy b c (nT h.ll) d,h.lj,h.ln,h.ll,h.bj,h.bn,h.bl,h.oj,h.on_,h.ol⟩
theorem StAt.drew {w:World} {B:Nat} {st:ah} {x:StA} (h:StAt w B st x):StAt w.drew B st x:=
 ⟨h.j.drew,h.n.drew,h.l.drew,h.lj,h.ln,h.ll,h.bj,h.bn,h.bl,h.oj,h.on_,h.ol⟩
theorem StAt.rev {w:World} {B:Nat} {st:ah} {x:StA} (h:StAt w B st x) (r:Int):StAt w B ⟨r,st.jobs,st.nodes,st.leases⟩ x:=
 ⟨h.j,h.n,h.l,h.lj,h.ln,h.ll,h.bj,h.bn,h.bl,h.oj,h.on_,h.ol⟩
theorem StAt.Lz {w:World} {B:Nat} {st:ah} {x:StA} (h:StAt w B st x) {b:List aC} {A:Option Addr} {m:Nat} (c:Nat) (e:bg w B 5 A m (au aS b)) (f:b.length=m) (d:m<=9223372036854775807) (i:oC b):StAt w B ⟨st.rev,b,st.nodes,st.leases⟩ ⟨A,m,c,x.an,x.nn,x.cn,x.al,x.nl,x.cl⟩:=
 ⟨e,h.n,h.l,f,h.ln,h.ll,d,h.bn,h.bl,i,h.on_,h.ol⟩
theorem StAt.Oe {w:World} {B:Nat} {st:ah} {x:StA} (h:StAt w B st x) {b:List av} {A:Option Addr} {m:Nat} (c:Nat) (e:bg w B 3 A m (au aH b)) (f:b.length=m) (d:m<=9223372036854775807) (i:mB b):StAt w B ⟨st.rev,st.jobs,b,st.leases⟩ ⟨x.aj,x.nj,x.cj,A,m,c,x.al,x.nl,x.cl⟩:=
 ⟨h.j,e,h.l,h.lj,f,h.ll,h.bj,d,h.bl,h.oj,i,h.ol⟩
theorem StAt.Od {w:World} {B:Nat} {st:ah} {x:StA} (h:StAt w B st x) {b:List ak} {A:Option Addr} {m:Nat} (c:Nat) (e:bg w B 3 A m (au aB b)) (f:b.length=m) (d:m<=9223372036854775807) (i:lB b):StAt w B ⟨st.rev,st.jobs,st.nodes,b⟩ ⟨x.aj,x.nj,x.cj,x.an,x.nn,x.cn,A,m,c⟩:=
 ⟨h.j,h.n,e,h.lj,h.ln,f,h.bj,h.bn,d,h.oj,h.on_,i⟩
theorem StAt.upS {w w':World} {st:ah} {x:StA} (h:StAt w w st x) (b:Below w w w'):StAt w' w' st x:=(h.below b).more b.size
theorem qN {w:World} {B:Nat} {st:ah} {x:StA} (h:StAt w B st x) (c:aE st=0):x.nj<=40/\x.nn<=40/\x.nl<=40:=by
 have b:=(cV.1 c).2.1;unfold dW at b;simp only [Bool.and_eq_true,decide_eq_true_eq] at b;have:=h.lj; have:=h.ln; have:=h.ll;omega
structure SrvAt (w:World) (T:TypeId) (B:Nat) (st:ah) (x:StA) (now:Int):Prop where
 blk:Blk w B T (jw st x now)
 at_:StAt w w st x
 ok:aE st=0
 t:0<=now/\now<=1099511627776
theorem SrvAt.below {w w':World} {T:TypeId} {B:Nat} {st:ah} {x:StA} {now:Int} (h:SrvAt w T B st x now) (b:Below w w w'):SrvAt w' T B st x now:=
 ⟨h.blk.below b h.blk.lt,h.at_.upS b,h.ok,h.t⟩
theorem SrvAt.other {w w':World} {T d:TypeId} {B b:Nat} {st:ah} {x:StA} {now:Int} {cs:Array Value} (h:SrvAt w T B st x now) (e:Blk w b d cs) (f:gJ cs) (c:w.grownBy w' (some b)) (i:B≠b):SrvAt w' T B st x now:=
 ⟨ay c h.blk i,(h.at_.gy e f c).more c.size,h.ok,h.t⟩
def nF (V:Nat) (A:Option Addr) (n:Nat):Prop:=0<n->∀ b c,A=some ⟨b,c,none⟩->b≠V
structure Far (V:Nat) (x:StA):Prop where
 j:nF V x.aj x.nj
 n:nF V x.an x.nn
 l:nF V x.al x.nl
theorem bg.qZ {w w':World} {B sz n V:Nat} {A:Option Addr} {xs:List Value} (h:bg w B sz A n xs) (j:nF V A n) (k:w.grownBy w' (some V)):bg w' B sz A n xs:=
 ⟨h.len,fun c=>by
  obtain⟨b,d,e,i,l⟩:=h.at_ c;exact⟨b,d,e,i,fun p u m=>k.cell (l p u m) (fun f=>j c b d e (by simpa using f))⟩⟩
theorem bg.pV {w:World} {B sz n V:Nat} {A:Option Addr} {xs:List Value} {t:TypeId} {cs:Array Value} (h:bg w B sz A n xs) (i:Blk w V t cs) (j:gJ cs) (f:0<n->∃ s,xs[0]? = some (.string s)):nF V A n:=fun d p m e=>by
 obtain⟨q,u,b,r,k⟩:=h.at_ d;obtain⟨s,l⟩:=f d;rw [e] at b;simp only [Option.some.injEq,Addr.mk.injEq] at b;obtain⟨rfl,rfl,_⟩:=b;rintro rfl;have c:=k 0 _ l;rw [Nat.add_zero,i.cell m] at c;exact j _ _ c
theorem nF.lt {w:World} {B sz n V:Nat} {A:Option Addr} {xs:List Value} (h:bg w B sz A n xs) (j:B<=V):nF V A n:=fun c d l e=>by
 obtain⟨f,m,b,i,k⟩:=h.at_ c;rw [e] at b;simp only [Option.some.injEq,Addr.mk.injEq] at b;omega
theorem StAt.qZ {w w':World} {B V:Nat} {st:ah} {x:StA} (h:StAt w B st x) (b:Far V x) (c:w.grownBy w' (some V)):StAt w' B st x:=
 ⟨h.j.qZ b.j c,h.n.qZ b.n c,h.l.qZ b.l c,h.lj,h.ln,h.ll,h.bj,h.bn,h.bl,h.oj,h.on_,h.ol⟩
theorem StAt.pV {w:World} {B V:Nat} {t:TypeId} {cs:Array Value} {st:ah} {x:StA} (h:StAt w B st x) (b:Blk w V t cs) (c:gJ cs):Far V x:=
 ⟨h.j.pV b c (qF h.lj),h.n.pV b c (pD h.ln),h.l.pV b c (nT h.ll)⟩
theorem StAt.far {w:World} {B V:Nat} {st:ah} {x:StA} (h:StAt w B st x) (b:B<=V):Far V x:=⟨nF.lt h.j b,nF.lt h.n b,nF.lt h.l b⟩
def DJ (tl:List Value) (st:ah) (x:StA) (now:Int):Array Value:=(.int .i64 st.rev :: .slice x.aj x.nj x.cj :: .slice x.an x.nn x.cn :: .slice x.al x.nl x.cl :: .int .i64 now :: tl).toArray
structure gO (tl:List Value) (w:World) (T:TypeId) (B:Nat) (st:ah) (x:StA) (now:Int):Prop where
 blk:Blk w B T (DJ tl st x now)
 at_:StAt w w st x
 ok:aE st=0
 t:0<=now/\now<=1099511627776
 far:Far B x
theorem gO.below {tl:List Value} {w w':World} {T:TypeId} {B:Nat} {st:ah} {x:StA} {now:Int} (h:gO tl w T B st x now) (b:Below w w w'):gO tl w' T B st x now:=
 ⟨h.blk.below b h.blk.lt,h.at_.upS b,h.ok,h.t,h.far⟩
def qj (T:TypeId) (B:Nat) (st:ah) (R:mF) (w:World) (e:Ending) (w':World):Prop:=
 ∃ (D:aY) (dx:eG) (b:StA),e = .returned (.tuple #[.agg #[R.e,R.st.rev],.agg (dC D dx),.bool R.ch])/\D=(if R.ch=true then eE st R.st else ⟨0,0,[],[],[],[],[],[]⟩)/\dB w' w' D dx/\Blk w' B T (jw R.st b R.now)/\StAt w' w' R.st b/\w.grownBy w' (some B)
structure zZ (V:Nat) (x:eG):Prop where
 j:nF V x.aj x.nj
 n:nF V x.an x.nn
 l:nF V x.al x.nl
 gj:nF V x.agj x.ngj
 gn:nF V x.agn x.ngn
 gl:nF V x.agl x.ngl
theorem Dd (V:Nat):zZ V ⟨none,0,0,none,0,0,none,0,0,none,0,0,none,0,0,none,0,0⟩:=⟨fun h=>absurd h (by decide),fun h=>absurd h (by decide),fun h=>absurd h (by decide),fun h=>absurd h (by decide),fun h=>absurd h (by decide),fun h=>absurd h (by decide)⟩
theorem dB.qZ {w w':World} {B V:Nat} {d:aY} {x:eG} (h:dB w B d x) (b:zZ V x) (c:w.grownBy w' (some V)):dB w' B d x:=
 ⟨h.j.qZ b.j c,h.n.qZ b.n c,h.l.qZ b.l c,h.gj.qZ b.gj c,h.gn.qZ b.gn c,h.gl.qZ b.gl c,h.lj,h.ln,h.ll,h.lgj,h.lgn,h.lgl,h.bj,h.bn,h.bl,h.bgj,h.bgn,h.bgl,h.oj,h.on_,h.ol,h.ogj,h.ogn,h.ogl⟩
def nU (tl:List Value) (T:TypeId) (B:Nat) (st:ah) (R:mF) (w:World) (e:Ending) (w':World):Prop:=
 ∃ (D:aY) (dx:eG) (b:StA),e = .returned (.tuple #[.agg #[R.e,R.st.rev],.agg (dC D dx),.bool R.ch])/\D=(if R.ch=true then eE st R.st else ⟨0,0,[],[],[],[],[],[]⟩)/\dB w' w' D dx/\zZ B dx/\Blk w' B T (DJ tl R.st b R.now)/\StAt w' w' R.st b/\Far B b/\w.grownBy w' (some B)
theorem nU.plain {T:TypeId} {B:Nat} {st:ah} {R:mF} {w w':World} {e:Ending} (h:nU [] T B st R w e w'):qj T B st R w e w':=by
 obtain⟨D,b,l,c,d,f,-,i,j,-,k⟩:=h;exact⟨D,b,l,c,d,f,i,j,k⟩
theorem JY (y O:Int) (u L:ByteArray) (v M:Int) (r J:Int) (x N:Int) (s K:ByteArray) (G W:ByteArray) (H X:Int) (I Y:ByteArray) (z R:ByteArray) (C S:ByteArray) (D T:Int) (F V:ByteArray) (E U:Int) (ab:(⟨y,⟨u,v,r,x,s⟩,⟨G,H,I⟩,⟨z,C,D⟩,F,E⟩:aL)≠(⟨O,⟨L,M,J,N,K⟩,⟨W,X,Y⟩,⟨R,S,T⟩,V,U⟩:aL)) (Z:World):(binOp .neq 88 (.agg #[y,u,v,r,x,s,G,H,I,z,C,D,F,E]) (.agg #[O,L,M,J,N,K,W,X,Y,R,S,T,V,U])).run Tryz.prog Z = .ok (.bool true) Z:=by
 by_cases c:y=O;rotate_left
 · simp [go_sem,c]
 by_cases b:u.toList=L.toList;rotate_left
 · simp [go_sem,c,b]
 by_cases d:v=M;rotate_left
 · simp [go_sem,c,b,d]
 by_cases e:r=J;rotate_left
 · simp [go_sem,c,b,d,e]
 by_cases h:x=N;rotate_left
 · simp [go_sem,c,b,d,e,h]
 by_cases f:s.toList=K.toList;rotate_left
 · simp [go_sem,c,b,d,e,h,f]
 by_cases i:G.toList=W.toList;rotate_left
 · simp [go_sem,c,b,d,e,h,f,i]
 by_cases k:H=X;rotate_left
 · simp [go_sem,c,b,d,e,h,f,i,k]
 by_cases j:I.toList=Y.toList;rotate_left
 · simp [go_sem,c,b,d,e,h,f,i,k,j]
 by_cases l:z.toList=R.toList;rotate_left
 · simp [go_sem,c,b,d,e,h,f,i,k,j,l]
 by_cases m:C.toList=S.toList;rotate_left
 · simp [go_sem,c,b,d,e,h,f,i,k,j,l,m]
 by_cases q:D=T;rotate_left
 · simp [go_sem,c,b,d,e,h,f,i,k,j,l,m,q]
 by_cases p:F.toList=V.toList;rotate_left
 · simp [go_sem,c,b,d,e,h,f,i,k,j,l,m,q,p]
 by_cases aa:E=U;rotate_left
 · simp [go_sem,c,b,d,e,h,f,i,k,j,l,m,q,p,aa]
 refine absurd ?_ ab;subst c;have b:=dD b; subst b;subst d;subst e;subst h;have f:=dD f; subst f;have i:=dD i; subst i;subst k;have j:=dD j; subst j;have l:=dD l; subst l;have m:=dD m; subst m;subst q;have p:=dD p; subst p;subst aa;rfl
theorem pJ (a b:aL):∃ t:Bool,(t=true↔a=b)/\∀ W,(binOp .neq 88 (bO a) (bO b)).run Tryz.prog W = .ok (.bool (!t)) W:=by
 by_cases h:a=b
 · subst h;exact⟨true,⟨fun _=>rfl,fun _=>rfl⟩,fun W=>by simp [go_sem,bO,aT]⟩
 · exact⟨false,⟨fun c=>(by cases c),fun c=>absurd c h⟩,fun W=>JY _ _ _ _ _ _ _ _ _ _ _ _ _ _ _ _ _ _ _ _ _ _ _ _ _ _ _ _ h W⟩
theorem BD {st:ah} (h:aE st=0):st.jobs.length<=40/\st.nodes.length<=20/\st.leases.length<=40:=by
 have c:dW st=true:=by
  cases b:ranged st.rev 0 1099511627776 with
  | false=>rw [zS b] at h; exact absurd h (by decide)
  | true=>
   cases d:dW st with
   | true=>rfl
   | false=>rw [nQ b d] at h; exact absurd h (by decide)
 unfold dW at c;simp at c;omega
theorem BE {α:Type} {a b:List α} {x:α} (h:x ∈ newL a b):x ∈ b:=(List.mem_filter.1 h).1
theorem yN {α:Type} {key:α->ByteArray} {a b:List α} {s:ByteArray} (h:s ∈ bJ key a b):∃ x ∈ a,key x=s:=by
 obtain⟨x,c,e⟩:=List.mem_map.1 h;exact⟨x,(List.mem_filter.1 c).1,e⟩
theorem uJ {w w':World} {B h:Nat} {a b:ah} {x y:StA} (e:StAt w B a x) (f:StAt w' h b y) (ha:aE a=0) (q:aE b=0):IA (eE a b):=by
 obtain⟨i,j,k⟩:=BD ha;obtain⟨l,m,p⟩:=BD q
 exact⟨v6 (Au _ _) l,v6 (Au _ _) m,v6 (Au _ _) p,v6 (xS _ _ _) i,v6 (xS _ _ _) j,v6 (xS _ _ _) k,
  fun r c=>f.oj r (BE c),fun r c=>f.on_ r (BE c),fun r c=>f.ol r (BE c),
  fun s d=>(by obtain⟨r,c,rfl⟩:=yN d; exact (e.oj r c).1),fun s d=>(by obtain⟨r,c,rfl⟩:=yN d; exact (e.on_ r c).1),fun s d=>(by obtain⟨r,c,rfl⟩:=yN d; exact (e.ol r c).1)⟩
theorem oY (w:World) (b c d:Array Value) {ta tb tc:TypeId}:Blk (((w.alloc (.cells b ta)).alloc (.cells c tb)).alloc (.cells d tc)) w ta b/\Blk (((w.alloc (.cells b ta)).alloc (.cells c tb)).alloc (.cells d tc)) (w.heap.size+1) tb c /\
 Blk (((w.alloc (.cells b ta)).alloc (.cells c tb)).alloc (.cells d tc)) (w.heap.size+2) tc d/\Below w w (((w.alloc (.cells b ta)).alloc (.cells c tb)).alloc (.cells d tc)):=by
 have h:Blk (χ w b ta) w ta b:=n5 w _;have e:=n5 (χ w b ta) (.cells c tb);rw [show (w.alloc (.cells b ta)).heap.size=w.heap.size+1 by simp] at e;have f:=n5 ((w.alloc (.cells b ta)).alloc (.cells c tb)) (.cells d tc);rw [show ((w.alloc (.cells b ta)).alloc (.cells c tb)).heap.size=w.heap.size+2 by simp] at f;exact⟨(h.alloc _).alloc _,(show Blk _ _ _ _ from e).alloc _,f,(((θ).alloc lQ _).alloc (by simp) _).alloc (by simp; omega) _⟩
theorem tB.low {w:World} {g b:Nat} {d:aY} {x:eG} (k:tB w g d x) (K:b<g):tB w b d x:=by
 obtain⟨⟨c,E,u⟩,⟨e,F,v⟩,⟨f,G,y⟩,⟨h,H,z⟩,⟨i,I,C⟩,⟨j,J,D⟩,l,m,p,q,r,s⟩:=k;exact⟨⟨c,by omega,u⟩,⟨e,by omega,v⟩,⟨f,by omega,y⟩,⟨h,by omega,z⟩,⟨i,by omega,C⟩,⟨j,by omega,D⟩,l,m,p,q,r,s⟩
def ByteRow (w:World) (v:Value) (l:List UInt8):Prop:=
 (v = .slice none 0 0/\l=[])\/∃ g more,v = .slice (some ⟨g,0,none⟩) l.length (l ++ more).length/\(l ++ more).length<=maxLen/\Blk w g 5 (bM (l ++ more)).toArray
theorem ByteRow.blk {w:World} {v:Value} {l:List UInt8} (h:ByteRow w v l) {g:Nat} (b:v.ownBlock=some g):∃ cs,Blk w g 5 cs/\gJ cs:=by
 rcases h with ⟨rfl,_⟩ | ⟨q,more,rfl,_,c⟩
 · cases b
 · injection b with b;subst b;refine⟨_,c,nR fun u d s e=>?_⟩;subst e;simp [bM] at d
theorem ByteRow.keep {w w':World} {v:Value} {l:List UInt8} (h:ByteRow w v l) (c:∀ g,v.ownBlock=some g->w'.heap[g]? = w.heap[g]?):ByteRow w' v l:=by
 rcases h with h | ⟨g,more,rfl,d,b⟩
 · exact .inl h
 · exact .inr ⟨g,more,rfl,d,(c g rfl).trans b⟩
theorem ByteRow.owns {w:World} {v:Value} {l:List UInt8} (h:ByteRow w v l):w.ownsRow 0 5 1 v l.length (bM l):=by
 refine⟨by rw [fI,Nat.mul_one],?_⟩;rcases h with ⟨rfl,rfl⟩ | ⟨g,more,rfl,c,b⟩
 · exact .inl ⟨rfl,rfl⟩
 · refine .inr ⟨g,_,_,rfl,Nat.zero_le _,b,by rw [List.length_append]; omega,c,by simp [fI],?_⟩;rw [Nat.mul_one,iN];simp only;rw [List.take_left' (fI l)]
theorem ByteRow.shape {w:World} {v:Value} {l:List UInt8} (h:ByteRow w v l):∃ A c,v = .slice A l.length c:=by
 rcases h with ⟨rfl,rfl⟩ | ⟨g,more,rfl,_⟩
 · exact⟨_,_,rfl⟩
 · exact⟨_,_,rfl⟩
theorem ByteRow.nil (w:World):ByteRow w (.slice none 0 0) []:=.inl ⟨rfl,rfl⟩
theorem GY (k:Nat):Builtin.zeroCells (Value.cells (.int .u8 0)) k=(bM (List.replicate k 0)).toArray:=by
 have h:∀ k,(Builtin.zeroCells (Value.cells (.int .u8 0)) k).toList=bM (List.replicate k 0):=by
  intro k;simp only [Builtin.zeroCells,Value.cells,bM,Array.toList_map,Array.toList_range,List.map_replicate]
  apply List.ext_getElem
  · simp
  · intro j b c;simp [Nat.mod_one]
 rw [<- h k]
section
variable {P:Program} {w:World} {ops:Array Oper} {rest:List Oper} {o:Oper} {a:Act} {Q:Exit->Act->World->Prop}
theorem Dv {t u ty:TypeId} {v:Value} {l:List UInt8} {s:ByteArray} {i:TypeInfo} (q:P.underlying t=some (.slice 5)) (r:P.underlying u=some .string) (hi:P.info? 5 = some i) (f:i.zero=some (.int .u8 0)) (D:i.size=1) (E:i.bytes=1) (c:ByteRow w v l) (H:0<s.size) (R:l.length+s.size<=70368744177664) :
 ∃ v' w',(Builtin.append_ #[t,u] ty #[v,s]).run P w = .ok v' w'/\ByteRow w' v' (l ++ s.data.toList)/\cZ w w' v v':=by
 have S:s.data.toList.length=s.size:=by simp
 have K:=fun n b=>grownCap_ge w n b 5;have L:=fun n b (j:n<=maxLen)=>grownCap_le_maxLen w n b 5 j
 have h:∀ b,ByteRow (w.drew.alloc (.cells ((bM (l ++ s.data.toList)).toArray ++ Builtin.zeroCells (Value.cells (.int .u8 0)) (grownCap w (l.length+s.size) b 5 - (l.length+s.size))) 5)) (.slice (some ⟨w,0,none⟩) (l.length+s.size) (grownCap w (l.length+s.size) b 5)) (l ++ s.data.toList) /\
  cZ w (w.drew.alloc (.cells ((bM (l ++ s.data.toList)).toArray ++ Builtin.zeroCells (Value.cells (.int .u8 0)) (grownCap w (l.length+s.size) b 5 - (l.length+s.size))) 5)) v (.slice (some ⟨w,0,none⟩) (l.length+s.size) (grownCap w (l.length+s.size) b 5)):=by
  intro b;obtain⟨k,e⟩:∃ k,grownCap w (l.length+s.size) b 5 = l.length+s.size+k:=⟨_,(Nat.add_sub_cancel' (K _ b)).symm⟩;have M:=L (l.length+s.size) b (by unfold maxLen; omega);rw [e,Nat.add_sub_cancel_left,GY] at *;have y:((l ++ s.data.toList) ++ List.replicate k 0).length=l.length+s.size+k:=by simp; omega
  have f:(l ++ s.data.toList).length=l.length+s.size:=by simp
  have d:Below w w (w.drew.alloc (.cells ((bM (l ++ s.data.toList)).toArray ++ (bM (List.replicate k 0)).toArray) 5)):=(θ).drew.alloc lQ _;refine⟨.inr ⟨w.heap.size,List.replicate k 0,by rw [y,f],by rw [y]; exact M,?_⟩,⟨⟨d.os,d.tape,d.output,d.size,fun k e _=>d.block k e⟩,.inr ⟨w.heap.size,rfl,lQ⟩⟩⟩;have j:=n5 w.drew (.cells ((bM (l ++ s.data.toList)).toArray ++ (bM (List.replicate k 0)).toArray) 5);rw [iN (l ++ s.data.toList)];simpa [Blk] using j
 rcases c with ⟨rfl,rfl⟩ | ⟨g,more,rfl,I,m⟩
 · have c:=run_append_nil_string (P:=P) w t u ty 5 i _ q r hi f s H (by omega) (by rw [E]; omega);have x:=h 0;simp only [List.length_nil,Nat.zero_add,List.nil_append] at x;refine⟨_,_,c,?_⟩;rw [show s.data.map (fun F=>Value.int .u8 (F.toNat:Int))=(bM s.data.toList).toArray from by apply Array.ext'; simp [bM]];exact x
 · by_cases p:l.length+s.size<=(l ++ more).length
   · have c:=Lib.run_append_room_string (P:=P) w t u ty 5 i q r hi D g l.length (l ++ more).length _ m s p (by simp [fI] at p |-; omega)
     have J:(((bM (l ++ more)).toArray.toList.take l.length ++ Lib.strCells s ++ (bM (l ++ more)).toArray.toList.drop (l.length+s.size)).toArray:Array Value)=(bM ((l ++ s.data.toList) ++ more.drop s.size)).toArray:=by
      rw [show Lib.strCells s=bM s.data.toList from rfl];simp only [iN,List.append_assoc]
      congr 1
      rw [List.take_left' (fI l)]
      congr 2
      rw [<- fI l,List.drop_append];simp [bM,List.map_drop]
     rw [J] at c;have N:w.grownBy (w.setRow g (bM ((l ++ s.data.toList) ++ more.drop s.size)).toArray) (some g):=⟨rfl,rfl,rfl,by simp,fun k _ e=>setRow_other w g k _ (fun G=>e (by simp [G]))⟩;have z:((l ++ s.data.toList) ++ more.drop s.size).length=(l ++ more).length:=by simp at p |-; omega
     exact⟨_,_,c,.inr ⟨g,more.drop s.size,by rw [z]; simp,by rw [z]; exact I,setRow_heap w g _ _ 5 _ m⟩,⟨N,.inl rfl⟩⟩
   · have c:=Lib.run_append_grow_string (P:=P) w t u ty 5 i _ q r hi f ⟨g,0,none⟩ l.length (l ++ more).length (bM l) (by rw [D,fI,Nat.mul_one]) (fun O T C=>by
      rw [Addr.add_lit]; have:=m.cell (0+O); rw [this,Nat.zero_add,iN]; simp only [List.getElem?_toArray]; rw [List.getElem?_append_left (List.getElem?_eq_some_iff.1 C).1]; exact C) s (by omega) (by omega) (growslice_fits (by omega) (by rw [E]; omega))
     rw [show (bM l).toArray ++ (Lib.strCells s).toArray=(bM (l ++ s.data.toList)).toArray by rw [iN,show Lib.strCells s=bM s.data.toList from rfl]; simp] at c;exact⟨_,_,c,(h _).1,(h _).2⟩
end
theorem Es {w:World} {ops:Array Oper} {rest:List Oper} {o:Oper} {a:Act} {Q:Exit->Act->World->Prop} (f:o.guard=none) (s x:Operand) (k:o.op = .call { callee:=.builtin .append,args:=#[s,x],argTypes:=#[56,9] })
 (v:Value) (l:List UInt8) (q:a.eval s=v) (m:ByteRow w v l) (t:ByteArray) (r:a.eval x = .string t) (b:0<t.size) (j:l.length+t.size<=70368744177664)
 (h:∀ v' w',ByteRow w' v' (l ++ t.data.toList)->cZ w w' v v'->wpList Tryz.prog ops Q rest (a.put o.dst v') w'):wpList Tryz.prog ops Q (o :: rest) a w:=by
 obtain⟨C,i,u,y,z⟩:=info_parts Tryz.infoU8;obtain⟨v',w',p,c,d⟩:=Dv (P:=Tryz.prog) (w:=w) (ty:=o.type) Tryz.underlying56 Tryz.underlying9 i u y z m b j;refine wpList_plain f fun _ e=>?_;unfold Oper.wp execOp;simp only [k,resolve,invoke,builtin,Sem.run_bind,Sem.run_pure,Result.andThen_ok,List.map_toArray,List.map_cons,List.map_nil,q,r,p];exact e _ _ (h v' w' c d)
theorem NC (w:World):ψ 14 #[] w fun x w'=>x = .returned (π w 0)/\w'=w.alloc (.cells #[.string ⟨#[]⟩,(0:Int),(0:Int)] 105):=by
 go_enter Tryz.func14,Tryz.ntmps14;go_wp2;go_ret;exact⟨rfl,rfl⟩
theorem bg.wH {W l:World} {B g sz n:Nat} {rest:ByteArray} {a st:Int} {A:Option Addr} {xs:List Value} (k:bg W B sz A n xs) (r:lS W g rest a st) (m:0<n->∃ s,xs[0]? = some (.string s)) (p:0<n->∃ (j:Nat) (u:Value),xs[j]? = some u/\(#[rest,a,st]:Array Value)[j]? ≠ some u)
 (x:W.grownBy l (some g)):bg l B sz A n xs:=
 ⟨k.len,fun d=>by
  obtain⟨i,b,e,q,f⟩:=k.at_ d;obtain⟨s,C⟩:=m d;obtain⟨j,u,h,y⟩:=p d;have c0:=f 0 _ C;have c:=f j _ h
  have v:i≠g:=fun e=>by
   subst e;rw [Blk.cell r] at c0 c
   have z:b=0:=by
    rcases b with _ | _ | _ | b
    · rfl
    · simp at c0
    · simp at c0
    · simp at c0
   subst z;rw [Nat.zero_add] at c;exact y c
  exact⟨i,b,e,q,fun j u h=>x.cell (f j u h) (fun e=>v (by simpa using e))⟩⟩
theorem tZ {α:Type} {enc:α->List Value} {l:List α} {n:Nat} (h:l.length=n) (c:0<n):∃ a,∀ (j:Nat) u,(enc a)[j]? = some u->(au enc l)[j]? = some u:=by
 cases l with
 | nil=>simp at h; omega
 | cons a l=>
  refine⟨a,fun j u b=>?_⟩;obtain⟨hlt,_⟩:=List.getElem?_eq_some_iff.1 b;unfold au;rw [List.flatMap_cons,List.getElem?_append_left hlt]; exact b
theorem StAt.wH {W e:World} {B g:Nat} {rest:ByteArray} {a st:Int} {s:ah} {x:StA} (h:StAt W B s x) (c:lS W g rest a st) (d:W.grownBy e (some g)):StAt e B s x:=
 ⟨h.j.wH c (qF h.lj) (fun b=>by obtain⟨a,ha⟩:=tZ (enc:=aS) h.lj b; exact⟨3,_,ha 3 _ rfl,by simp⟩) d,
  h.n.wH c (pD h.ln) (fun b=>by obtain⟨a,ha⟩:=tZ (enc:=aH) h.ln b; exact⟨2,_,ha 2 _ rfl,by simp⟩) d,
  h.l.wH c (nT h.ll) (fun b=>by obtain⟨a,ha⟩:=tZ (enc:=aB) h.ll b; exact⟨1,_,ha 1 _ rfl,by simp⟩) d,
  h.lj,h.ln,h.ll,h.bj,h.bn,h.bl,h.oj,h.on_,h.ol⟩
theorem IB {j:aC} (h:fG j=0):uz j:=by
 obtain⟨b,c,d,e,f⟩:=oT h;have:=eU b;have:=mZ c;exact⟨by omega,by omega,by omega,by omega,by omega⟩
theorem Fq {n:av} (h:dE n=0):qh n:=by
 obtain⟨b,c,d⟩:=pE h;have:=eU b;have:=mZ c;exact⟨by omega,by omega,by omega⟩
theorem JZ {l:ak} (h:lsE l=0):uZ l:=by
 obtain⟨b,c,d⟩:=Me h;have:=eU b;have:=eU c;exact⟨by omega,by omega,by omega⟩
theorem BF:∀ {l:List Int},iK l=0->∀ e ∈ l,e=0
 | [],_,e,b=>by cases b
 | x :: l,h,e,b=>by
  by_cases c:x=0
  · rw [kD c] at h;rcases List.mem_cons.1 b with rfl | b
    · exact c
    · exact BF h e b
  · rw [ji c] at h; exact absurd h c
def oD (d:aY):List UInt8:=bf d.from_.toNat ++ bf (d.to_ - d.from_).toNat ++ fY (fun x=>eP x 3) d.jobs ++ fY (fun x=>cW x 3) d.nodes ++ fY eH d.leases ++ fY dU d.gj ++ fY dU d.gn ++ fY dU d.gl
def l9 (d:aY):ByteArray × Int:=if gD d=0 then (if 6000<(oD d).length then (⟨#[]⟩,2) else (⟨(oD d).toArray⟩,0)) else (⟨#[]⟩,gD d)
def lq (d:aY) (w:World) (e:Ending) (w':World):Prop:=e = .returned (.tuple #[.string (l9 d).1,.int .i64 (l9 d).2])/\Below w w w'
theorem lq.bad {d:aY} {w w':World} {E:Int} (h:gD d=E) (b:E≠0) (c:Below w w w'):lq d w (.returned (.tuple #[.string ⟨#[]⟩,E])) w':=by
 refine⟨?_,c⟩; unfold l9; rw [if_neg (by rw [h]; exact b),h]
theorem lq.large {d:aY} {w w':World} (h:gD d=0) (b:6000<(oD d).length) (c:Below w w w'):lq d w (.returned (.tuple #[.string ⟨#[]⟩,(2:Int)])) w':=by
 refine⟨?_,c⟩; unfold l9; rw [if_pos h,if_pos b]
theorem lq.ok {d:aY} {w w':World} {s:ByteArray} (h:gD d=0) (b:¬ 6000<(oD d).length) (e:s=⟨(oD d).toArray⟩) (c:Below w w w'):lq d w (.returned (.tuple #[s,(0:Int)])) w':=by
 refine⟨?_,c⟩; unfold l9; rw [if_pos h,if_neg b,e]
structure Qp (d:aY):Prop where
 t0:0<=d.from_
 t1:d.from_<d.to_
 t2:d.to_<=1099511627776
 nj:d.jobs.length<=40
 nn:d.nodes.length<=20
 nl:d.leases.length<=40
 ngj:d.gj.length<=40
 ngn:d.gn.length<=20
 ngl:d.gl.length<=40
 jobs:∀ x ∈ d.jobs,uz x
 nodes:∀ x ∈ d.nodes,qh x
 leases:∀ x ∈ d.leases,uZ x
theorem N6 {d:aY} (h:gD d=0):Qp d:=by
 have c:lu d=true:=by
  cases f:lu d
  · rw [tT f] at h; exact absurd h (by decide)
  · rfl
 have i:jR d=true:=by
  cases f:jR d
  · rw [mO c f] at h; exact absurd h (by decide)
  · rfl
 rw [CQ c i] at h;have e:=BF h;unfold lu at c;unfold jR at i;simp only [Bool.and_eq_true,decide_eq_true_eq,aM] at c i;have j:=(pI (E:=fG) (key:=aC.name) none d.jobs (e _ (by simp [Av,cu]))).1;have l:=(pI (E:=dE) (key:=av.name) none d.nodes (e _ (by simp [Av,cu]))).1;have k:=(pI (E:=lsE) (key:=ak.job) none d.leases (e _ (by simp [Av,cu]))).1;exact⟨by omega,by omega,by omega,by omega,by omega,by omega,by omega,by omega,by omega,fun x b=>IB (j x b).1,fun x b=>Fq (l x b).1,fun x b=>JZ (k x b).1⟩
def BA (l:List UInt8):ByteArray:=⟨l.toArray⟩
theorem NT (s:ByteArray):BA s.data.toList=s:=rfl
theorem tY (l:List UInt8):(BA l).data.toList=l:=rfl
theorem jA (l:List UInt8):(BA l).size=l.length:=by show l.toArray.size=l.length; simp
theorem A8 (s:ByteArray):s.data.toList.length=s.size:=by rw [Array.length_toList]; rfl
theorem Mu (s:ByteArray) (k:Nat):(s.extract k s.size).data.toList=s.data.toList.drop k:=by
 rw [ByteArray.data_extract,Array.toList_extract,List.extract_eq_take_drop,List.take_of_length_le];rw [List.length_drop,A8];exact lQ
theorem LN (l:List UInt8) (k:Nat):(BA l).extract k (BA l).size=BA (l.drop k):=by
 have h:=Mu (BA l) k;rw [tY] at h;rw [<- NT ((BA l).extract k (BA l).size),h]
def Mv {α:Type} (enc:α->List UInt8) (xs:List α) (n:Nat) (P:List UInt8) (w:World) (s i:Value) (wr:World):Prop:=
 ∃ (k:Nat) (S:ByteArray),k<=n/\i = .int .i64 k/\s = .string S/\S=bs (P ++ (xs.take k).flatMap enc)/\Below w w wr
theorem take_len {α:Type} {enc:α->List UInt8} (h:∀ x,(enc x).length<=85) {xs:List α} {n:Nat} (d:xs.length=n) (k:Nat):((xs.take k).flatMap enc).length<=85*n:=by
 have b:=iT h (xs.take k);have c:(xs.take k).length<=n:=by rw [List.length_take]; omega
 omega
def mG (jobs:List aC) (nodes:List av) (leases:List ak) (v:Int):List UInt8:=fY (fun x=>eP x v) jobs ++ fY (fun x=>cW x v) nodes ++ fY eH leases
theorem BX (jobs:List aC) (nodes:List av) (leases:List ak) (Y:Option Addr) (b cj:Nat) (an:Option Addr) (c cn:Nat) (Z:Option Addr) (e cl:Nat) (v:Int) (w:World)
 (hj:bg w w 5 Y b (au aS jobs)) (lj:jobs.length=b) (bj:b<=1000) (wj:∀ x ∈ jobs,uz x)
 (hn:bg w w 3 an c (au aH nodes)) (ln:nodes.length=c) (bn:c<=1000) (wn:∀ x ∈ nodes,qh x)
 (hl:bg w w 3 Z e (au aB leases)) (ll:leases.length=e) (bl:e<=1000) (wl:∀ x ∈ leases,uZ x)
 : ψ 60 #[.slice Y b cj,.slice an c cn,.slice Z e cl,v] w (fZ (mG jobs nodes leases v) w):=by
 have Hj:=ω hj;have U:=ω lj;have Wj:=ω wj;have Hn:=ω hn;have X:=ω ln;have Wn:=ω wn;have Hl:=ω hl;have V:=ω ll;have Wl:=ω wl;have bG:=ω (show mG jobs nodes leases v=bf b ++ (jobs.take b).flatMap (fun x=>eP x v) ++ bf c ++ (nodes.take c).flatMap (fun x=>cW x v) ++ bf e ++ (leases.take e).flatMap eH from by unfold mG fY; rw [<- lj,<- ln,<- ll,List.take_length,List.take_length,List.take_length]; simp only [List.append_assoc]);have M:=ω (take_len (enc:=fun x=>eP x v) (fun x=>mH x v) lj);have O:=ω (take_len (enc:=fun x=>cW x v) (fun x=>kS x v) ln);have az:=ω (take_len (enc:=eH) ku ll);have K:=ω (bT b);have ap:=ω (fun W=>jG (b:Int) W (by omega));have N:=ω (bT c);have ar:=ω (fun W=>jG (c:Int) W (by omega));have R:=ω (bT e);have aq:=ω (fun W=>jG (e:Int) W (by omega));clear hj lj wj hn ln wn hl ll wl;go_enter Tryz.func60,Tryz.ntmps60
 go_wp2_with fail
 refine Calls.mono (ap.z _) ?_;rintro G v0 ⟨rfl,aa⟩;rw [show ((b:Int)).toNat=b from by omega];have a0:=ω aa;clear aa;have m:(bs (bf b)).size<=17:=by rw [dz]; exact K
 generalize d:bs (bf b)=T0 at m;have aw:=ω d;clear d;go_wp2
 go_loopw [9,11,21] (fun J _ q wr=>Mv (fun x=>eP x v) jobs b (bf b) w J q wr) (fun _ _ q _=>b - (intOf q).toNat)
 case atStart=>exact⟨0,_,Nat.zero_le _,rfl,rfl,by rw [<- aw.z]; simp,a0⟩
 case round=>
  obtain⟨k,S,hk,rfl,rfl,l,h⟩:=hrel;have L:S.size<=300000:=by rw [l,dz]; simp only [List.length_append]; have q1:=K.z; have q2:=M.z k; omega
  have r:=ω l;have i:=ω h;have ae:=h.size;clear l;by_cases hlt:k<b
  · obtain⟨x,j⟩:∃ x,jobs[k]? = some x:=⟨_,δ (by rw [U.z]; exact hlt)⟩;obtain⟨F,ag,rfl,ac,y⟩:=(Hj.below h).dL aU U.z j;have H:=ω (Wj.z x (m8 j));have E:=ω (iU (fun x=>eP x v) j);have m:(bs ((fun x=>eP x v) x)).size<=85:=by rw [dz]; exact (fun x=>mH x v) x
    generalize d:bs ((fun x=>eP x v) x)=T at m;have s:=ω d;obtain⟨I,ah,af,am,aj⟩:=x;obtain⟨c0,c1,c2,c3,c4⟩:=rc5 y;have ad:F<wr.heap.size:=by omega
    have u:=ω (i.alloc i.size (.cells #[I,ah,af,am,aj] 86));clear y j h d
    go_wp2_with fail
    refine Calls.mono (LM ⟨I,ah,af,am,aj⟩ v _ H.z) ?_;rintro G w2 ⟨rfl,p⟩;have z:=s.z;rw [z];have C:=ω (u.trans (p.mono u.size));clear p z;go_wp2
    go_roundw
    case rel=>exact⟨k+1,S ++ T,by omega,by go_num,rfl,by rw [r.z,<- s.z,fC,E.z,List.append_assoc],C⟩
    case measure=>simp [intOf]; omega
  · obtain rfl:b=k:=by omega
    have D:=r
    go_wp2_with fail
    refine Calls.mono (ar.z _) ?_;rintro G v1 ⟨rfl,ab⟩;rw [show ((c:Int)).toNat=c from by omega];have a1:=ω (i.trans (ab.mono i.size));clear ab;have m:(bs (bf c)).size<=17:=by rw [dz]; exact N
    generalize d:bs (bf c)=T1 at m;have ax:=ω d;clear d;go_wp2
    go_loopw [9,13,38] (fun J _ q wr=>Mv (fun x=>cW x v) nodes c (bf b ++ (jobs.take b).flatMap (fun x=>eP x v) ++ bf c) w J q wr) (fun _ _ q _=>c - (intOf q).toNat)
    case atStart=>exact⟨0,_,Nat.zero_le _,rfl,rfl,by rw [<- ax.z,D.z,fC]; simp,a1⟩
    case round=>
     clear h i D r L hlt;obtain⟨k,S,hk,rfl,rfl,l,h⟩:=hrel;have L:S.size<=300000:=by rw [l,dz]; simp only [List.length_append]; have q1:=K.z; have q2:=M.z b; have q3:=N.z; have q4:=O.z k; omega
     have r:=ω l;have i:=ω h;have ae:=h.size;clear l;by_cases hlt:k<c
     · obtain⟨x,j⟩:∃ x,nodes[k]? = some x:=⟨_,δ (by rw [X.z]; exact hlt)⟩;obtain⟨F,ag,rfl,ac,y⟩:=(Hn.below h).dL aO X.z j;have H:=ω (Wn.z x (m8 j));have E:=ω (iU (fun x=>cW x v) j);have m:(bs ((fun x=>cW x v) x)).size<=85:=by rw [dz]; exact (fun x=>kS x v) x
       generalize d:bs ((fun x=>cW x v) x)=T at m;have s:=ω d;obtain⟨I,ai,ao⟩:=x;obtain⟨c0,c1,c2⟩:=rc3 y;have ad:F<wr.heap.size:=by omega
       have u:=ω (i.alloc i.size (.cells #[I,ai,ao] 81));clear y j h d
       go_wp2_with fail
       refine Calls.mono (JI ⟨I,ai,ao⟩ v _ H.z) ?_;rintro G w2 ⟨rfl,p⟩;have z:=s.z;rw [z];have C:=ω (u.trans (p.mono u.size));clear p z;go_wp2
       go_roundw
       case rel=>exact⟨k+1,S ++ T,by omega,by go_num,rfl,by rw [r.z,<- s.z,fC,E.z,List.append_assoc],C⟩
       case measure=>simp [intOf]; omega
     · obtain rfl:c=k:=by omega
       have D:=r
       go_wp2_with fail
       refine Calls.mono (aq.z _) ?_;rintro G v2 ⟨rfl,p⟩;rw [show ((e:Int)).toNat=e from by omega];have a2:=ω (i.trans (p.mono i.size));clear p;have m:(bs (bf e)).size<=17:=by rw [dz]; exact R
       generalize d:bs (bf e)=T2 at m;have ay:=ω d;clear d;go_wp2
       go_loopw [9,15,55] (fun J _ q wr=>Mv eH leases e (bf b ++ (jobs.take b).flatMap (fun x=>eP x v) ++ bf c ++ (nodes.take c).flatMap (fun x=>cW x v) ++ bf e) w J q wr) (fun _ _ q _=>e - (intOf q).toNat)
       case atStart=>exact⟨0,_,Nat.zero_le _,rfl,rfl,by rw [<- ay.z,D.z,fC]; simp,a2⟩
       case round=>
        clear h i D r L hlt;obtain⟨k,S,hk,rfl,rfl,l,h⟩:=hrel;have L:S.size<=300000:=by rw [l,dz]; simp only [List.length_append]; have q1:=K.z; have q2:=M.z b; have q3:=N.z; have q4:=O.z c; have q5:=R.z; have q6:=az.z k; omega
        have r:=ω l;have i:=ω h;have ae:=h.size;clear l;by_cases hlt:k<e
        · obtain⟨x,j⟩:∃ x,leases[k]? = some x:=⟨_,δ (by rw [V.z]; exact hlt)⟩;obtain⟨F,ag,rfl,ac,y⟩:=(Hl.below h).dL aI V.z j;have H:=ω (Wl.z x (m8 j));have E:=ω (iU eH j);have m:(bs (eH x)).size<=85:=by rw [dz]; exact ku x
          generalize d:bs (eH x)=T at m;have s:=ω d;obtain⟨job,node,al⟩:=x;obtain⟨c0,c1,c2⟩:=rc3 y;have ad:F<wr.heap.size:=by omega
          have u:=ω (i.alloc i.size (.cells #[job,node,al] 77));clear y j h d
          go_wp2_with fail
          refine Calls.mono (Gu ⟨job,node,al⟩ _ H.z) ?_;rintro G w2 ⟨rfl,p⟩;have z:=s.z;rw [z];have C:=ω (u.trans (p.mono u.size));clear p z;go_wp2
          go_roundw
          case rel=>exact⟨k+1,S ++ T,by omega,by go_num,rfl,by rw [r.z,<- s.z,fC,E.z,List.append_assoc],C⟩
          case measure=>simp [intOf]; omega
        · obtain rfl:e=k:=by omega
          go_wp2;go_ret;exact⟨kW (by rw [bG.z]; exact r),i⟩
theorem StOwn.base {w:World} {base b:Nat} {st:ah} {x:StA} (h:StOwn w base st x) (c:b<=base):StOwn w b st x:=
 ⟨cY h.j c,cY h.n c,cY h.l c,h.lj,h.ln,h.ll⟩
structure SGood (st:ah):Prop where
 r0:0<=st.rev
 r1:st.rev<=1099511627776
 nj:st.jobs.length<=40
 nn:st.nodes.length<=20
 nl:st.leases.length<=40
 ej:cu fG aC.name st.jobs=0
 en:cu dE av.name st.nodes=0
 el:cu (dN st) ak.job st.leases=0
theorem Ob {st:ah} (h:aE st=0):SGood st:=by
 have i:=BD h
 have c:ranged st.rev 0 1099511627776=true:=by
  cases c:ranged st.rev 0 1099511627776 with
  | true=>rfl
  | false=>rw [zS c] at h; exact absurd h (by decide)
 have f:dW st=true:=by
  cases f:dW st with
  | true=>rfl
  | false=>rw [nQ c f] at h; exact absurd h (by decide)
 have b:cu fG aC.name st.jobs=0:=by
  by_cases b:cu fG aC.name st.jobs=0
  · exact b
  · rw [CF c f b] at h; exact absurd h b
 have d:cu dE av.name st.nodes=0:=by
  by_cases d:cu dE av.name st.nodes=0
  · exact d
  · rw [zT c f b d] at h; exact absurd h d
 have e:cu (dN st) ak.job st.leases=0:=by
  by_cases e:cu (dN st) ak.job st.leases=0
  · exact e
  · rw [CG c f b d,if_pos e] at h; exact absurd h e
 have:=aM.1 c;exact⟨this.1,this.2,i.1,i.2.1,i.2.2,b,d,e⟩
theorem SGood.job {st:ah} (h:SGood st) {x:aC} (e:x ∈ st.jobs):x.name.size<=16/\x.tag.size<=16/\(-1000<=x.prio/\x.prio<=1000)/\(0<=x.need/\x.need<=1000000)/\(0<=x.tries/\x.tries<=100):=by
 obtain⟨b,c,d⟩:=oT (fB h.ej e);exact⟨eU b,mZ c,d⟩
theorem SGood.node {st:ah} (h:SGood st) {x:av} (e:x ∈ st.nodes):x.name.size<=16/\x.zone.size<=16/\(0<=x.room/\x.room<=1000000):=by
 obtain⟨b,c,d⟩:=pE (fB h.en e);exact⟨eU b,mZ c,d⟩
theorem SGood.lease {st:ah} (h:SGood st) {l:ak} (p:l ∈ st.leases):l.job.size<=16/\l.node.size<=16/\(0<=l.till/\l.till<=1099511627776):=by
 have b:=fB h.el p;unfold dN at b
 split at b
 · rename_i c
   split at b
   · rename_i j
     have s:=aM.1 j;simp only [Bool.and_eq_true] at c;obtain⟨u,f⟩:=Option.isSome_iff_exists.1 c.1;obtain⟨n,i⟩:=Option.isSome_iff_exists.1 c.2;have m:=List.mem_of_find?_eq_some f;have r:=List.mem_of_find?_eq_some i;have k:u.name=l.job:=by simpa using List.find?_some f
     have q:n.name=l.node:=by simpa using List.find?_some i
     have d:=eU (oT (fB h.ej m)).1;have e:=eU (pE (fB h.en r)).1;rw [k] at d;rw [q] at e;exact⟨d,e,s⟩
   · exact absurd b (by decide)
 · exact absurd b (by decide)
def uH (st:ah) (v:Int):List UInt8:=(if 2<v then bf st.rev.toNat else []) ++ mG st.jobs st.nodes st.leases v
def jW (st:ah) (v:Int):ByteArray × Int:=if aE st≠0 then (⟨#[]⟩,aE st) else if ranged v 1 3=false then (⟨#[]⟩,1) else if pY st v=false then (⟨#[]⟩,4) else (⟨(uH st v).toArray⟩,0)
theorem zf {st:ah} {v:Int} (h:aE st≠0):jW st v=(⟨#[]⟩,aE st):=by unfold jW; rw [if_pos h]
theorem Ca {st:ah} {v:Int} (h:aE st=0) (b:ranged v 1 3=false):jW st v=(⟨#[]⟩,1):=by unfold jW; rw [if_neg (by simp [h]),if_pos b]
theorem AS {st:ah} {v:Int} (h:aE st=0) (b:ranged v 1 3=true) (c:pY st v=false):jW st v=(⟨#[]⟩,4):=by unfold jW; rw [if_neg (by simp [h]),if_neg (by simp [b]),if_pos c]
theorem Et {st:ah} {v:Int} (h:aE st=0) (b:ranged v 1 3=true) (c:pY st v=true):jW st v=(⟨(uH st v).toArray⟩,0):=by unfold jW; rw [if_neg (by simp [h]),if_neg (by simp [b]),if_neg (by simp [c])]
theorem SGood.jobs {st:ah} (h:SGood st):∀ x ∈ st.jobs,uz x:=fun _ b=>IB (fB h.ej b)
theorem SGood.nodes {st:ah} (h:SGood st):∀ x ∈ st.nodes,qh x:=fun _ b=>Fq (fB h.en b)
theorem SGood.leases {st:ah} (h:SGood st):∀ x ∈ st.leases,uZ x:=fun _ b=>by
 obtain⟨c,d,e⟩:=h.lease b;exact⟨by omega,by omega,by omega⟩
def uR (st:ah) (v:Int) (w:World) (e:Ending) (w':World):Prop:=e = .returned (.tuple #[.string (jW st v).1,.int .i64 (jW st v).2])/\Below w w w'
theorem uR.mk' {st:ah} {v E:Int} {s:ByteArray} {w w':World} (h:jW st v=(s,E)) (b:Below w w w'):uR st v w (.returned (.tuple #[s,E])) w':=⟨by rw [h],b⟩
theorem Jt {st:ah} (g:SGood st) (v:Int):(mG st.jobs st.nodes st.leases v).length<=12000:=by
 have e:=iT (enc:=fun x=>eP x v) (fun x=>mH x v) st.jobs;have f:=iT (enc:=fun x=>cW x v) (fun x=>kS x v) st.nodes;have h:=iT (enc:=eH) ku st.leases;have b:=bT st.jobs.length;have c:=bT st.nodes.length;have d:=bT st.leases.length;have:=g.nj;have:=g.nn;have:=g.nl;unfold mG fY;simp only [List.length_append]; omega
theorem NU (base g p q:Nat) (v:Int) (l:List UInt8) (x:aC) (w:World) (i:uz x) (h:gA w base g l) (E:l.length<=90000000) (c:Blk w p 237 #[π g 0]) (d:Blk w q 3 #[v]) :
 ψ 204 #[.agg (aS x).toArray,π p 0,π q 0] w (iJ base g (l ++ eP x v) w):=by
 have y:=ω i;obtain⟨j,m,k,s,r⟩:=x;generalize e:l ++ eP _ v=K;have u:=ω e;unfold aS;have b:=ω (WGo.start h 86 #[j,m,k,s,r] (by decide));have I:ζ w p 0 (π g 0):=c.cell 0;have F:=c.lt;have J:ζ w q 0 (.int .i64 v):=d.cell 0;have G:=d.lt;clear h i c d e;go_enter Tryz.func204,Tryz.ntmps204
 go_wp2_with fail
 refine Calls.mono (LF base g _ ⟨j,m,k,s,r⟩ v _ y.z b.ok (by have:=b.len; omega)) ?_;rintro D H ⟨rfl,ok1,C⟩;rw [u.z] at ok1;have z:=b.keep.trans C;go_wp2;go_end0;exact⟨rfl,ok1,z⟩
theorem Mw (base g p q:Nat) (v:Int) (l:List UInt8) (x:av) (w:World) (i:qh x) (h:gA w base g l) (C:l.length<=90000000) (c:Blk w p 237 #[π g 0]) (d:Blk w q 3 #[v]) :
 ψ 205 #[.agg (aH x).toArray,π p 0,π q 0] w (iJ base g (l ++ cW x v) w):=by
 have s:=ω i;obtain⟨j,k,m⟩:=x;generalize e:l ++ cW _ v=K;have r:=ω e;unfold aH;have b:=ω (WGo.start h 81 #[j,k,m] (by decide));have G:ζ w p 0 (π g 0):=c.cell 0;have D:=c.lt;have H:ζ w q 0 (.int .i64 v):=d.cell 0;have E:=d.lt;clear h i c d e;go_enter Tryz.func205,Tryz.ntmps205
 go_wp2_with fail
 refine Calls.mono (JG base g _ ⟨j,k,m⟩ v _ s.z b.ok (by have:=b.len; omega)) ?_;rintro z F ⟨rfl,ok1,y⟩;rw [r.z] at ok1;have u:=b.keep.trans y;go_wp2;go_end0;exact⟨rfl,ok1,u⟩
theorem rK :
 (∀ (base g p q:Nat) (v:Int) (l:List UInt8) (xs:List aC) (A:Option Addr) (n c:Nat) (w:World) (D:bg w base 5 A n (au aS xs)) (h:xs.length=n) (V:n<=1000000) (C:∀ x ∈ xs,uz x) (m:gA w base g l) (U:l.length<=1000000) (s:Blk w p 237 #[π g 0]) (u:p≠g) (y:Blk w q 3 #[v]) (z:q≠g),ψ 163 #[π g 0,.slice A n c,.func (.func 204) #[] #[π p 0,π q 0]] w (iJ base g (l ++ fY (fun x=>eP x v) xs) w)) /\
 (∀ (base g p q:Nat) (v:Int) (l:List UInt8) (xs:List av) (A:Option Addr) (n c:Nat) (w:World) (D:bg w base 3 A n (au aH xs)) (h:xs.length=n) (V:n<=1000000) (C:∀ x ∈ xs,qh x) (m:gA w base g l) (U:l.length<=1000000) (s:Blk w p 237 #[π g 0]) (u:p≠g) (y:Blk w q 3 #[v]) (z:q≠g),ψ 166 #[π g 0,.slice A n c,.func (.func 205) #[] #[π p 0,π q 0]] w (iJ base g (l ++ fY (fun x=>cW x v) xs) w)):=by
 refine⟨@fun base g p q v l xs A n c w D h V C m U s u y z=>(fun(b:Unit)=>?_) (),@fun base g p q v l xs A n c w D h V C m U s u y z=>(fun(E:Unit)=>?_) ()⟩<;>(
 first|(guard_hyp b;have ae:=@aU)|(have ae:=@aO)
 first
  |(
   guard_hyp b
   have H:∀ k,((xs.take k).flatMap (fun x=>eP x v)).length<=85*n:=fun k=>by
    have h1:=iT (enc:=fun x=>eP x v) (fun x=>mH _ v) (xs.take k);have h2:(xs.take k).length<=n:=by rw [List.length_take]; omega
    omega)
  |(
   guard_hyp E
   have H:∀ k,((xs.take k).flatMap (fun x=>cW x v)).length<=85*n:=fun k=>by
    have h1:=iT (enc:=fun x=>cW x v) (fun x=>kS _ v) (xs.take k);have h2:(xs.take k).length<=n:=by rw [List.length_take]; omega
    omega)
 have aj:=bT n
 first|(guard_hyp b;have aa:=ω (show ∀ k,(l ++ bf n ++ (xs.take k).flatMap (fun x=>eP x v)).length<=90000000 from fun k=>by have:=H k; simp only [List.length_append]; omega))|have aa:=ω (show ∀ k,(l ++ bf n ++ (xs.take k).flatMap (fun x=>cW x v)).length<=90000000 from fun k=>by have:=H k; simp only [List.length_append]; omega)
 first|(guard_hyp b;have bG:=ω (show l ++ fY (fun x=>eP x v) xs=l ++ bf n ++ (xs.take n).flatMap (fun x=>eP x v) from by unfold fY; rw [<- h,List.take_length,List.append_assoc]))|have bG:=ω (show l ++ fY (fun x=>cW x v) xs=l ++ bf n ++ (xs.take n).flatMap (fun x=>cW x v) from by unfold fY; rw [<- h,List.take_length,List.append_assoc])
 have HN:=ω (p8 base g l (n:Int) w (by omega) m (by omega));have Hw:=ω C;have Hl:=ω h;have Hx:=ω D;have Ho:=ω m;have Hp:=ω s;have Hq:=ω y;clear C h D m H aj s y
 first|(guard_hyp b;go_enter Tryz.func163,Tryz.ntmps163)|go_enter Tryz.func166,Tryz.ntmps166
 go_wp2_with fail
 refine HN.mono ?_;rintro e w0 ⟨rfl,ok0,k0⟩;rw [show ((n:Int)).toNat=n from by omega] at ok0;have ah:=ω ok0;have K0:=ω k0;clear ok0 k0;go_wp2
 first|(guard_hyp b;go_loopw [7,14] (fun _ i wr=>tS (fun x=>eP x v) xs n base g l w i wr) (fun _ i _=>n - (intOf i).toNat))|go_loopw [7,14] (fun _ i wr=>tS (fun x=>cW x v) xs n base g l w i wr) (fun _ i _=>n - (intOf i).toNat)
 case atStart=>exact⟨0,Nat.zero_le _,rfl,by simpa using ah.z,K0⟩
 case round=>
  obtain⟨k,hk,rfl,W,T⟩:=hrel;have ab:=ω W;have j:=ω T;have am:=W.size;have hB:=Ho.keep T;clear W T;by_cases hlt:k<n
  · obtain⟨x,r⟩:∃ x,xs[k]? = some x:=⟨_,δ (by rw [Hl.z]; exact hlt)⟩;obtain⟨ai,ao,rfl,ak,S⟩:=(Hx.below hB).dL ae Hl.z r;have ad:=ω (Hw.z x (m8 r))
    first|(guard_hyp b;have R:=ω (iU (fun x=>eP x v) r))|have R:=ω (iU (fun x=>cW x v) r)
    obtain⟨X,hX⟩:∃ X,X=x:=⟨_,rfl⟩;have HX:=ω hX
    first
     |(
      guard_hyp b
      obtain⟨d,I,G,L,K⟩:=x;obtain⟨c0,c1,c2,c3,c4⟩:=rc5 S)
     |(
      guard_hyp E
      obtain⟨d,J,M⟩:=x;obtain⟨c0,c1,c2⟩:=rc3 S)
    clear S r hX hB;have al:ai<wr.heap.size:=by omega
    first
     |(
      guard_hyp b
      have F:Below wr wr (χ wr #[d,I,G,L,K] 86):=(θ).alloc lQ _)
     |(
      guard_hyp E
      have F:Below wr wr (χ wr #[d,J,M] 81):=(θ).alloc lQ _)
    have af:=ω F;have Y:=ω (ab.below F);have Z:=ω (aa.z k)
    first
     |(
      guard_hyp b
      have N:=ω ((j.blk Hp.z (by decide) (by intro e; subst e; exact u rfl)).alloc (.cells #[d,I,G,L,K] 86));have O:=ω ((j.blk Hq.z (by decide) (by intro e; subst e; exact z rfl)).alloc (.cells #[d,I,G,L,K] 86)))
     |(
      guard_hyp E
      have N:=ω ((j.blk Hp.z (by decide) (by intro e; subst e; exact u rfl)).alloc (.cells #[d,J,M] 81));have O:=ω ((j.blk Hq.z (by decide) (by intro e; subst e; exact z rfl)).alloc (.cells #[d,J,M] 81)))
    clear F
    go_wp2_with fail
    first
     |(
      guard_hyp b
      refine Calls.mono (NU base g p q v _ ⟨d,I,G,L,K⟩ _ ad.z Y.z Z.z N.z O.z) ?_)
     |(
      guard_hyp E
      refine Calls.mono (Mw base g p q v _ ⟨d,J,M⟩ _ ad.z Y.z Z.z N.z O.z) ?_)
    rintro e w1 ⟨rfl,ok1,k1⟩;have ag:=ω (j.trans ((dF.of_below af.z).trans k1))
    first|(guard_hyp b;have ac:=ω (show gA w1 base g (l ++ bf n ++ (xs.take (k+1)).flatMap (fun x=>eP x v)) from by rw [R.z,<- List.append_assoc]; exact ok1))|have ac:=ω (show gA w1 base g (l ++ bf n ++ (xs.take (k+1)).flatMap (fun x=>cW x v)) from by rw [R.z,<- List.append_assoc]; exact ok1)
    clear ok1 k1;go_wp2
    go_roundw
    case rel=>exact⟨k+1,by omega,by go_num,ac,ag⟩
    case measure=>simp [intOf]; omega
  · obtain rfl:k=n:=by omega
    go_wp2;go_end0;exact⟨rfl,by rw [bG.z]; exact ab.z,j⟩)
theorem M9 {v k:Int} {p s:ByteArray} {x:Int} (h:uQ v k p=(s,x)) (w:World) :
 ψ 62 #[.agg #[v,k,p]] w fun e w'=>e = .returned (.tuple #[s,x])/\Below w w w':=
 (DL v k p w).mono fun e w' ⟨b,c⟩=>⟨by rw [b,h],c⟩
theorem NV {s:ByteArray} {k n:Nat} (h:¬ s.size<k+n):(s.extract k s.size).extract 0 n=s.extract k (k+n):=by
 rw [ByteArray.extract_extract]
 congr 1
 omega
theorem BO (s:ByteArray) (w:World) (G:s.size<=9223372036854775807):ψ 92 #[s] w (iQ s w):=by
 obtain⟨n,k,e,p⟩:∃ n k e,rdNum s=(n,k,e):=⟨_,_,_,rfl⟩;have i:=ω (Bi p w G);obtain⟨u,J,E,y⟩:=gX p;have h:=ω p;clear p;by_cases z:e=0
 · subst z;have K:=y rfl;clear y E;by_cases m:16<n
   · have b:=ω (iQ.mk' (w:=w) (w':=w) (vI h.z m) θ);go_enter Tryz.func92,Tryz.ntmps92
     go_wp2_with fail
     refine i.mono ?_;rintro x w' ⟨rfl,rfl⟩;go_wp2;refine bodyPost_ret (v:=.tuple #[.string ⟨#[]⟩,.int .i64 0,.int .i64 2]) (by simp [results,Tryz.results92,go_sem]) rfl b.z
   · by_cases l:s.size<k+n
     · have b:=ω (iQ.mk' (w:=w) (w':=w) (vJ h.z m l) θ);clear u;go_enter Tryz.func92,Tryz.ntmps92
       go_wp2_with fail
       refine i.mono ?_;rintro x w' ⟨rfl,rfl⟩;go_wp2;refine bodyPost_ret (v:=.tuple #[.string ⟨#[]⟩,.int .i64 0,.int .i64 3]) (by simp [results,Tryz.results92,go_sem]) rfl b.z
     · clear u;have c:=ω (AB (s.extract k (k+n)) w (by rw [ByteArray.size_extract]; omega));have F:=ω (NV l);obtain⟨r,C⟩:∃ r,s.extract k s.size=r:=⟨_,rfl⟩;have L:r.size=s.size - k:=by rw [<- C,ByteArray.size_extract]; omega
       obtain⟨j,D⟩:∃ j,r.extract 0 n=j:=⟨_,rfl⟩;have H:j.size=n:=by rw [<- D,ByteArray.size_extract]; omega
       have d:=ω (show j=s.extract k (k+n) by rw [<- D,<- C]; exact F);rw [<- d.z] at c;cases q:validD (s.extract k (k+n)).data.toList
       · have b:=ω (iQ.mk' (w:=w) (w':=w) (yH h.z m l q) θ);rw [d.z,q] at c;rw [<- d.z] at c;go_enter Tryz.func92,Tryz.ntmps92
         go_wp2_with fail
         refine i.mono ?_;rintro x w' ⟨rfl,rfl⟩
         go_wp2_with fail
         refine c.mono ?_;rintro x I ⟨rfl,rfl⟩;go_wp2;refine bodyPost_ret (v:=.tuple #[.string ⟨#[]⟩,.int .i64 0,.int .i64 4]) (by simp [results,Tryz.results92,go_sem]) rfl b.z
       · have b:=ω (iQ.mk' (w:=w) (w':=w) (Dm h.z m l q) θ);rw [<- d.z] at b;rw [d.z,q] at c;rw [<- d.z] at c;go_enter Tryz.func92,Tryz.ntmps92
         go_wp2_with fail
         refine i.mono ?_;rintro x w' ⟨rfl,rfl⟩
         go_wp2_with fail
         refine c.mono ?_;rintro x I ⟨rfl,rfl⟩;go_wp2;refine bodyPost_ret (v:=.tuple #[.string j,.int .i64 ((k:Int)+n),.int .i64 0]) (by simp [results,Tryz.results92,go_sem,H]) rfl ?_;have:=b.z;rw [Int.natCast_add] at this;exact this
 · have b:=ω (iQ.mk' (w:=w) (w':=w) (Br h.z z) θ);clear y u;go_enter Tryz.func92,Tryz.ntmps92
   go_wp2_with fail
   refine i.mono ?_;rintro x w' ⟨rfl,rfl⟩;go_wp2;refine bodyPost_ret (v:=.tuple #[.string ⟨#[]⟩,.int .i64 0,.int .i64 (e:Int)]) (by simp [results,Tryz.results92,go_sem]) rfl b.z
def tq (q:aL) (e:Int) (w:World) (x:Ending) (w':World):Prop:=x = .returned (.tuple #[bO q,e])/\Below w w w'
theorem own:ownKnob Tryz.prog.godebug=none:=by kernel_rfl
theorem laidOut:laidOutB Tryz.prog = true:=by kernel_rfl
theorem jO {n:Int} (h:(Lit.int .i64 n).wf=true) : -9223372036854775808<=n/\n<=9223372036854775807:=by
 simp only [Lit.wf,IntKind.min,IntKind.max,IntKind.signed,IntKind.bits,Bool.and_eq_true,decide_eq_true_eq,if_true] at h;omega
end Go.Proofs.YtimglglgcgpjgabGreatDoor
