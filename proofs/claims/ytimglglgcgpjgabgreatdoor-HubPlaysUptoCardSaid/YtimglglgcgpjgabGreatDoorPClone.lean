/- Of the proof of a statement: Take, OwnSet, StAt, StOwn, OwnMore, RowsR, At, StChkR, Clone. -/
import Derived.Deep.QuietTactic
import Derived.BigQuiet
import Derived.Test.YtimglglgcgpjgabGreatDoorPFrmEnc
import Derived.Test.YtimglglgcgpjgabGreatDoorPRPh
import Derived.Test.YtimglglgcgpjgabGreatDoorPRdRow
set_option linter.unusedVariables false
set_option linter.unusedSimpArgs false
set_option maxRecDepth 100000
set_option maxHeartbeats 8000000
namespace Go.Proofs.YtimglglgcgpjgabGreatDoor
open Go.RowKit
theorem mA:(Tryz.prog.info? 86).map (fun i=>(i.zero,i.size,i.bytes))=some (some (.agg #[.string ⟨#[]⟩,(0:Int),(0:Int),(0:Int),.string ⟨#[]⟩]),5,56):=by kernel_rfl
theorem kO:(Tryz.prog.info? 81).map (fun i=>(i.zero,i.size,i.bytes))=some (some (.agg #[.string ⟨#[]⟩,(0:Int),.string ⟨#[]⟩]),3,40):=by kernel_rfl
theorem jl:(Tryz.prog.info? 77).map (fun i=>(i.zero,i.size,i.bytes))=some (some (.agg #[.string ⟨#[]⟩,.string ⟨#[]⟩,(0:Int)]),3,40):=by kernel_rfl
theorem sG:(Tryz.prog.info? 9).map (fun i=>(i.zero,i.size,i.bytes))=some (some (.string ⟨#[]⟩),1,16):=by kernel_rfl
theorem kP (x:aC):∀ u ∈ aS x,u.oneCell'=true:=by intro u a; simp [aS] at a; rcases a with rfl | rfl | rfl | rfl | rfl <;> rfl
theorem jm (x:av):∀ u ∈ aH x,u.oneCell'=true:=by intro u a; simp [aH] at a; rcases a with rfl | rfl | rfl <;> rfl
theorem gW (x:ak):∀ u ∈ aB x,u.oneCell'=true:=by intro u a; simp [aB] at a; rcases a with rfl | rfl | rfl <;> rfl
theorem qA (x:ByteArray):∀ u ∈ kQ x,u.oneCell'=true:=by intro u a; simp [kQ] at a; subst a; rfl
theorem bZ {w w':World} {base g n sz:Nat} {e:TypeId} {v:Value} {xs:List Value} (i:w.ownsRow base e sz v n xs) (f:w.grownBy w' (some g)) (s:g<base):w'.ownsRow base e sz v n xs:=by
 rcases i with ⟨a,h | ⟨q,c,d,o,j,b,r⟩⟩
 · exact⟨a,.inl h⟩
 · have hlt:q<w.heap.size:=(Array.getElem?_eq_some_iff.1 b).1;exact⟨a,.inr ⟨q,c,d,o,j,(f.block q hlt (by simp; omega)).trans b,r⟩⟩
theorem Ke {w:World} {base sz n g c:Nat} {e:TypeId} {xs:List Value} (y:w.ownsRow base e sz (.slice (some ⟨g,0,none⟩) n c) n xs) (j:Nat) (C:j<n*sz) (u:Value) :
 (w.setCell ⟨g,j,none⟩ u).ownsRow base e sz (.slice (some ⟨g,0,none⟩) n c) n (xs.set j u)/\κ w g j/\g<w.heap.size/\base<=g:=by
 obtain⟨o,i | ⟨D,A,d,z,f,v,q,r,s,t⟩⟩:=y
 · cases i.1
 · injection z with a B h;injection a with a;injection a with a;subst a;subst h;have b:Blk w g e d:=v;refine⟨⟨by simpa using o,.inr ⟨g,c,d.setIfInBounds j u,rfl,f,b.set j u,q,r,by simpa using s,?_⟩⟩,b.thaw j,b.lt,f⟩;rw [Array.toList_setIfInBounds,List.take_set,t]
theorem BR {α:Type} {enc:α->List Value} {sz:Nat} (h:∀ a,(enc a).length=sz):∀ (l:List α) (i k:Nat) (a b:α) (u:Value),l[i]? = some a->k<sz->(enc a).set k u=enc b->(au enc l).set (i*sz+k) u=au enc (l.set i b)
 | [],i,k,a,b,u,c,_,_=>by simp at c
 | j :: l,0,k,a,b,u,c,e,d=>by
  simp only [List.getElem?_cons_zero,Option.some.injEq] at c;subst c;unfold au;rw [List.set_cons_zero,List.flatMap_cons,List.flatMap_cons,Nat.zero_mul,Nat.zero_add,List.set_append_left _ _ (by rw [h]; exact e),d]
 | j :: l,i+1,k,a,b,u,c,e,d=>by
  have f:=BR h l i k a b u (by simpa using c) e d;unfold au at f |-;rw [List.set_cons_succ,List.flatMap_cons,List.flatMap_cons,List.set_append_right _ _ (by rw [h,Nat.add_mul]; omega),h,show (i+1)*sz+k - sz=i*sz+k from by rw [Nat.add_mul]; omega,f]
structure StA where
 aj:Option Addr
 nj:Nat
 cj:Nat
 an:Option Addr
 nn:Nat
 cn:Nat
 al:Option Addr
 nl:Nat
 cl:Nat
def stC (st:ah) (x:StA):Array Value:=#[.int .i64 st.rev,.slice x.aj x.nj x.cj,.slice x.an x.nn x.cn,.slice x.al x.nl x.cl]
structure StAt (w:World) (B:Nat) (st:ah) (x:StA):Prop where
 j:bg w B 5 x.aj x.nj (au aS st.jobs)
 n:bg w B 3 x.an x.nn (au aH st.nodes)
 l:bg w B 3 x.al x.nl (au aB st.leases)
 lj:st.jobs.length=x.nj
 ln:st.nodes.length=x.nn
 ll:st.leases.length=x.nl
 bj:x.nj<=9223372036854775807
 bn:x.nn<=9223372036854775807
 bl:x.nl<=9223372036854775807
 oj:oC st.jobs
 on_:mB st.nodes
 ol:lB st.leases
theorem StAt.below {w w':World} {B:Nat} {st:ah} {x:StA} (h:StAt w B st x) (a:Below B w w'):StAt w' B st x:=
 ⟨h.j.below a,h.n.below a,h.l.below a,h.lj,h.ln,h.ll,h.bj,h.bn,h.bl,h.oj,h.on_,h.ol⟩
theorem StAt.more {w:World} {B b:Nat} {st:ah} {x:StA} (h:StAt w B st x) (a:B<=b):StAt w b st x:=
 ⟨h.j.more a,h.n.more a,h.l.more a,h.lj,h.ln,h.ll,h.bj,h.bn,h.bl,h.oj,h.on_,h.ol⟩
theorem below_grown {w0 a b:World} {g:Nat} (c:Below w0 w0 a) (d:a.grownBy b (some g)) (h:w0.heap.size<=g):Below w0 w0 b:=
 ⟨d.os.trans c.os,d.tape.trans c.tape,d.output.trans c.output,v6 c.size d.size,fun k e=>
  (d.block k (uI e c.size) (by simp; omega)).trans (c.block k e)⟩
section
variable {w w':World} {T b1 b2 b3 n1 n2 n3 m:Nat} {g1 g2 g3 g:ByteArray->Option Value}
theorem jP.MG (h:jP w T b1 b2 b3 n1 n2 n3 g1 g2 g3) (a:w.grownBy w' (some b1)) (b:b2≠b1) (c:b3≠b1) (d:T≠b1) (e:eT w' b1 m g):jP w' T b1 b2 b3 m n2 n3 g g2 g3:=
 ⟨(a.block T h.t.lt (by simp [d])).trans h.t,e,h.m2.but a b,h.m3.but a c⟩
theorem jP.Kf (h:jP w T b1 b2 b3 n1 n2 n3 g1 g2 g3) (a:w.grownBy w' (some b2)) (b:b1≠b2) (c:b3≠b2) (d:T≠b2) (e:eT w' b2 m g):jP w' T b1 b2 b3 n1 m n3 g1 g g3:=
 ⟨(a.block T h.t.lt (by simp [d])).trans h.t,h.m1.but a b,e,h.m3.but a c⟩
end
theorem IJ {l:List aC} (h:cu fG aC.name l=0) {k:Nat} {x:aC} (a:l[k]? = some x) (s:ByteArray) :
 sH (l.take (k+1)) s=if s=x.name then some (.agg (aS x).toArray) else sH (l.take k) s:=by
 unfold sH cD;rw [BS aC.name (zR h) a s]
 split <;> rfl
theorem Fw {l:List av} (h:cu dE av.name l=0) {k:Nat} {x:av} (a:l[k]? = some x) (s:ByteArray) :
 pA (l.take (k+1)) s=if s=x.name then some (.agg (aH x).toArray) else pA (l.take k) s:=by
 unfold pA bU;rw [BS av.name (zR h) a s]
 split <;> rfl
structure Dz (w0 wr:World) (st:ah) (x:StA) (S T b1 b2 b3 n1 n2 n3:Nat) (g1 g2 g3:ByteArray->Option Value):Prop where
 below:Below w0 w0 wr
 box:Blk wr S 26 (stC st x)
 tabs:jP wr T b1 b2 b3 n1 n2 n3 g1 g2 g3
def noG:ByteArray->Option Value:=fun _=>none
def DA (w:World):World:=(((w.alloc (.map #[] 0)).alloc (.map #[] 0)).alloc (.map #[] 0)).alloc (.cells #[.map (some w),.map (some (w.heap.size+1)),.map (some (w.heap.size+1+1))] 201)
theorem sI (w:World):Below w w (DA w):=
 ((((Below.refl w w).alloc lQ _).alloc (by simp) _).alloc (by simp; omega) _).alloc (by simp; omega) _
theorem Fx (w:World):jP (DA w) (w.heap.size+1+1+1) w (w.heap.size+1) (w.heap.size+1+1) 0 0 0 noG noG noG:=by
 have d:=eT.made w;have a:=eT.made (w.alloc (.map #[] 0));have b:=eT.made ((w.alloc (.map #[] 0)).alloc (.map #[] 0));have up:∀ (W:World) (o:Obj),Below W W (W.alloc o):=fun W o=>(θ).alloc lQ o;have e:(w.alloc (.map #[] 0)).heap.size=w.heap.size+1:=by simp
 have f:((w.alloc (.map #[] 0)).alloc (.map #[] 0)).heap.size=w.heap.size+1+1:=by simp
 have h:(((w.alloc (.map #[] 0)).alloc (.map #[] 0)).alloc (.map #[] 0)).heap.size=w.heap.size+1+1+1:=by simp
 have c:=n5 (((w.alloc (.map #[] 0)).alloc (.map #[] 0)).alloc (.map #[] 0)) (.cells #[.map (some w),.map (some (w.heap.size+1)),.map (some (w.heap.size+1+1))] 201);rw [e] at a;rw [f] at b;rw [h] at c;refine⟨c,?_,?_,?_⟩
 · exact ((d.below (up _ _) d.lt).below (up _ _) (by simp; omega)).below (up _ _) (by simp; omega)
 · exact (a.below (up _ _) a.lt).below (up _ _) (by simp)
 · exact b.below (up _ _) b.lt
def CE (st:ah) (w:World) (e:Ending) (w':World):Prop:=
 Below w w w'/\((aE st≠0/\e = .returned (.tuple #[.pointer none,(aE st)])) \/
  (aE st=0/\∃ T b1 b2 b3 n1 n2 n3 g3,e = .returned (.tuple #[π T 0,(0:Int)])/\jP w' T b1 b2 b3 n1 n2 n3 (sH st.jobs) (pA st.nodes) g3/\qX g3 (rV st)))
theorem CE.bad {st:ah} {w w':World} {E:Int} (h:aE st=E) (a:E≠0) (b:Below w w w'):CE st w (.returned (.tuple #[.pointer none,E])) w':=⟨b,.inl ⟨by rw [h]; exact a,by rw [h]⟩⟩
theorem zS {st:ah} (h:ranged st.rev 0 1099511627776=false):aE st=1:=by unfold aE; rw [if_pos h]
theorem nQ {st:ah} (h:ranged st.rev 0 1099511627776=true) (a:dW st=false):aE st=2:=by unfold aE; rw [if_neg (by rw [h]; simp),if_pos a]
theorem CF {st:ah} (h:ranged st.rev 0 1099511627776=true) (a:dW st=true) (b:cu fG aC.name st.jobs≠0):aE st=cu fG aC.name st.jobs:=by
 unfold aE; rw [if_neg (by rw [h]; simp),if_neg (by rw [a]; simp),if_pos b]
theorem zT {st:ah} (h:ranged st.rev 0 1099511627776=true) (a:dW st=true) (b:cu fG aC.name st.jobs=0) (c:cu dE av.name st.nodes≠0):aE st=cu dE av.name st.nodes:=by
 unfold aE; rw [if_neg (by rw [h]; simp),if_neg (by rw [a]; simp),if_neg (by simp [b]),if_pos c]
theorem CG {st:ah} (h:ranged st.rev 0 1099511627776=true) (a:dW st=true) (b:cu fG aC.name st.jobs=0) (c:cu dE av.name st.nodes=0) :
 aE st=if cu (dN st) ak.job st.leases≠0 then cu (dN st) ak.job st.leases else if lM st=true then 0 else 9:=by
 unfold aE; rw [if_neg (by rw [h]; simp),if_neg (by rw [a]; simp),if_neg (by simp [b]),if_neg (by simp [c])]
def PM (w0 wr:World) (st:ah) (x:StA) (b a:Nat) (i:Value):Prop:=∃ k:Nat,k<=a/\i = .int .i64 k/\Dz w0 wr st x w0 (b+1+1+1) b (b+1) (b+1+1) k 0 0 (sH (st.jobs.take k)) noG noG
def PN (w0 wr:World) (st:ah) (x:StA) (b n1 a:Nat) (i:Value):Prop:=∃ k:Nat,k<=a/\i = .int .i64 k/\Dz w0 wr st x w0 (b+1+1+1) b (b+1) (b+1+1) n1 k 0 (sH st.jobs) (pA (st.nodes.take k)) noG
def qB (st:ah) (l:List av):Bool:=l.all fun n=>decide (rV st n.name<=n.room)
theorem uB {st:ah} {l:List av} {k:Nat} {x:av} (h:l[k]? = some x):qB st (l.drop k)=(decide (rV st x.name<=x.room) && qB st (l.drop (k+1))):=by
 rw [drop_cons h]; rfl
def PO (w0 wr:World) (st:ah) (x:StA) (b n1 n2 n3:Nat) (g3:ByteArray->Option Value) (a:Nat) (i:Value):Prop:=
 ∃ k:Nat,k<=a/\i = .int .i64 k/\Dz w0 wr st x w0 (b+1+1+1) b (b+1) (b+1+1) n1 n2 n3 (sH st.jobs) (pA st.nodes) g3/\qB st (st.nodes.drop k)=lM st
structure StOwn (w:World) (base:Nat) (st:ah) (x:StA):Prop where
 j:w.ownsRow base 86 5 (.slice x.aj x.nj x.cj) x.nj (au aS st.jobs)
 n:w.ownsRow base 81 3 (.slice x.an x.nn x.cn) x.nn (au aH st.nodes)
 l:w.ownsRow base 77 3 (.slice x.al x.nl x.cl) x.nl (au aB st.leases)
 lj:st.jobs.length=x.nj
 ln:st.nodes.length=x.nn
 ll:st.leases.length=x.nl
theorem StOwn.grow {w w':World} {base g:Nat} {st:ah} {x:StA} (h:StOwn w base st x) (b:w.grownBy w' (some g)) (a:g<base):StOwn w' base st x:=
 ⟨bZ h.j b a,bZ h.n b a,bZ h.l b a,h.lj,h.ln,h.ll⟩
theorem StOwn.at_ {w:World} {base:Nat} {st:ah} {x:StA} (h:StOwn w base st x) (bj:x.nj<=40) (bn:x.nn<=20) (bl:x.nl<=40) (oj:oC st.jobs) (on_:mB st.nodes) (ol:lB st.leases):StAt w w st x:=
 ⟨cS h.j,cS h.n,cS h.l,h.lj,h.ln,h.ll,by omega,by omega,by omega,oj,on_,ol⟩
theorem cY {w:World} {base b n sz:Nat} {e:TypeId} {v:Value} {xs:List Value} (j:w.ownsRow base e sz v n xs) (f:b<=base):w.ownsRow b e sz v n xs:=by
 rcases j with ⟨a,h | ⟨r,c,d,q,o,i,s⟩⟩
 · exact⟨a,.inl h⟩
 · exact⟨a,.inr ⟨r,c,d,q,v6 f o,i,s⟩⟩
theorem cR {w0 w w':World} {b:Nat} (h:Below w0 w0 w) (a:w.grownBy w' (some b)) (d:w0.heap.size<=b):Below w0 w0 w':=
 ⟨a.os.trans h.os,a.tape.trans h.tape,a.output.trans h.output,v6 h.size a.size,fun k c=>(a.block k (uI c h.size) (by simp; omega)).trans (h.block k c)⟩
theorem aF {w w':World} {base n sz:Nat} {e:TypeId} {v:Value} {xs:List Value} (i:w.ownsRow base e sz v n xs) (f:Below w w w'):w'.ownsRow base e sz v n xs:=by
 rcases i with ⟨a,h | ⟨q,c,d,o,j,b,r⟩⟩
 · exact⟨a,.inl h⟩
 · have hlt:q<w.heap.size:=(Array.getElem?_eq_some_iff.1 b).1;exact⟨a,.inr ⟨q,c,d,o,j,(f.block q hlt).trans b,r⟩⟩
theorem BT {w:World} {base sz n b d c:Nat} {e:TypeId} {xs:List Value} (f:w.ownsRow base e sz (.slice (some ⟨b,d,none⟩) n c) n xs) (j:Nat) (C:j<n*sz) (u:Value) :
 (w.setCell ⟨b,d+j,none⟩ u).ownsRow base e sz (.slice (some ⟨b,d,none⟩) n c) n (xs.set j u)/\κ w b (d+j)/\b<w.heap.size/\base<=b/\∃ cs,w.heap[b]? = some (.cells cs e (0,0)):=by
 have t:d=0:=by
  rcases f.2 with ⟨h,_⟩ | ⟨D,o,q,i,_⟩
  · cases h
  · injection i with a r s;injection a with a;injection a
 subst t;obtain⟨v,y,z,A⟩:=Ke f j C u;refine⟨by rw [Nat.zero_add]; exact v,by rw [Nat.zero_add]; exact y,z,A,?_⟩;rcases f.2 with ⟨h,_⟩ | ⟨D,o,q,i,_,B,_⟩
 · cases h
 · injection i with a r s;injection a with a;injection a with a;subst a;exact⟨_,B⟩
theorem bF {w:World} {base sz n b i:Nat} {e d:TypeId} {v u:Value} {xs:List Value} {cs:Array Value} (t:w.ownsRow base e sz v n xs) (r:w.heap[b]? = some (.cells cs d (0,0))) (s:e≠d):(w.setCell ⟨b,i,none⟩ u).ownsRow base e sz v n xs:=by
 rcases t with ⟨f,o | ⟨q,h,j,z,y,a,A⟩⟩
 · exact⟨f,.inl o⟩
 · refine⟨f,.inr ⟨q,h,j,z,y,?_,A⟩⟩;rw [Below.heap_setCell w ⟨b,i,none⟩ u q (fun c=>?_)]
   · exact a
   · have c:q=b:=c;rw [c,r] at a;simp only [Option.some.injEq,Obj.cells.injEq] at a;exact s a.2.1.symm
theorem G6 {α:Type} {enc:α->List Value} {w:World} {base sz n c:Nat} {T:TypeId} {A:Option Addr} {l:List α} (v:∀ a,(enc a).length=sz) (h:w.ownsRow base T sz (.slice A n c) n (au enc l)) (s:l.length=n) {i:Nat} {a:α} (hi:l[i]? = some a) :
 ∃ b e,A=some ⟨b,e,none⟩/\base<=b/\b<w.heap.size/\∀ j u,(enc a)[j]? = some u->ζ w b (e+i*sz+j) u:=by
 obtain⟨b,e,f,q,r⟩:=(cS h).dL v s hi;refine⟨b,e,f,?_,q,r⟩;subst f;rcases h.2 with ⟨o,_⟩ | ⟨C,y,z,t,B,_⟩
 · cases o
 · injection t with d;injection d with d;injection d with d;omega
theorem bL {w:World} {S b i:Nat} {T e:TypeId} {u:Value} {cs c:Array Value} (h:Blk w S T cs) (d:w.heap[b]? = some (.cells c e (0,0))) (f:T≠e):Blk (sQ w b i u) S T cs:=by
 unfold Blk at h |-;rw [Below.heap_setCell w ⟨b,i,none⟩ u S (fun a=>?_)]
 · exact h
 · have a:S=b:=a;rw [a,d] at h;simp only [Option.some.injEq,Obj.cells.injEq] at h;exact f h.2.1.symm
theorem aZ {w0 w:World} {base b i:Nat} {u:Value} (h:Below base w0 w) (c:base<=b):Below base w0 (sQ w b i u):=
 ⟨h.os,h.tape,h.output,by have:=h.size; simpa [World.setCell] using this,fun k a=>(Below.heap_setCell w ⟨b,i,none⟩ u k (by show k≠b; omega)).trans (h.block k a)⟩
theorem cQ {w w':World} {base h sz D n B:Nat} {e d:TypeId} {v u E:Value} {xs F:List Value} (t:w.ownsRow base e sz v n xs) (r:cZ w w' u E) (z:w.ownsRow h d D u B F) (s:e≠d):w'.ownsRow base e sz v n xs:=by
 rcases t with ⟨f,o | ⟨q,i,j,A,y,c,C⟩⟩
 · exact⟨f,.inl o⟩
 · have hlt:q<w.heap.size:=(Array.getElem?_eq_some_iff.1 c).1;refine⟨f,.inr ⟨q,i,j,A,y,(r.grown.block q hlt ?_).trans c,C⟩⟩;intro b;rcases z.2 with ⟨rfl,_⟩ | ⟨I,G,H,rfl,_,a,_⟩
   · simp [Value.ownBlock] at b
   · simp [Value.ownBlock] at b;subst b;rw [c] at a;simp only [Option.some.injEq,Obj.cells.injEq] at a;exact s a.2.1
theorem Blk.jV {w w':World} {base n g sz:Nat} {e t:TypeId} {v v':Value} {xs:List Value} {cs:Array Value} (h:Blk w g t cs) (f:cZ w w' v v') (j:w.ownsRow base e sz v n xs) (i:t≠e):Blk w' g t cs:=by
 refine (f.grown.block g h.lt fun a=>?_).trans h;rcases j.2 with ⟨c,_⟩ | ⟨q,r,s,o,_,b,_⟩
 · rw [c] at a; cases a
 · rw [o] at a;have:q=g:=by simpa [Value.ownBlock] using a.symm
   subst this;unfold Blk at h;rw [h] at b;injection b with b;injection b with _ d;exact i d
theorem lL :
 (∀ (xs:List aC) (A:Option Addr) (n c:Nat) (w:World) (b:bg w w 5 A n (au aS xs)) (J:xs.length=n) (hn:n<=9223372036854775807) (K:oC xs),ψ 21 #[.slice A n c] w fun L w'=>L = .returned (.int .i64 (cu fG aC.name xs))/\Below w w w') /\
 (∀ (xs:List av) (A:Option Addr) (n c:Nat) (w:World) (b:bg w w 3 A n (au aH xs)) (J:xs.length=n) (hn:n<=9223372036854775807) (K:mB xs),ψ 22 #[.slice A n c] w fun L w'=>L = .returned (.int .i64 (cu dE av.name xs))/\Below w w w'):=by
 refine⟨@fun xs A n c w b J hn K=>(fun(a:Unit)=>?_) (),@fun xs A n c w b J hn K=>(fun(r:Unit)=>?_) ()⟩<;>(
 first|(guard_hyp a;have ae:=@aU;have S:Tg 9:=⟨⟩;have U:Tg 0:=⟨⟩)|(have ae:=@aO;have S:Tg 10:=⟨⟩;have U:Tg 1:=⟨⟩)
 first|(guard_hyp a;obtain⟨R,N⟩:∃ R,cu fG aC.name xs=R:=⟨_,rfl⟩)|obtain⟨R,N⟩:∃ R,cu dE av.name xs=R:=⟨_,rfl⟩
 rw [N];have HR:=ω N;have F:=ω J;have ah:=ω K;clear J N K
 first|(guard_hyp a;go_enter Tryz.func21,Tryz.ntmps21)|go_enter Tryz.func22,Tryz.ntmps22
 go_wp2
 first|(guard_hyp a;go_loopw [2,3,4,5,8,14] (fun _ _ _ _ z _ wr=>Kg xs n R w z wr) (fun _ _ _ _ z _ _=>n - (intOf z).toNat))|go_loopw [2,3,4,5,8,14] (fun _ _ _ _ z _ wr=>G8 xs n R w z wr) (fun _ _ _ _ z _ _=>n - (intOf z).toNat)
 case atStart=>exact⟨0,Nat.zero_le _,rfl,by rw [<- HR.z]; rfl,θ⟩
 case round=>
  obtain⟨k,hk,rfl,ag,H⟩:=hrel;have G:=ω ag;have C:=ω H;have aq:=H.size;clear ag;by_cases hlt:k<n
  · obtain⟨x,O⟩:∃ x,xs[k]? = some x:=⟨_,δ (by rw [F.z]; exact hlt)⟩;obtain⟨d,h,rfl,am,o⟩:=(b.below H).dL ae F.z O;have P:=ω (ah.z x (m8 O));have D:=ω O
    first|(guard_hyp a;obtain⟨E,hE⟩:∃ E,fG x=E:=⟨_,rfl⟩)|obtain⟨E,hE⟩:∃ E,dE x=E:=⟨_,rfl⟩
    have s:=ω hE
    first
     |(
      guard_hyp a
      obtain⟨e,X,W,aa,Z⟩:=x)
     |(
      guard_hyp r
      obtain⟨e,Y,ab⟩:=x)
    have c0:ζ wr d (h+k*S) (.string e):=o 0 _ rfl
    first
     |(
      guard_hyp a
      have u:ζ wr d (h+k*5+1) (.int .i64 X):=o 1 _ rfl;have c2:ζ wr d (h+k*5+2) (.int .i64 W):=o 2 _ rfl)
     |skip
    first|(guard_hyp a;have c3:ζ wr d (h+k*5+3) (.int .i64 aa):=o 3 _ rfl)|have u:ζ wr d (h+k*3+1) (.int .i64 Y):=o 1 _ rfl
    first|(guard_hyp a;have c4:ζ wr d (h+k*5+4) (.string Z):=o 4 _ rfl)|have c2:ζ wr d (h+k*3+2) (.string ab):=o 2 _ rfl
    clear o O hE;have ak:d<wr.heap.size:=by omega
    first
     |(
      guard_hyp a
      have ad:=ω (C.alloc C.size (.cells #[e,X,W,aa,Z] 86)))
     |(
      guard_hyp r
      have ad:=ω (C.alloc C.size (.cells #[e,Y,ab] 81)))
    go_wp2_with fail
    first
     |(
      guard_hyp a
      refine Calls.mono (vQ ⟨e,X,W,aa,Z⟩ _ P.z.1 P.z.2) ?_)
     |(
      guard_hyp r
      refine Calls.mono (uC ⟨e,Y,ab⟩ _ P.z.1 P.z.2) ?_)
    rintro L w1 ⟨rfl,j⟩;rw [s.z]
    first
     |(
      guard_hyp a
      have i:=(Below.refl wr wr).alloc lQ (.cells #[e,X,W,aa,Z] 86))
     |(
      guard_hyp r
      have i:=(Below.refl wr wr).alloc lQ (.cells #[e,Y,ab] 81))
    have v:=i.trans (j.mono i.size);have ac:=ω (ad.trans (j.mono ad.size));by_cases I:E=0
    · subst I;have l0:ζ w1 wr 0 (.string e):=by rw [(dP j).1 _ _ (by simp)]; simp [go_sem]
      by_cases af:k=0
      · subst af;have q:=ω (gS (key:=U) D.z s.z (.inl rfl))
        first
         |(
          guard_hyp a
          clear c0 u c2 c3 c4 j b i v)
         |(
          guard_hyp r
          clear c0 u c2 j b i v)
        have M:=ω ac.drew;go_wp2
        go_region
        go_wp2
        go_roundw
        case rel=>exact⟨1,by omega,by go_num,by rw [<- q.z]; exact G.z,M⟩
        case measure=>simp [intOf]; omega
      · obtain⟨y,Q⟩:∃ y,xs[k - 1]? = some y:=⟨_,δ (by rw [F.z]; omega)⟩;obtain⟨b',al,aj,xB,hp⟩:=(b.below H).dL ae F.z Q;obtain⟨rfl,rfl⟩:d=b'/\h=al:=by simpa using aj
        have Hy:=ω Q
        first
         |(
          guard_hyp a
          obtain⟨V,Kh,ar,Fy,ax⟩:=y)
         |(
          guard_hyp r
          obtain⟨V,aw,Ki⟩:=y)
        have q0:ζ wr d (h+(k - 1)*S) (.string V):=hp 0 _ rfl;have p0:ζ w1 d (h+(k - 1)*S) (.string V):=((dP v).1 _ _ ak).trans q0
        first
         |(
          guard_hyp a
          clear q0 c0 u c2 c3 c4 hp Q j b i v)
         |(
          guard_hyp r
          clear q0 c0 u c2 hp Q j b i v)
        have ap:decide ((0:Int)<(k:Int))=true:=t7 (by omega);have ao:0<k:=by omega
        have M:=ω ac.drew;obtain⟨B,hB⟩:∃ B,Op.bytesLess V.toList e.toList=B:=⟨_,rfl⟩;have HL:=ω hB;cases B
        · have q:=ω (mW (key:=U) D.z s.z af Hy.z HL.z);go_wp2
          go_region
          go_wp2;go_ret;exact⟨aX (by rw [<- G.z]; exact q.symm),M⟩
        · have q:=ω (gS (key:=U) D.z s.z (.inr ⟨_,Hy,HL⟩));go_wp2
          go_region
          go_wp2
          go_roundw
          case rel=>exact⟨k+1,by omega,by go_num,by rw [<- q.z]; exact G.z,M⟩
          case measure=>simp [intOf]; omega
    · first|(guard_hyp a;have q:=ω (lC (E:=fG) (key:=aC.name) D.z (by rw [s.z]; exact I)))|have q:=ω (lC (E:=dE) (key:=av.name) D.z (by rw [s.z]; exact I))
      have e1:(E == 0)=false:=beq_eq_false_iff_ne.2 I;have e2:(E != 0)=true:=bne_iff_ne.2 I
      first
       |(
        guard_hyp a
        clear c0 u c2 c3 c4 j b i v)
       |(
        guard_hyp r
        clear c0 u c2 j b i v)
      go_wp2;go_ret;exact⟨aX (by rw [<- G.z,q.z]; exact s.symm),ac⟩
  · obtain rfl:k=n:=by omega
    have ai:=ω (show R=0 by rw [<- G.z]; exact qC (by rw [F.z]; exact lQ) _);clear H b;go_wp2;go_ret;exact⟨aX ai.symm,C⟩)
section
variable {α:Type} {p:α->Bool} {l:List α} {k:Nat} {x:α}
theorem BU (h:l[k]? = some x):l.take (k+1)=l.take k ++ [x]:=by
 obtain⟨hlt,rfl⟩:=List.getElem?_eq_some_iff.1 h;exact (List.take_append_getElem hlt).symm
theorem zU (a:(l.take k).find? p=none) (h:l[k]? = some x) (b:p x=true):l.find? p=some x:=by
 have e:l=l.take k ++ x :: l.drop (k+1):=by rw [<- drop_cons h,List.take_append_drop]
 rw [e,List.find?_append,a,List.find?_cons,b]; rfl
theorem xC (a:(l.take k).find? p=none) (h:l[k]? = some x) (b:p x=false):(l.take (k+1)).find? p=none:=by
 rw [BU h,List.find?_append,a,List.find?_cons,b]; rfl
theorem zV (a:(l.take k).find? p=none) (h:l.length<=k):l.find? p=none:=by rwa [List.take_of_length_le h] at a
end
theorem qD (s:ByteArray):(s.toList == s.toList)=true:=beq_iff_eq.2 rfl
theorem sJ {s t:ByteArray} (h:s≠t):(s.toList == t.toList)=false:=by
 rw [beq_eq_false_iff_ne,ByteArray.toList_eq,ByteArray.toList_eq];exact fun e=>h (ByteArray.ext (Array.toList_inj.1 e))
theorem oO (a b:ByteArray):(a.toList == b.toList)=decide (a=b):=by
 by_cases h:a=b
 · subst h; rw [qD,decide_eq_true rfl]
 · rw [sJ h,decide_eq_false h]
theorem vR {α:Type} (key:α->ByteArray) (s:ByteArray):∀ l:List α,(l.find? fun y=>decide (key y=s)).isSome=l.any fun y=>decide (key y=s)
 | []=>rfl
 | a :: l=>by
  have b:=vR key s l;rw [List.find?_cons,List.any_cons];by_cases h:key a=s
  · rw [decide_eq_true h]; rfl
  · rw [decide_eq_false h,Bool.false_or]; exact b
def IK (xs:List aC) (s:ByteArray) (w:World) (e:Ending) (w':World):Prop:=
 ∃ i:Int,e = .returned (.int .i64 i)/\Below w w w'/\((i = -1/\cD xs s=none)\/∃ (k:Nat) (x:aC),i=(k:Int)/\xs[k]? = some x/\cD xs s=some x)
def Kj (xs:List aC) (s:ByteArray) (n:Nat) (w:World) (i:Value) (wr:World):Prop:=∃ k:Nat,k<=n/\i = .int .i64 k/\(xs.take k).find? (fun x=>decide (x.name=s))=none/\Below w w wr
def Fz (xs:List av) (s:ByteArray) (w:World) (e:Ending) (w':World):Prop:=
 ∃ i:Int,e = .returned (.int .i64 i)/\Below w w w'/\((i = -1/\bU xs s=none)\/∃ (k:Nat) (x:av),i=(k:Int)/\xs[k]? = some x/\bU xs s=some x)
def IL (xs:List av) (s:ByteArray) (n:Nat) (w:World) (i:Value) (wr:World):Prop:=∃ k:Nat,k<=n/\i = .int .i64 k/\(xs.take k).find? (fun x=>decide (x.name=s))=none/\Below w w wr
theorem fJ :
 (∀ (xs:List aC) (s:ByteArray) (A:Option Addr) (n c:Nat) (w:World) (a:bg w w 5 A n (au aS xs)) (e:xs.length=n) (B:n<=9223372036854775807),ψ 23 #[.slice A n c,s] w (IK xs s w)) /\
 (∀ (xs:List av) (s:ByteArray) (A:Option Addr) (n c:Nat) (w:World) (a:bg w w 3 A n (au aH xs)) (e:xs.length=n) (B:n<=9223372036854775807),ψ 24 #[.slice A n c,s] w (Fz xs s w)):=by
 refine⟨@fun xs s A n c w a e B=>(fun(h:Unit)=>?_) (),@fun xs s A n c w a e B=>(fun(E:Unit)=>?_) ()⟩<;>(
 first|(guard_hyp h;have F:=@aU)|(have F:=@aO)
 have r:=ω e;clear e
 first|(guard_hyp h;go_enter Tryz.func23,Tryz.ntmps23)|go_enter Tryz.func24,Tryz.ntmps24
 go_wp2
 first|(guard_hyp h;go_loopw [4,5,6,9] (fun _ _ _ i wr=>Kj xs s n w i wr) (fun _ _ _ i _=>n - (intOf i).toNat))|go_loopw [4,5,6,9] (fun _ _ _ i wr=>IL xs s n w i wr) (fun _ _ _ i _=>n - (intOf i).toNat)
 case atStart=>exact⟨0,Nat.zero_le _,rfl,by simp,θ⟩
 case round=>
  obtain⟨k,R,rfl,D,o⟩:=hrel;have u:=ω D;have b:=ω o;have U:=o.size;clear D;by_cases hlt:k<n
  · obtain⟨x,z⟩:∃ x,xs[k]? = some x:=⟨_,δ (by rw [r.z]; exact hlt)⟩;obtain⟨G,V,rfl,Q,y⟩:=(a.below o).dL F r.z z;have q:=ω z
    first
     |(
      guard_hyp h
      obtain⟨j,K,J,N,M⟩:=x;obtain⟨c0,H,c2,P,c4⟩:=rc5 y)
     |(
      guard_hyp E
      obtain⟨j,L,O⟩:=x;obtain⟨c0,H,c2⟩:=rc3 y)
    clear y z a o;have S:G<wr.heap.size:=by omega
    first
     |(
      guard_hyp h
      have v:=ω (b.alloc b.size (.cells #[j,K,J,N,M] 86)))
     |(
      guard_hyp E
      have v:=ω (b.alloc b.size (.cells #[j,L,O] 81)))
    by_cases C:j=s
    · subst C;have I:=qD j;have d:=ω (zU u.z q.z (by simp));go_wp2;go_ret;exact⟨_,rfl,v,.inr ⟨k,_,rfl,q,d⟩⟩
    · have I:=sJ C;have d:=ω (xC u.z q.z (by simp [C]));go_wp2
      go_roundw
      case rel=>exact⟨k+1,by omega,by go_num,d,v⟩
      case measure=>simp [intOf]; omega
  · have d:=ω (zV u.z (by rw [r.z]; omega));clear a;go_wp2;go_ret;exact⟨_,rfl,b,.inl ⟨rfl,d⟩⟩)
def UInv (st:ah) (x:StA) (s:ByteArray) (w:World) (n:Nat) (a i:Value) (wr:World):Prop:=
 ∃ k:Nat,k<=n/\i = .int .i64 k/\a = .int .i64 (fW st s (st.leases.take k))/\Below w w wr/\Blk wr w 26 (stC st x)
theorem CI {st:ah} {l:ak} {s:ByteArray} (h:l.node≠s):fS st l s=0:=by unfold fS; rw [if_neg h]
theorem DB {st:ah} {l:ak} {s:ByteArray} (h:cD st.jobs l.job=none):fS st l s=0:=by unfold fS; rw [h]; split <;> rfl
theorem DC {st:ah} {l:ak} {s:ByteArray} {j:aC} (a:l.node=s) (h:cD st.jobs l.job=some j):fS st l s=j.need:=by unfold fS; rw [if_pos a,h]
theorem IM (st:ah) (x:StA) (s:ByteArray) (w:World) (P:StAt w w st x) (X:tN st) (am:x.nl<=40) :
 ψ 25 #[.agg (stC st x),s] w fun N w'=>N = .returned (.int .i64 (rV st s))/\Below w w w':=by
 have a:=ω P;have Q:Below w w (χ w (stC st x) 26):=(θ).alloc lQ _;have O:Blk (χ w (stC st x) 26) w 26 (stC st x):=n5 w _;have ab:=ω Q;have aa:=ω O;have Y:=ω X;clear Q O P X;obtain⟨rev,jobs,nodes,leases⟩:=st;obtain⟨o,C,q,an,nn,cn,al,D,cl⟩:=x;simp only [stC] at *;have L:=a.lj;have W:=a.ll;have R:=a.bj;simp only at L W R;go_enter Tryz.func25,Tryz.ntmps25;go_wp2
 go_loopw [5,7,8,12,20] (fun ak _ _ B _ wr=>UInv ⟨rev,jobs,nodes,leases⟩ ⟨o,C,q,an,nn,cn,al,D,cl⟩ s w D ak B wr) (fun _ _ _ B _ _=>D - (intOf B).toNat)
 case atStart=>exact⟨0,Nat.zero_le _,rfl,rfl,ab,aa⟩
 case round=>
  obtain⟨k,hk,rfl,rfl,c,b⟩:=hrel;have Hb:=ω c;have HB:=ω b;have ag:=c.size;by_cases hlt:k<D
  · obtain⟨y,K⟩:∃ y,leases[k]? = some y:=⟨_,δ (by omega)⟩;obtain⟨ac,az,rfl,ap,S⟩:=(a.l.below c).dL aI W K;have z:=ω (zW ⟨rev,jobs,nodes,leases⟩ s K);have H:=ω (sK Y.z s (leases.take k));have ar:(leases.take k).length<=40:=by rw [List.length_take]; omega
    obtain⟨job,node,E⟩:=y;obtain⟨c0,c1,c2⟩:=rc3 S;have au:ac<wr.heap.size:=by omega
    have J:=(Below.refl wr wr).alloc lQ (.cells #[job,node,E] 77);have G:=ω (b.below J b.lt);have y1:ζ (χ wr #[job,node,E] 77) w 1 (.slice o C q):=G.cell 1;have n:=ω (c.trans (J.mono ag));have ae:=ω ((a.j.below n.z).more n.size);have ao:=b.lt;clear S K J c b
    go_wp2_with fail
    refine Calls.mono (fJ.1 jobs job o C q _ ae.z L R) ?_;rintro N M ⟨B,rfl,r,U⟩;have z0:ζ M wr 1 (.string node):=by rw [(dP r).1 _ _ (by simp)]; simp [go_sem]
    have I:=G.below r G.lt;have i:=ω (n.trans (r.mono n.size));have F:=ω I;have Z:ζ M w 1 (.slice o C q):=I.cell 1;generalize hu:fW ⟨rev,jobs,nodes,leases⟩ s (leases.take k)=u at z H |-;have ax:0<=u/\u<=40000000:=by have:=H.z; omega
    clear hu H r I y1;by_cases h:node=s;rotate_left
    · have e1:=sJ h;have d:=ω (show fW ⟨rev,jobs,nodes,leases⟩ s (leases.take (k+1))=u by rw [z.z,CI h,Int.add_zero]);clear Z U;go_wp2
      go_roundw
      case rel=>exact⟨k+1,by omega,by go_num,by rw [d.z],i,F⟩
      case measure=>simp [intOf]; omega
    have e1:=qD node;rcases U with ⟨rfl,e⟩ | ⟨m,j,rfl,v,e⟩
    · have d:=ω (show fW ⟨rev,jobs,nodes,leases⟩ s (leases.take (k+1))=u by rw [z.z,DB (l:=⟨job,node,E⟩) e,Int.add_zero]);clear Z e;subst h;go_wp2
      go_roundw
      case rel=>exact⟨k+1,by omega,by go_num,by rw [d.z],i,F⟩
      case measure=>simp [intOf]; omega
    · have af:=Y.z j (m8 v);have d:=ω (show fW ⟨rev,jobs,nodes,leases⟩ s (leases.take (k+1))=u+j.need by rw [z.z,DC (l:=⟨job,node,E⟩) h e]);obtain⟨bj,oj,rfl,aq,V⟩:=(a.j.below i.z).dL aU L v;obtain⟨aw,_⟩:=List.getElem?_eq_some_iff.1 v;obtain⟨ay,a0,aj,a2,a1⟩:=j;have q2:ζ M bj (oj+m*5+2) (.int .i64 aj):=V 2 _ rfl;simp only at af;clear e V v;subst h;have av:decide ((0:Int)<=(m:Int))=true:=t7 (by omega);go_wp2
      go_roundw
      case rel=>exact⟨k+1,by omega,by go_num,by rw [d.z],i,F⟩
      case measure=>simp [intOf]; omega
  · have ai:leases.take k=leases:=List.take_of_length_le (by omega);have ad:=ω (show fW ⟨rev,jobs,nodes,leases⟩ s (leases.take k)=rV ⟨rev,jobs,nodes,leases⟩ s by rw [ai]; rfl);clear c b;go_wp2;go_ret;exact⟨aX ad.z,Hb⟩
def CJ {α:Type} (T:TypeId) (sz:Nat) (enc:α->List Value) (xs:List α) (w:World) (e:Ending) (w':World):Prop:=
 ∃ a b,e = .returned (.slice a xs.length b)/\w'.ownsRow w T sz (.slice a xs.length b) xs.length (au enc xs)/\Below w w w'
theorem CJ.Ov {α:Type} {T:TypeId} {sz n:Nat} {enc:α->List Value} {xs:List α} {w w':World} {v:Value} (e:xs.length=n) (a:w'.ownsRow w T sz v n (au enc xs)) (c:Below w w w'):CJ T sz enc xs w (.returned v) w':=by
 subst e;rcases a.2 with ⟨rfl,b⟩ | ⟨g,d,f,rfl,_⟩
 · rw [b] at a;exact⟨none,0,by rw [b],by rw [b]; exact a,c⟩
 · exact⟨some ⟨g,0,none⟩,d,rfl,a,c⟩
theorem bg.adds {w:World} {B sz n:Nat} {b:Addr} {xs:List Value} (h:bg w B sz (some b) n xs):∀ j u,xs[j]? = some u->w.cell? (b.add j)=some u:=by
 intro j u c
 have f:0<n:=by
  rcases Nat.eq_zero_or_pos n with a | a
  · subst a;have:xs=[]:=List.eq_nil_of_length_eq_zero (by rw [h.len]; omega);subst this; cases c
  · exact a
 obtain⟨o,r,e,q,i⟩:=h.at_ f;injection e with e;subst e;have:=i j u c;unfold Addr.add
 split
 · rename_i d; subst d; simpa using this
 · exact this
theorem uM {w:World} {a:Addr} {v:Value} (o:Obj) (h:w.cell? a=some v):(w.alloc o).cell? a=some v:=by
 have hlt:a.block<w.heap.size:=by
  rcases Nat.lt_or_ge a.block w with b | b
  · exact b
  · simp [World.cell?,Array.getElem?_eq_none b] at h
 rw [<- h];have:=((Below.refl w w).alloc lQ o).block a.block hlt;unfold World.cell?;rw [this]
def sL (a:Type) (b:Nat) (d:a->List Value) (e:FuncId) (f:TypeId):Prop:=
 ∀ (xs:List a) (A:Option Addr) (n c:Nat) (w:World) (j:bg w w b A n (au d xs)) (h:xs.length=n) (i:n<=1000),ψ e #[.slice A n c] w (CJ f b d xs w)
theorem sM:sL aC 5 aS 64 86 /\ sL av 3 aH 65 81 /\ sL ak 3 aB 66 77:=by
 refine⟨@fun h A n c w e i Q=>(fun(r:Unit)=>?_) (),@fun h A n c w e i Q=>(fun(s:Unit)=>?_) (),@fun h A n c w e i Q=>?_⟩<;>(
 first|(guard_hyp r;have K:Tg 11:=⟨⟩;have L:=@Tryz.underlying22;have M:=@mA;have N:Tg 12:=⟨⟩;have O:Tg 9:=⟨⟩)|(guard_hyp s;have K:Tg 13:=⟨⟩;have L:=@Tryz.underlying23;have M:=@kO;have N:Tg 14:=⟨⟩;have O:Tg 10:=⟨⟩)|(have K:Tg 15:=⟨⟩;have L:=@Tryz.underlying24;have M:=@jl;have N:Tg 16:=⟨⟩;have O:Tg 10:=⟨⟩)
 have Z:∀ (w:World) (a:Option Addr) (n c P y:Nat),(binOp .eql K (.slice a n c) (.slice none P y)).run Tryz.prog w = .ok (.bool a.isNone) w:=fun w a n c P y=>Lib.run_eql_slice_nil w _ _ a n c P y L;obtain⟨J,C,F,G,I⟩:=info_parts M
 cases A with
 | none=>
  have V:n=0:=by
   rcases Nat.eq_zero_or_pos n with z | z
   · exact z
   · obtain⟨_,_,U,_⟩:=e.at_ z; cases U
  subst V;have Y:h=[]:=List.eq_nil_of_length_eq_zero i;subst Y;clear e i
  first|(guard_hyp r;go_enter Tryz.func64,Tryz.ntmps64)|(guard_hyp s;go_enter Tryz.func65,Tryz.ntmps65)|go_enter Tryz.func66,Tryz.ntmps66
  go_wp2;go_ret;exact⟨none,0,rfl,World.ownsRow_nil _ _ _ _,θ⟩
 | some v=>
  have d:=e.adds;have D:(au N h).length=n*O:=e.len;have H:=ω d;clear e d
  first|(guard_hyp r;go_enter Tryz.func64,Tryz.ntmps64)|(guard_hyp s;go_enter Tryz.func65,Tryz.ntmps65)|go_enter Tryz.func66,Tryz.ntmps66
  first|(guard_hyp r;go_wp2_with (at_builtin; refine wpList_append_own_at _ rfl _ _ 22 rfl w 86 J (.agg #[.string ⟨#[]⟩,(0:Int),(0:Int),(0:Int),.string ⟨#[]⟩]) 5 56 Tryz.underlying22 C F G I rfl (by decide) (.slice (some ⟨w,0,none⟩) 0 0) 0 [] rfl (World.ownsRow_made w #[] 0 lQ (Nat.zero_le _) rfl) v n c (au aS h) rfl D (fun o u b=>by have d:=H.z; exact uM _ (d o u b)) (fun u b=>by obtain⟨a,_,ha⟩:=List.mem_flatMap.1 b; exact kP a u ha) (by unfold maxLen; omega) (by omega) (by simp) ?_; intro R S j q E B))|(guard_hyp s;go_wp2_with (at_builtin; refine wpList_append_own_at _ rfl _ _ 23 rfl w 81 J (.agg #[.string ⟨#[]⟩,(0:Int),.string ⟨#[]⟩]) 3 40 Tryz.underlying23 C F G I rfl (by decide) (.slice (some ⟨w,0,none⟩) 0 0) 0 [] rfl (World.ownsRow_made w #[] 0 lQ (Nat.zero_le _) rfl) v n c (au aH h) rfl D (fun o u b=>by have d:=H.z; exact uM _ (d o u b)) (fun u b=>by obtain⟨a,_,ha⟩:=List.mem_flatMap.1 b; exact jm a u ha) (by unfold maxLen; omega) (by omega) (by simp) ?_; intro R S j q E B))|go_wp2_with (at_builtin; refine wpList_append_own_at _ rfl _ _ 24 rfl w 77 J (.agg #[.string ⟨#[]⟩,.string ⟨#[]⟩,(0:Int)]) 3 40 Tryz.underlying24 C F G I rfl (by decide) (.slice (some ⟨w,0,none⟩) 0 0) 0 [] rfl (World.ownsRow_made w #[] 0 lQ (Nat.zero_le _) rfl) v n c (au aB h) rfl D (fun o u b=>by have d:=H.z; exact uM _ (d o u b)) (fun u b=>by obtain⟨a,_,ha⟩:=List.mem_flatMap.1 b; exact gW a u ha) (by unfold maxLen; omega) (by omega) (by simp) ?_; intro R S j q E B)
  rw [Nat.zero_add,List.nil_append] at j;have W:=ω (CJ.Ov i j (((Below.refl _ w).alloc lQ _).grown q (by simp) (by intro k X; simp [Value.ownBlock] at X; omega)));clear j q E B;go_wp2;go_ret;exact W)
end Go.Proofs.YtimglglgcgpjgabGreatDoor
