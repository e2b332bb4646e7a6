/- Of the proof of a statement: Recs, PlSt, PlRx, Chk, TabM, Utf, RTab, ReadR, PlDec. -/
import Derived.Deep.AppendLies
import Derived.Maps.OwnSet
import Derived.StringKeys
import Derived.Orders
import Derived.Below
import Derived.Test.YtimglglgcgpjgabGreatDoorPZagR
set_option linter.unusedVariables false
set_option linter.unusedSimpArgs false
set_option maxRecDepth 100000
set_option maxHeartbeats 8000000
namespace Go.Proofs.YtimglglgcgpjgabGreatDoor
open Go.RowKit
open Go.Op (bytesLess)
open Go.Lib (validD)
open Go.RowKit Go.Maps
def au {α:Type} (enc:α->List Value) (l:List α):List Value:=l.flatMap enc
section
variable {α:Type} {enc:α->List Value} {sz:Nat}
theorem dA (l k:List α):au enc (l ++ k)=au enc l ++ au enc k:=List.flatMap_append
theorem Cf (a:α):au enc [a]=enc a:=by simp [au]
theorem jC (h:∀ a,(enc a).length=sz):∀ l:List α,(au enc l).length=l.length*sz
 | []=>by simp [au]
 | a :: l=>by
  have:=jC h l;unfold au at this |-;rw [List.flatMap_cons,List.length_append,this,h,List.length_cons,Nat.add_mul]; omega
theorem ug (h:∀ a,(enc a).length=sz):∀ (l:List α) (i j:Nat) (a:α),l[i]? = some a->j<sz->(au enc l)[i*sz+j]? = (enc a)[j]?
 | [],i,j,a,c,_=>by simp at c
 | b :: l,0,j,a,c,d=>by
  simp only [List.getElem?_cons_zero,Option.some.injEq] at c;subst c;unfold au;rw [List.flatMap_cons,Nat.zero_mul,Nat.zero_add,List.getElem?_append_left (by rw [h]; exact d)]
 | b :: l,i+1,j,a,c,d=>by
  have:=ug h l i j a (by simpa using c) d;unfold au at this |-;rw [List.flatMap_cons,List.getElem?_append_right (by rw [h,Nat.add_mul]; omega),h,show (i+1)*sz+j - sz=i*sz+j from by rw [Nat.add_mul]; omega];exact this
theorem bg.dL {w:World} {B n:Nat} {A:Option Addr} {l:List α} (h:∀ a,(enc a).length=sz) (m:bg w B sz A n (au enc l)) (r:l.length=n) {i:Nat} {a:α} (hi:l[i]? = some a) :
 ∃ b d,A=some ⟨b,d,none⟩/\b<B/\∀ j u,(enc a)[j]? = some u->ζ w b (d+i*sz+j) u:=by
 have v:i<n:=by
  rw [<- r];rcases Nat.lt_or_ge i l.length with c | c
  · exact c
  · rw [List.getElem?_eq_none c] at hi; cases hi
 obtain⟨b,d,e,p,t⟩:=m.at_ (by omega);refine⟨b,d,e,p,fun j u f=>?_⟩;rw [Nat.add_assoc];refine t _ _ ?_
 have q:j<sz:=by
  rw [<- h a];rcases Nat.lt_or_ge j (enc a).length with c | c
  · exact c
  · rw [List.getElem?_eq_none c] at f; cases f
 rw [ug h l i j a hi q]; exact f
end
theorem cS {w:World} {base:Nat} {e:TypeId} {sz n c:Nat} {A:Option Addr} {xs:List Value} (h:w.ownsRow base e sz (.slice A n c) n xs):bg w w sz A n xs:=
 ⟨h.1,fun q=>by
  obtain⟨g,t,r,u,m⟩:=h.form q;injection r with i _ l;subst i; subst l;refine⟨g,0,rfl,m,fun j v f=>?_⟩
  have p:j<n*sz:=by
   rw [<- h.1];rcases Nat.lt_or_ge j xs.length with d | d
   · exact d
   · rw [List.getElem?_eq_none d] at f; cases f
  rw [Nat.zero_add,h.cellAt j p]; exact f⟩
section
variable {P:Program} {w:World} {ops:Array Oper} {rest:List Oper} {o:Oper} {a:Act} {Q:Exit->Act->World->Prop}
theorem cI {α:Type} (enc:α->List Value) (J:o.guard=none) (s x:Operand) (t e:TypeId) (z:Value) (sz f:Nat) (N:o.op = .call { callee:=.builtin .append,args:=#[s,x],argTypes:=#[t,t] })
 (T:P.underlying t=some (.slice e)) (L:(P.info? e).map (fun j=>(j.zero,j.size,j.bytes))=some (some z,sz,f)) (aa:z.cells.size=sz) (S:0<sz)
 (H:∀ a,(enc a).length=sz) (C:∀ a,∀ u ∈ enc a,u.oneCell'=true)
 (base:Nat) (A:Option Addr) (m c:Nat) (l:List α) (R:a.eval s = .slice A m c) (O:w.ownsRow base e sz (.slice A m c) m (au enc l))
 (cs:Array Value) (b:α) (i:cs.toList=enc b) (g:Nat) (I:w.heap.size=g) (W:a.eval x = .slice (some ⟨g,0,none⟩) 1 1) (M:(m+1)*f<=140737488355328) (D:m+1<=maxLen) (F:base<=w.heap.size)
 (B:∀ d h w',w'.ownsRow base e sz (.slice d (m+1) h) (m+1) (au enc (l ++ [b]))->cZ w w' (.slice A m c) (.slice d (m+1) h)->wpList P ops Q rest (a.put o.dst (.slice d (m+1) h)) w') :
 wpList P ops Q (o :: rest) a (χ w cs e):=by
 subst I;obtain⟨i0,K,X,Y,Z⟩:=info_parts L;have G:cs.size=1*sz:=by rw [<- Array.length_toList,i,H,Nat.one_mul]
 refine zn J s x t N base e i0 z sz f T K X Y Z aa S _ m _ R O cs 1 (by omega) W G (fun u q=>?_) D M F (fun v' w' p y r _=>?_)
 · rw [i] at q;exact C _ _ q
 · have v:au enc l ++ cs.toList=au enc (l ++ [b]):=by rw [i,dA,Cf]
   rw [v] at p;obtain⟨g,ab,U,_⟩:=p.form (by omega);subst U;exact B _ _ _ p ⟨y,r⟩
end
structure ah where
 rev:Int
 jobs:List aC
 nodes:List av
 leases:List ak
def cD (l:List aC) (s:ByteArray):Option aC:=l.find? fun j=>decide (j.name=s)
def bU (l:List av) (s:ByteArray):Option av:=l.find? fun n=>decide (n.name=s)
def dN (st:ah) (l:ak):Int:=if (cD st.jobs l.job).isSome && (bU st.nodes l.node).isSome then (if ranged l.till 0 1099511627776 then 0 else 1) else 6
def fS (st:ah) (l:ak) (s:ByteArray):Int:=if l.node=s then (match cD st.jobs l.job with | some j=>j.need | none=>0) else 0
def fW (st:ah) (s:ByteArray):List ak->Int
 | []=>0
 | l :: r=>fS st l s+fW st s r
def rV (st:ah) (s:ByteArray):Int:=fW st s st.leases
def dW (st:ah):Bool:=decide (st.jobs.length<=40) && decide (st.leases.length<=40) && decide (st.nodes.length<=20)
def lM (st:ah):Bool:=st.nodes.all fun n=>decide (rV st n.name<=n.room)
def aE (st:ah):Int:=
 if ranged st.rev 0 1099511627776=false then 1
 else if dW st=false then 2
 else if cu fG aC.name st.jobs≠0 then cu fG aC.name st.jobs
 else if cu dE av.name st.nodes≠0 then cu dE av.name st.nodes
 else if cu (dN st) ak.job st.leases≠0 then cu (dN st) ak.job st.leases
 else if lM st=true then 0 else 9
theorem pS:∀ a:List UInt8,bytesLess a a=false
 | []=>rfl
 | a :: r=>by simp [bytesLess,pS r]
theorem vH:∀ a b c:List UInt8,bytesLess a b=true->bytesLess b c=true->bytesLess a c=true
 | _,[],_,h,_=>by simp [bytesLess] at h
 | _,_ :: _,[],_,h=>by simp [bytesLess] at h
 | [],_ :: _,_ :: _,_,_=>rfl
 | a :: x,b :: y,c :: z,f,d=>by
  simp only [bytesLess,Bool.or_eq_true,decide_eq_true_eq,Bool.and_eq_true,beq_iff_eq] at f d |-;rcases f with f | ⟨rfl,f⟩
  · rcases d with d | ⟨rfl,d⟩
    · exact .inl (UInt8.lt_trans f d)
    · exact .inl f
  · rcases d with d | ⟨rfl,d⟩
    · exact .inl d
    · exact .inr ⟨rfl,vH x y z f d⟩
section
variable {α:Type} {E:α->Int} {key:α->ByteArray}
theorem pI:∀ (p:Option ByteArray) (l:List α),eF E key p l=0->(∀ x ∈ l,E x=0/\before p (key x)=true)/\l.Pairwise (fun a b=>bytesLess (key a).toList (key b).toList=true)
 | _,[],_=>⟨by simp,List.Pairwise.nil⟩
 | p,x :: l,h=>by
  unfold eF at h;by_cases f:E x=0
  · rw [if_pos f] at h;by_cases d:before p (key x)=true
    · rw [if_pos d] at h;obtain⟨i,m⟩:=pI (some (key x)) l h;refine⟨fun y c=>?_,List.pairwise_cons.2 ⟨fun y c=>(i y c).2,m⟩⟩;rcases List.mem_cons.1 c with rfl | c
      · exact⟨f,d⟩
      · refine⟨(i y c).1,?_⟩;have j:=(i y c).2;unfold before at d j |-
        cases p with
        | none=>rfl
        | some q=>exact vH _ _ _ d j
    · rw [if_neg d] at h; omega
  · rw [if_neg f] at h; exact absurd h f
theorem fB {l:List α} (h:cu E key l=0) {x:α} (c:x ∈ l):E x=0:=((pI none l h).1 x c).1
theorem zR {l:List α} (h:cu E key l=0):l.Pairwise (fun a b=>key a≠key b):=
 (pI none l h).2.imp fun {a b} hlt e=>by rw [e,pS] at hlt; cases hlt
end
theorem JW {j:aC} (h:fG j=0):0<=j.need/\j.need<=1000000:=by
 unfold fG at h
 split at h
 · split at h
   · rename_i c
     simp only [Bool.and_eq_true] at c;exact aM.1 c.1.2
   · omega
 · omega
theorem BS {α:Type} (key:α->ByteArray) {l:List α} (m:l.Pairwise (fun a b=>key a≠key b)) {k:Nat} {x:α} (f:l[k]? = some x) (s:ByteArray) :
 (l.take (k+1)).find? (fun a=>decide (key a=s))=if s=key x then some x else (l.take k).find? (fun a=>decide (key a=s)):=by
 have e:l.take (k+1)=l.take k ++ [x]:=by
  obtain⟨hlt,rfl⟩:=List.getElem?_eq_some_iff.1 f;exact (List.take_append_getElem hlt).symm
 rw [e,List.find?_append];by_cases c:s=key x
 · rw [if_pos c]
   have j:(l.take k).find? (fun a=>decide (key a=s))=none:=by
    rw [List.find?_eq_none];intro a ha h;have d:key a=s:=by simpa using h
    obtain⟨hlt,rfl⟩:=List.getElem?_eq_some_iff.1 f;obtain⟨p,i,rfl⟩:=List.mem_iff_getElem.1 ha;rw [List.length_take] at i;rw [List.getElem_take] at d;exact List.pairwise_iff_getElem.1 m p k (by omega) hlt (by omega) (d.trans c)
   rw [j];simp [c]
 · rw [if_neg c];have:[x].find? (fun a=>decide (key a=s))=none:=by simpa using fun e=>c (Eq.symm e)
   rw [this];simp
theorem wZ (st:ah) (s:ByteArray):∀ a b:List ak,fW st s (a ++ b)=fW st s a+fW st s b
 | [],b=>by simp [fW]
 | x :: a,b=>by
  have c:=wZ st s a b;simp only [List.cons_append,fW,c]; omega
theorem zW (st:ah) (s:ByteArray) {l:List ak} {k:Nat} {x:ak} (h:l[k]? = some x):fW st s (l.take (k+1))=fW st s (l.take k)+fS st x s:=by
 have e:l.take (k+1)=l.take k ++ [x]:=by
  obtain⟨hlt,rfl⟩:=List.getElem?_eq_some_iff.1 h;exact (List.take_append_getElem hlt).symm
 rw [e,wZ]; simp [fW]
def tN (st:ah):Prop:=∀ j ∈ st.jobs,0<=j.need/\j.need<=1000000
theorem xg {st:ah} (h:tN st) (x:ak) (s:ByteArray):0<=fS st x s/\fS st x s<=1000000:=by
 unfold fS
 split
 · cases c:cD st.jobs x.job with
   | none=>simp
   | some j=>exact h j (List.mem_of_find?_eq_some c)
 · omega
theorem sK {st:ah} (h:tN st) (s:ByteArray):∀ l:List ak,0<=fW st s l/\fW st s l<=(l.length:Int)*1000000
 | []=>by simp [fW]
 | x :: l=>by
  have c:=xg h x s;have d:=sK h s l;simp only [fW,List.length_cons];omega
theorem As {st:ah} (h:cu fG aC.name st.jobs=0):tN st:=fun _ c=>JW (fB h c)
inductive RR (α:Type) where
 | ok (a:α) (r:ByteArray)
 | bad (e:Nat)
def RR.bind {α c:Type} (x:RR α) (f:α->ByteArray->RR c):RR c:=match x with
 | .ok a r=>f a r
 | .bad e=>.bad e
theorem RR.bind_ok {α c:Type} (a:α) (r:ByteArray) (f:α->ByteArray->RR c):(RR.ok a r).bind f=f a r:=rfl
theorem RR.fR {α c:Type} (e:Nat) (f:α->ByteArray->RR c):(RR.bad e:RR α).bind f = .bad e:=rfl
def RR.st {α:Type} (x:RR α):RR Unit:=x.bind fun _ r=>.ok () r
def RR.Good {α:Type} (N:Nat) (x:RR α):Prop:=match x with
 | .ok _ r=>r.size<=N
 | .bad e=>e≠0/\e<=10
theorem RR.Good.bind {α d:Type} {N:Nat} {x:RR α} {f:α->ByteArray->RR d} (h:x.Good N) (c:∀ a r,r.size<=N->(f a r).Good N):(x.bind f).Good N:=by
 cases x with
 | ok a r=>exact c a r h
 | bad e=>exact h
theorem RR.Good.st {α:Type} {N:Nat} {x:RR α} (h:x.Good N):x.st.Good N:=h.bind fun _ _ c=>c
def dJ (s:ByteArray):RR Nat:=if (rdNum s).2.2=0 then (if 4611686018427387904<(rdNum s).1 then .bad 2 else .ok (rdNum s).1 (s.extract (rdNum s).2.1 s.size)) else .bad (rdNum s).2.2
def cH (s:ByteArray):RR ByteArray:=if (oI s).2.2=0 then .ok (oI s).1 (s.extract (oI s).2.1 s.size) else .bad (oI s).2.2
theorem Dp {s:ByteArray} {a k:Nat} (h:rdNum s=(a,k,0)) (c:¬ 4611686018427387904<a):dJ s = .ok a (s.extract k s.size):=by unfold dJ; rw [h]; simp only; rw [if_pos trivial,if_neg c]
theorem vK {s:ByteArray} {a k:Nat} (h:rdNum s=(a,k,0)) (c:4611686018427387904<a):dJ s = .bad 2:=by unfold dJ; rw [h]; simp only; rw [if_pos trivial,if_pos c]
theorem Bs {s:ByteArray} {a k e:Nat} (h:rdNum s=(a,k,e)) (c:e≠0):dJ s = .bad e:=by unfold dJ; rw [h]; simp only; rw [if_neg c]
theorem wX {s t:ByteArray} {k:Nat} (h:oI s=(t,k,0)):cH s = .ok t (s.extract k s.size):=by unfold cH; rw [h]; simp only; rw [if_pos trivial]
theorem um {s t:ByteArray} {k e:Nat} (h:oI s=(t,k,e)) (c:e≠0):cH s = .bad e:=by unfold cH; rw [h]; simp only; rw [if_neg c]
theorem nO {s:ByteArray} {k N:Nat} (h:s.size<=N):(s.extract k s.size).size<=N:=by
 rw [ByteArray.size_extract]; omega
theorem jN {s:ByteArray} {N:Nat} (h:s.size<=N):(dJ s).Good N:=by
 rcases c:rdNum s with ⟨a,k,e⟩;have i:=gX c;by_cases d:e=0
 · subst d;by_cases f:4611686018427387904<a
   · rw [vK c f]; exact⟨by decide,by decide⟩
   · rw [Dp c f]; exact nO h
 · rw [Bs c d]; exact⟨d,by omega⟩
theorem uj {s r:ByteArray} {a:Nat} (h:dJ s = .ok a r):a<=4611686018427387904:=by
 unfold dJ at h
 split at h
 · split at h
   · cases h
   · injection h with c d; omega
 · cases h
theorem rQ {s t:ByteArray} {k e:Nat} (h:oI s=(t,k,e)):e<=10/\t.size<=16/\(e=0->k<=s.size):=by
 rcases j:rdNum s with ⟨a,n,r⟩;have v:=gX j;by_cases p:r=0
 · subst p;by_cases m:16<a
   · rw [vI j m] at h; injection h with c d; injection d with l f; subst c; subst f;exact⟨by omega,by decide,fun i=>absurd i (by decide)⟩
   · by_cases c:s.size<n+a
     · rw [vJ j m c] at h; injection h with c d; injection d with l f; subst c; subst f;exact⟨by omega,by decide,fun i=>absurd i (by decide)⟩
     · cases q:Lib.validD (s.extract n (n+a)).data.toList
       · rw [yH j m c q] at h; injection h with c d; injection d with l f; subst c; subst f;exact⟨by omega,by decide,fun i=>absurd i (by decide)⟩
       · rw [Dm j m c q] at h; injection h with u d; injection d with l f; subst u; subst f; subst l;exact⟨by omega,by rw [ByteArray.size_extract]; omega,fun _=>by omega⟩
 · rw [Br j p] at h; injection h with c d; injection d with l f; subst c; subst f;exact⟨by omega,by decide,fun i=>absurd i p⟩
theorem kG {s:ByteArray} {N:Nat} (h:s.size<=N):(cH s).Good N:=by
 rcases d:oI s with ⟨a,k,e⟩;have f:=rQ d;by_cases c:e=0
 · subst c;rw [wX d]; exact nO h
 · rw [um d c]; exact⟨c,f.1⟩
theorem pM {s t r:ByteArray} (h:cH s = .ok t r):t.size<=16:=by
 rcases c:oI s with ⟨a,k,e⟩;have i:=rQ c;by_cases d:e=0
 · subst d;rw [wX c] at h; injection h with f j; subst f; exact i.2.1
 · rw [um c d] at h; cases h
def mV {α:Type} (res:RR α) (Z:α->Prop) (a:α):Prop:=match res with
 | .ok b _=>a=b
 | .bad _=>Z a
def pK (v:Int) (s:ByteArray):RR aC:=
 (cH s).bind fun c s=>(dJ s).bind fun p s=>(dJ s).bind fun d s=>
  (if 1<v then dJ s else .ok 0 s).bind fun h s=>(if 2<v then cH s else .ok ⟨#[]⟩ s).bind fun f s=>.ok ⟨c,lA p,d,h,f⟩ s
def lH (v:Int) (s:ByteArray):RR av:=
 (cH s).bind fun c s=>(dJ s).bind fun d s=>(if 1<v then cH s else .ok ⟨#[]⟩ s).bind fun f s=>.ok ⟨c,d,f⟩ s
def iL (s:ByteArray):RR ak:=(cH s).bind fun job s=>(cH s).bind fun node s=>(dJ s).bind fun c s=>.ok ⟨job,node,c⟩ s
theorem Ji {v:Int} {s:ByteArray} {N:Nat} (h:s.size<=N):(pK v s).Good N:=by
 unfold pK;refine (kG h).bind fun _ r c=>(jN c).bind fun _ r c=>(jN c).bind fun _ r c=>RR.Good.bind ?_ fun _ r c=>RR.Good.bind ?_ fun _ r c=>c
 · split
   · exact jN c
   · exact c
 · split
   · exact kG c
   · exact c
theorem F9 {v:Int} {s:ByteArray} {N:Nat} (h:s.size<=N):(lH v s).Good N:=by
 unfold lH;refine (kG h).bind fun _ r c=>(jN c).bind fun _ r c=>RR.Good.bind ?_ fun _ r c=>c
 split
 · exact kG c
 · exact c
theorem Eh {s:ByteArray} {N:Nat} (h:s.size<=N):(iL s).Good N:=by
 unfold iL;exact (kG h).bind fun _ r c=>(kG c).bind fun _ r c=>(jN c).bind fun _ r c=>c
theorem vO (s:ByteArray) (w:World) (j:s.size<=9223372036854775807) (d:Tabs w):ψ 179 #[s] w fun e w'=>e = .returned (.bool (lG s))/\Below w w w':=by
 by_cases h:s.size<=16
 · rw [yV h];have c:=ω (yG s w j d);generalize validD s.data.toList=b at c |-;go_enter Tryz.func179,Tryz.ntmps179
   go_wp2_with fail
   refine c.mono ?_;rintro e l ⟨rfl,i⟩;go_wp2;go_ret;exact⟨rfl,i⟩
 · rw [rG h];go_enter Tryz.func179,Tryz.ntmps179;go_wp2;go_ret;exact⟨rfl,θ⟩
theorem kF (s:ByteArray) (w:World) (j:s.size<=9223372036854775807) (d:Tabs w):ψ 178 #[s] w fun e w'=>e = .returned (.bool (cP s))/\Below w w w':=by
 by_cases h:s.size=0
 · rw [wB h];obtain rfl:=og h;go_enter Tryz.func178,Tryz.ntmps178;go_wp2;go_ret;exact⟨rfl,θ⟩
 · rw [yW h];have c:=ω (vO s w j d);have l:=oQ h;have m:=nB h;generalize lG s=b at c |-;go_enter Tryz.func178,Tryz.ntmps178
   go_wp2_with fail
   refine c.mono ?_;rintro e p ⟨rfl,i⟩;go_wp2;go_ret;exact⟨rfl,i⟩
theorem Fg (n lo hi:Int) (h:lo<=n) (c:n<=hi) (w:World):ψ 128 #[n,lo,hi] w fun e w'=>e = .returned (.bool true)/\w=w':=by
 have d:decide (n<=hi)=true:=t7 c;go_enter Tryz.func128,Tryz.ntmps128;go_wp2;go_ret;exact⟨rfl,rfl⟩
theorem GP (n lo hi:Int) (h:n<lo\/hi<n) (w:World):ψ 128 #[n,lo,hi] w fun e w'=>e = .returned (.bool false)/\w=w':=by
 by_cases c:lo<=n
 · have j:hi<n:=by omega
   have i:decide (n<=hi)=false:=fQ (by omega);clear h;go_enter Tryz.func128,Tryz.ntmps128;go_wp2;go_ret;exact⟨rfl,rfl⟩
 · have d:decide (lo<=n)=false:=fQ c;clear h;go_enter Tryz.func128,Tryz.ntmps128;go_wp2;go_ret;exact⟨rfl,rfl⟩
theorem kE (n lo hi:Int) (w:World):ψ 128 #[n,lo,hi] w fun e w'=>e = .returned (.bool (ranged n lo hi))/\w=w':=by
 cases h:ranged n lo hi
 · exact GP n lo hi (fT.1 h) w
 · exact Fg n lo hi (aM.1 h).1 (aM.1 h).2 w
theorem wO (j:aC) (w:World) (K:j.name.size<=9223372036854775807) (L:j.tag.size<=9223372036854775807) (N:Tabs w) :
 ψ 131 #[.agg (aS j).toArray] w fun e w'=>e = .returned (.int .i64 (fG j))/\Below w w w':=by
 obtain⟨E,y⟩:∃ E,fG j=E:=⟨_,rfl⟩;rw [y];have d:=ω y;clear y;obtain⟨D,G,F,H,v⟩:=j;unfold aS;simp only at K L |-;have B:Below w w (χ w #[D,G,F,H,v] 86):=(θ).alloc lQ _;have z:=N.below B;have M:=ω (kF D _ K z);have I:=ω z;have x:=ω B;clear z B N;go_enter Tryz.func131,Tryz.ntmps131
 go_wp2_with fail
 refine M.mono ?_;rintro e i ⟨rfl,c⟩;have S:ζ i w 1 (.int .i64 G):=by rw [(dP c).1 _ _ (by simp)]; simp [go_sem]
 have T:ζ i w 2 (.int .i64 F):=by rw [(dP c).1 _ _ (by simp)]; simp [go_sem]
 have U:ζ i w 3 (.int .i64 H):=by rw [(dP c).1 _ _ (by simp)]; simp [go_sem]
 have W:ζ i w 4 (.string v):=by rw [(dP c).1 _ _ (by simp)]; simp [go_sem]
 have q:=ω (x.trans (c.mono x.size));have J:=ω (I.below c);have u:w.heap.size<i.heap.size:=by have:=c.size; simp at this; omega
 clear c x I M;cases h:cP D
 · go_wp2;go_ret;exact⟨aX (by rw [<- d.z]; simp [fG,h]),q⟩
 go_wp2_with fail
 refine Calls.mono (vO v i L J.z) ?_;rintro e X ⟨rfl,m⟩;replace S:=((dP m).1 _ _ u).trans S;replace T:=((dP m).1 _ _ u).trans T;replace U:=((dP m).1 _ _ u).trans U;have l:=ω (q.trans (m.mono q.size));clear W m q J u;cases p:lG v
 · go_wp2;go_ret;exact⟨aX (by rw [<- d.z]; simp [fG,h,p]),l⟩
 go_wp2_with fail
 refine Calls.mono (kE _ _ _ _) ?_;rintro e R ⟨rfl,rfl⟩;cases r:ranged G (-1000) 1000
 · go_wp2;go_ret;exact⟨aX (by rw [<- d.z]; simp [fG,h,p,r]),l⟩
 go_wp2_with fail
 refine Calls.mono (kE _ _ _ _) ?_;rintro e R ⟨rfl,rfl⟩;cases C:ranged F 0 1000000
 · go_wp2;go_ret;exact⟨aX (by rw [<- d.z]; simp [fG,h,p,r,C]),l⟩
 go_wp2_with fail
 refine Calls.mono (kE _ _ _ _) ?_;rintro e R ⟨rfl,rfl⟩;cases O:ranged H 0 100
 · go_wp2;go_ret;exact⟨aX (by rw [<- d.z]; simp [fG,h,p,r,C,O]),l⟩
 · go_wp2;go_ret;exact⟨aX (by rw [<- d.z]; simp [fG,h,p,r,C,O]),l⟩
theorem uL (n:av) (w:World) (D:n.name.size<=9223372036854775807) (F:n.zone.size<=9223372036854775807) (H:Tabs w) :
 ψ 134 #[.agg (aH n).toArray] w fun e w'=>e = .returned (.int .i64 (dE n))/\Below w w w':=by
 obtain⟨E,q⟩:∃ E,dE n=E:=⟨_,rfl⟩;rw [q];have h:=ω q;clear q;obtain⟨y,z,l⟩:=n;unfold aH;simp only at D F |-;have u:Below w w (χ w #[y,z,l] 81):=(θ).alloc lQ _;have r:=H.below u;have G:=ω (kF y _ D r);have B:=ω r;have m:=ω u;clear r u H;go_enter Tryz.func134,Tryz.ntmps134
 go_wp2_with fail
 refine G.mono ?_;rintro e j ⟨rfl,c⟩;have K:ζ j w 1 (.int .i64 z):=by rw [(dP c).1 _ _ (by simp)]; simp [go_sem]
 have L:ζ j w 2 (.string l):=by rw [(dP c).1 _ _ (by simp)]; simp [go_sem]
 have d:=ω (m.trans (c.mono m.size));have C:=ω (B.below c);have J:w.heap.size<j.heap.size:=by have:=c.size; simp at this; omega
 clear c m B G;cases i:cP y
 · go_wp2;go_ret;exact⟨aX (by rw [<- h.z]; simp [dE,i]),d⟩
 go_wp2_with fail
 refine Calls.mono (vO l j F C.z) ?_;rintro e M ⟨rfl,v⟩;replace K:=((dP v).1 _ _ J).trans K;have p:=ω (d.trans (v.mono d.size));clear L v d C J;cases x:lG l
 · go_wp2;go_ret;exact⟨aX (by rw [<- h.z]; simp [dE,i,x]),p⟩
 go_wp2_with fail
 refine Calls.mono (kE _ _ _ _) ?_;rintro e N ⟨rfl,rfl⟩;cases I:ranged z 0 1000000
 · go_wp2;go_ret;exact⟨aX (by rw [<- h.z]; simp [dE,i,x,I]),p⟩
 · go_wp2;go_ret;exact⟨aX (by rw [<- h.z]; simp [dE,i,x,I]),p⟩
def Mp:Value->Option (DataW Value × List MemPlace):=fun v=>some (.held v,[])
def eT (w:World) (b n:Nat) (g:ByteArray->Option Value):Prop:=
 ∃ D:DataW Value,w.ownsMap Tryz.prog 9 Mp b n D/\∀ (s:ByteArray) (z:DataW Value),D.atKey (.string s.data.toList) z=match g s with
  | none=>z
  | some v=>.held v
theorem PH:Keyed Tryz.prog 9:=string_keyed Tryz.underlying9
section
variable {w w':World} {b n:Nat} {g:ByteArray->Option Value}
theorem eT.made (w:World):eT (w.alloc (.map #[] 0)) w 0 (fun _=>none):=⟨.map [],World.ownsMap_made w _ _ _,fun _ _=>rfl⟩
theorem eT.lt (h:eT w b n g):b<w.heap.size:=h.choose_spec.1.lt
theorem eT.same (h:eT w b n g) (e:w'.heap[b]? = w.heap[b]?):eT w' b n g:=by
 obtain⟨D,⟨d,c,i,r⟩,f⟩:=h;exact⟨D,⟨d,c,e.trans i,r⟩,f⟩
theorem eT.below {B:Nat} (h:eT w b n g) (d:Below B w w') (c:b<B):eT w' b n g:=h.same (d.block b c)
theorem eT.but {c:Nat} (h:eT w b n g) (d:w.grownBy w' (some c)) (f:b≠c):eT w' b n g:=h.same (d.block b h.lt (by simp [f]))
theorem eT.congr {c:ByteArray->Option Value} (h:eT w b n g) (e:∀ s,g s=c s):eT w b n c:=by
 obtain⟨D,f,d⟩:=h;exact⟨D,f,fun s z=>by rw [d,e]⟩
theorem eT.mono {m:Nat} (h:eT w b n g) (d:n<=m):eT w b m g:=by
 obtain⟨D,f,c⟩:=h;exact⟨D,f.mono d,c⟩
theorem data_inj {s t:ByteArray} (h:(Lit.string s.data.toList) = .string t.data.toList):s=t:=by
 injection h with h;exact ByteArray.ext (Array.toList_inj.1 h)
theorem eT.put {t e:TypeId} (h:eT w b n g) (r : Tryz.prog.underlying t=some (.map 9 e)) (l:n<maxLen) (s:ByteArray) (q:s.size<=maxLen) (v:Value) :
 ∃ w',(Instr.mapUpdate t (.map (some b)) (.string s) v).run Tryz.prog w = .ok () w'/\eT w' b (n+1) (fun x=>if x=s then some v else g x)/\w.grownBy w' (some b):=by
 obtain⟨D,f,i⟩:=h;obtain⟨w',p,m,j⟩:=f.update PH r l (Go.WideMaps.keyOf_string_mk Tryz.underlying9 q) (val:=v) (d:=.held v) (ps:=[]) rfl;refine⟨w',p,⟨_,m,fun x z=>?_⟩,j⟩;by_cases c:x=s
 · subst c;rw [atKey_put_same f.isMap (by simp [WideAt.IsKeyLit])];simp
 · rw [atKey_put_other (fun e=>c (data_inj e)),i x z];simp [c]
theorem eT.look {t e:TypeId} (h:eT w b n g) (p : Tryz.prog.underlying t=some (.map 9 e)) {z:Value} (q:(zeroValue e).run Tryz.prog w = .ok z w) (s:ByteArray) (m:s.size<=maxLen) :
 (Instr.lookup t (.map (some b)) (.string s) false).run Tryz.prog w = .ok ((g s).getD z) w:=by
 obtain⟨D,j,i⟩:=h;obtain⟨v,r,l,f⟩:=j.lookup PH p q (zd:=.held z) (zp:=[]) rfl (Go.WideMaps.keyOf_string_mk Tryz.underlying9 m);rw [i] at f
 have c:(DataW.held v:DataW Value)=match g s with | none=>.held z | some v=>.held v:=by
  have:=congrArg (fun o=>o.map Prod.fst) f;simpa [Mp] using this
 have e:v=(g s).getD z:=by
  cases d:g s with
  | none=>rw [d] at c; injection c
  | some u=>rw [d] at c; injection c
 rw [l,e]
theorem eT.look_ok {t e:TypeId} (l:eT w b n g) (q : Tryz.prog.underlying t=some (.map 9 e)) {z:Value} (r:(zeroValue e).run Tryz.prog w = .ok z w) (s:ByteArray) (p:s.size<=maxLen) :
 (Instr.lookup t (.map (some b)) (.string s) true).run Tryz.prog w = .ok (.tuple #[(g s).getD z,.bool (g s).isSome]) w:=by
 obtain⟨D,m,f⟩:=l;obtain⟨v,B,i,j⟩:=m.look_ok PH q r (zd:=.held z) (zp:=[]) rfl (Go.WideMaps.keyOf_string_mk Tryz.underlying9 p);rw [f] at j
 have d:(DataW.held v:DataW Value)=match g s with | none=>.held z | some v=>.held v:=by
  have:=congrArg (fun o=>o.map Prod.fst) j;simpa [Mp] using this
 cases c:g s with
 | none=>
  rw [c] at d;have e:v=z:=by injection d
  have h:Maps.has D (.string s.data.toList)=false:=Maps.has_false_of_atKey (fun x=>by rw [f,c]);rw [i,e,h]; rfl
 | some u=>
  rw [c] at d;have e:v=u:=by injection d
  have h:Maps.has D (.string s.data.toList)=true:=Maps.has_true_of_atKey (y:=.held u) (fun x=>by rw [f,c]);rw [i,e,h]; rfl
end
def PI (s:ByteArray) (i:Value):Prop:=∃ k:Nat,k<=s.size/\i = .int .i64 k/\validD (s.data.toList.drop k)=validD s.data.toList
def rS (l:List UInt8) (m lo hi:Nat) (c d f:Value):Prop:=∃ j:Nat,1<=j/\j<=m+1/\f = .int .i64 j/\c = .int .i64 (mT lo j)/\d = .int .i64 (jD hi j)/\∀ t,1<=t->t<j->Bx l lo hi t
theorem NO {s:ByteArray} {k:Nat} (h:k<s.size):s.data.toList.drop k≠[]:=by
 intro e;have:=congrArg List.length e;rw [List.length_drop,Array.length_toList,List.length_nil] at this;have c:s.data.size=s.size:=rfl;omega
theorem drop_at {s:ByteArray} {k j c:Nat} (h:k+j<s.size) (d:s[k+j].toNat=c):((s.data.toList.drop k).getD j 0).toNat=c:=by
 rw [List.getD_eq_getElem?_getD,List.getElem?_drop,Array.getElem?_toList,Array.getElem?_eq_getElem (show k+j<s.data.size from h)];exact d
theorem Mq (s:ByteArray) (k:Nat):(s.data.toList.drop k).length=s.size - k:=by
 rw [List.length_drop,Array.length_toList]; rfl
theorem iw {lo j:Nat} (h:lo<=255):mT lo j<=255:=by unfold mT; split <;> omega
theorem nJ {hi j:Nat} (h:hi<=255):jD hi j<=255:=by unfold jD; split <;> omega
theorem AB (s:ByteArray) (w:World) (hs:s.size<=1048576):ψ 173 #[s] w fun e w'=>e = .returned (.bool (validD s.data.toList))/\w=w':=by
 go_enter Tryz.func173,Tryz.ntmps173;go_wp2
 go_loop [2,3,4,5,6,7,8,17,20,27,38,68] (fun _ af _ _ _ _ _ _ _ _ _ _=>PI s af) (fun _ af _ _ _ _ _ _ _ _ _ _=>s.size - (intOf af).toNat)
 case atStart=>exact⟨0,by omega,rfl,by simp⟩
 case round=>
  obtain⟨k,hk,rfl,hv⟩:=hrel;by_cases ae:k<s.size
  · obtain⟨c,hc⟩:∃ c:Nat,s[k].toNat=c:=⟨_,rfl⟩;have ai:c<256:=by rw [<- hc]; exact s[k].toNat_lt
    have Hi:=jo ae hc;have I:=NO ae;have G:((s.data.toList.drop k).getD 0 0).toNat=c:=drop_at (j:=0) ae hc;have ag:=Mq s k;clear hc;generalize hl:s.data.toList.drop k=Y at I G ag hv;have v:=ω hl;have C:=ω hv;clear hl hv;by_cases ah:c<128
    · have i:=ω (Cls.ascii I G ah);have _:decide ((c:Int)<128)=true:=t7 (by omega);clear I G;go_wp2
      go_loop [2,6,7,8,68] (fun _ L M z _=>z = .int .i64 1/\L = .int .i64 128/\M = .int .i64 191) (fun _ _ _ z _=>1 - (intOf z).toNat)
      case atStart=>exact⟨rfl,rfl,rfl⟩
      case round=>
       obtain⟨rfl,rfl,rfl⟩:=hrel;have l:=ω (i.ok (by omega) (fun t h r=>absurd h (by omega)));clear i;go_wp2
       go_round
       case rel=>exact⟨k+1,by omega,by go_num,by rw [<- C.z,<- List.drop_drop,v.z]; exact l.symm⟩
       case measure=>simp [intOf]; omega
    by_cases ka:194<=c/\c<=223
    · have i:=ω (Cls.of (m:=1) (lo:=128) (hi:=191) I G (by omega) (by unfold jU; rw [if_neg (by omega),if_pos (by omega)]));have _:decide ((c:Int)<128)=false:=fQ (by omega);have _:decide ((194:Int)<=c)=true:=t7 (by omega);have _:decide ((c:Int)<=223)=true:=t7 (by omega);clear I G;have ac:=iw (lo:=128) (j:=1) (by omega);by_cases ad:s.size<k+1+1
      · have l:=ω (i.short (by omega));clear i;go_wp2;go_ret;exact⟨bA (by rw [<- C.z,l.z]),rfl⟩
      · go_wp2
        go_loop [2,6,7,8,68] (fun _ L M z _=>rS Y 1 128 191 L M z) (fun _ _ _ z _=>1+1 - (intOf z).toNat)
        case atStart=>exact⟨1,by omega,by omega,rfl,rfl,rfl,fun t h r=>by omega⟩
        case round=>
         obtain⟨j,S,ab,rfl,rfl,rfl,F⟩:=hrel;have D:=ω F;clear F;by_cases R:j<=1
         · have H:k+j<s.size:=by omega
           obtain⟨d,u⟩:∃ d:Nat,s[k+j].toNat=d:=⟨_,rfl⟩;have Z:d<256:=by rw [<- u]; exact s[k+j].toNat_lt
           have aa:∀ W,(Instr.index 9 (.string s) (.int .i64 ((k:Int)+(j:Int)))).run Tryz.prog W = .ok (.int .u8 (d:Int)) W:=fun W=>by
            have:=jo H u W;rw [Int.natCast_add] at this;exact this
           have B:=drop_at H u;rw [v.z] at B;have q:=ω (rT (lo:=128) (hi:=191) B);have T:=iw (lo:=128) (j:=j) (by omega);have O:=nJ (hi:=191) (j:=j) (by omega);obtain⟨x,J⟩:∃ x,mT 128 j=x:=⟨_,rfl⟩;obtain⟨y,K⟩:∃ y,jD 191 j=y:=⟨_,rfl⟩;rw [J] at q T |-;rw [K] at q O |-;clear u B J K;by_cases p:x<=d/\d<=y
           · have U:=ω (q.z.2 p);have h:=ω p.1;have r:=ω p.2;clear q p i v
             go_wp2_with fail
             refine Calls.mono (dh _ _ _ (by have:=h.z; omega) (by have:=r.z; omega) _) ?_;rintro e w' ⟨rfl,rfl⟩;go_wp2
             go_round
             case rel=>exact⟨j+1,by omega,by omega,by go_num,by unfold mT; rw [if_neg (by omega)]; rfl,by unfold jD; rw [if_neg (by omega)]; rfl,fun t h r=>by
              by_cases X:t<j
              · exact D.z t h X
              · obtain rfl:t=j:=by omega
                exact U.z⟩
             case measure=>simp [intOf]; omega
           · have l:=ω (i.bad j S R (fun N=>p (q.z.1 N)));have h:=ω (show (d:Int)<(x:Int)\/(y:Int)<(d:Int) by omega);clear q p i v
             go_wp2_with fail
             refine Calls.mono (eC _ _ _ h.z _) ?_;rintro e w' ⟨rfl,rfl⟩;go_wp2;go_ret;exact⟨bA (by rw [<- C.z,l.z]),rfl⟩
         · obtain rfl:j=1+1:=by omega
           have l:=ω (i.ok (by omega) (fun t h r=>D.z t h (by omega)));clear i;go_wp2
           go_round
           case rel=>exact⟨k+2,by omega,by go_num,by rw [<- C.z,<- List.drop_drop,v.z]; exact l.symm⟩
           case measure=>simp [intOf]; omega
    by_cases kb:c=224
    · have i:=ω (Cls.of (m:=2) (lo:=160) (hi:=191) I G (by omega) (by unfold jU; subst kb; rfl));have _:decide ((c:Int)<128)=false:=fQ (by omega);have _:decide ((194:Int)<=c)=true:=t7 (by omega);have _:decide ((c:Int)<=223)=false:=fQ (by omega);have _:decide ((224:Int)<=c)=true:=t7 (by omega);have _:decide ((c:Int)<=239)=true:=t7 (by omega);have _:((c:Int) == 224)=true:=beq_iff_eq.2 (by omega);have _:((c:Int) == 237)=false:=by rw [beq_eq_false_iff_ne]; omega
      clear I G;have ac:=iw (lo:=160) (j:=1) (by omega);by_cases ad:s.size<k+2+1
      · have l:=ω (i.short (by omega));clear i;go_wp2;go_ret;exact⟨bA (by rw [<- C.z,l.z]),rfl⟩
      · go_wp2
        go_loop [2,6,7,8,68] (fun _ L M z _=>rS Y 2 160 191 L M z) (fun _ _ _ z _=>2+1 - (intOf z).toNat)
        case atStart=>exact⟨1,by omega,by omega,rfl,rfl,rfl,fun t h r=>by omega⟩
        case round=>
         obtain⟨j,S,ab,rfl,rfl,rfl,F⟩:=hrel;have D:=ω F;clear F;by_cases R:j<=2
         · have H:k+j<s.size:=by omega
           obtain⟨d,u⟩:∃ d:Nat,s[k+j].toNat=d:=⟨_,rfl⟩;have Z:d<256:=by rw [<- u]; exact s[k+j].toNat_lt
           have aa:∀ W,(Instr.index 9 (.string s) (.int .i64 ((k:Int)+(j:Int)))).run Tryz.prog W = .ok (.int .u8 (d:Int)) W:=fun W=>by
            have:=jo H u W;rw [Int.natCast_add] at this;exact this
           have B:=drop_at H u;rw [v.z] at B;have q:=ω (rT (lo:=160) (hi:=191) B);have T:=iw (lo:=160) (j:=j) (by omega);have O:=nJ (hi:=191) (j:=j) (by omega);obtain⟨x,J⟩:∃ x,mT 160 j=x:=⟨_,rfl⟩;obtain⟨y,K⟩:∃ y,jD 191 j=y:=⟨_,rfl⟩;rw [J] at q T |-;rw [K] at q O |-;clear u B J K;by_cases p:x<=d/\d<=y
           · have U:=ω (q.z.2 p);have h:=ω p.1;have r:=ω p.2;clear q p i v
             go_wp2_with fail
             refine Calls.mono (dh _ _ _ (by have:=h.z; omega) (by have:=r.z; omega) _) ?_;rintro e w' ⟨rfl,rfl⟩;go_wp2
             go_round
             case rel=>exact⟨j+1,by omega,by omega,by go_num,by unfold mT; rw [if_neg (by omega)]; rfl,by unfold jD; rw [if_neg (by omega)]; rfl,fun t h r=>by
              by_cases X:t<j
              · exact D.z t h X
              · obtain rfl:t=j:=by omega
                exact U.z⟩
             case measure=>simp [intOf]; omega
           · have l:=ω (i.bad j S R (fun N=>p (q.z.1 N)));have h:=ω (show (d:Int)<(x:Int)\/(y:Int)<(d:Int) by omega);clear q p i v
             go_wp2_with fail
             refine Calls.mono (eC _ _ _ h.z _) ?_;rintro e w' ⟨rfl,rfl⟩;go_wp2;go_ret;exact⟨bA (by rw [<- C.z,l.z]),rfl⟩
         · obtain rfl:j=2+1:=by omega
           have l:=ω (i.ok (by omega) (fun t h r=>D.z t h (by omega)));clear i;go_wp2
           go_round
           case rel=>exact⟨k+3,by omega,by go_num,by rw [<- C.z,<- List.drop_drop,v.z]; exact l.symm⟩
           case measure=>simp [intOf]; omega
    by_cases kd:c=237
    · have i:=ω (Cls.of (m:=2) (lo:=128) (hi:=159) I G (by omega) (by unfold jU; subst kd; rfl));have _:decide ((c:Int)<128)=false:=fQ (by omega);have _:decide ((194:Int)<=c)=true:=t7 (by omega);have _:decide ((c:Int)<=223)=false:=fQ (by omega);have _:decide ((224:Int)<=c)=true:=t7 (by omega);have _:decide ((c:Int)<=239)=true:=t7 (by omega);have _:((c:Int) == 224)=false:=by rw [beq_eq_false_iff_ne]; omega
      have _:((c:Int) == 237)=true:=beq_iff_eq.2 (by omega);clear I G;have ac:=iw (lo:=128) (j:=1) (by omega);by_cases ad:s.size<k+2+1
      · have l:=ω (i.short (by omega));clear i;go_wp2;go_ret;exact⟨bA (by rw [<- C.z,l.z]),rfl⟩
      · go_wp2
        go_loop [2,6,7,8,68] (fun _ L M z _=>rS Y 2 128 159 L M z) (fun _ _ _ z _=>2+1 - (intOf z).toNat)
        case atStart=>exact⟨1,by omega,by omega,rfl,rfl,rfl,fun t h r=>by omega⟩
        case round=>
         obtain⟨j,S,ab,rfl,rfl,rfl,F⟩:=hrel;have D:=ω F;clear F;by_cases R:j<=2
         · have H:k+j<s.size:=by omega
           obtain⟨d,u⟩:∃ d:Nat,s[k+j].toNat=d:=⟨_,rfl⟩;have Z:d<256:=by rw [<- u]; exact s[k+j].toNat_lt
           have aa:∀ W,(Instr.index 9 (.string s) (.int .i64 ((k:Int)+(j:Int)))).run Tryz.prog W = .ok (.int .u8 (d:Int)) W:=fun W=>by
            have:=jo H u W;rw [Int.natCast_add] at this;exact this
           have B:=drop_at H u;rw [v.z] at B;have q:=ω (rT (lo:=128) (hi:=159) B);have T:=iw (lo:=128) (j:=j) (by omega);have O:=nJ (hi:=159) (j:=j) (by omega);obtain⟨x,J⟩:∃ x,mT 128 j=x:=⟨_,rfl⟩;obtain⟨y,K⟩:∃ y,jD 159 j=y:=⟨_,rfl⟩;rw [J] at q T |-;rw [K] at q O |-;clear u B J K;by_cases p:x<=d/\d<=y
           · have U:=ω (q.z.2 p);have h:=ω p.1;have r:=ω p.2;clear q p i v
             go_wp2_with fail
             refine Calls.mono (dh _ _ _ (by have:=h.z; omega) (by have:=r.z; omega) _) ?_;rintro e w' ⟨rfl,rfl⟩;go_wp2
             go_round
             case rel=>exact⟨j+1,by omega,by omega,by go_num,by unfold mT; rw [if_neg (by omega)]; rfl,by unfold jD; rw [if_neg (by omega)]; rfl,fun t h r=>by
              by_cases X:t<j
              · exact D.z t h X
              · obtain rfl:t=j:=by omega
                exact U.z⟩
             case measure=>simp [intOf]; omega
           · have l:=ω (i.bad j S R (fun N=>p (q.z.1 N)));have h:=ω (show (d:Int)<(x:Int)\/(y:Int)<(d:Int) by omega);clear q p i v
             go_wp2_with fail
             refine Calls.mono (eC _ _ _ h.z _) ?_;rintro e w' ⟨rfl,rfl⟩;go_wp2;go_ret;exact⟨bA (by rw [<- C.z,l.z]),rfl⟩
         · obtain rfl:j=2+1:=by omega
           have l:=ω (i.ok (by omega) (fun t h r=>D.z t h (by omega)));clear i;go_wp2
           go_round
           case rel=>exact⟨k+3,by omega,by go_num,by rw [<- C.z,<- List.drop_drop,v.z]; exact l.symm⟩
           case measure=>simp [intOf]; omega
    by_cases ke:224<=c/\c<=239
    · have i:=ω (Cls.of (m:=2) (lo:=128) (hi:=191) I G (by omega) (by unfold jU; rw [if_neg (by omega),if_neg (by omega),if_pos (by omega),if_neg (by omega),if_neg (by omega)]));have _:decide ((c:Int)<128)=false:=fQ (by omega);have _:decide ((194:Int)<=c)=true:=t7 (by omega);have _:decide ((c:Int)<=223)=false:=fQ (by omega);have _:decide ((224:Int)<=c)=true:=t7 (by omega);have _:decide ((c:Int)<=239)=true:=t7 (by omega);have _:((c:Int) == 224)=false:=by rw [beq_eq_false_iff_ne]; omega
      have _:((c:Int) == 237)=false:=by rw [beq_eq_false_iff_ne]; omega
      clear I G;have ac:=iw (lo:=128) (j:=1) (by omega);by_cases ad:s.size<k+2+1
      · have l:=ω (i.short (by omega));clear i;go_wp2;go_ret;exact⟨bA (by rw [<- C.z,l.z]),rfl⟩
      · go_wp2
        go_loop [2,6,7,8,68] (fun _ L M z _=>rS Y 2 128 191 L M z) (fun _ _ _ z _=>2+1 - (intOf z).toNat)
        case atStart=>exact⟨1,by omega,by omega,rfl,rfl,rfl,fun t h r=>by omega⟩
        case round=>
         obtain⟨j,S,ab,rfl,rfl,rfl,F⟩:=hrel;have D:=ω F;clear F;by_cases R:j<=2
         · have H:k+j<s.size:=by omega
           obtain⟨d,u⟩:∃ d:Nat,s[k+j].toNat=d:=⟨_,rfl⟩;have Z:d<256:=by rw [<- u]; exact s[k+j].toNat_lt
           have aa:∀ W,(Instr.index 9 (.string s) (.int .i64 ((k:Int)+(j:Int)))).run Tryz.prog W = .ok (.int .u8 (d:Int)) W:=fun W=>by
            have:=jo H u W;rw [Int.natCast_add] at this;exact this
           have B:=drop_at H u;rw [v.z] at B;have q:=ω (rT (lo:=128) (hi:=191) B);have T:=iw (lo:=128) (j:=j) (by omega);have O:=nJ (hi:=191) (j:=j) (by omega);obtain⟨x,J⟩:∃ x,mT 128 j=x:=⟨_,rfl⟩;obtain⟨y,K⟩:∃ y,jD 191 j=y:=⟨_,rfl⟩;rw [J] at q T |-;rw [K] at q O |-;clear u B J K;by_cases p:x<=d/\d<=y
           · have U:=ω (q.z.2 p);have h:=ω p.1;have r:=ω p.2;clear q p i v
             go_wp2_with fail
             refine Calls.mono (dh _ _ _ (by have:=h.z; omega) (by have:=r.z; omega) _) ?_;rintro e w' ⟨rfl,rfl⟩;go_wp2
             go_round
             case rel=>exact⟨j+1,by omega,by omega,by go_num,by unfold mT; rw [if_neg (by omega)]; rfl,by unfold jD; rw [if_neg (by omega)]; rfl,fun t h r=>by
              by_cases X:t<j
              · exact D.z t h X
              · obtain rfl:t=j:=by omega
                exact U.z⟩
             case measure=>simp [intOf]; omega
           · have l:=ω (i.bad j S R (fun N=>p (q.z.1 N)));have h:=ω (show (d:Int)<(x:Int)\/(y:Int)<(d:Int) by omega);clear q p i v
             go_wp2_with fail
             refine Calls.mono (eC _ _ _ h.z _) ?_;rintro e w' ⟨rfl,rfl⟩;go_wp2;go_ret;exact⟨bA (by rw [<- C.z,l.z]),rfl⟩
         · obtain rfl:j=2+1:=by omega
           have l:=ω (i.ok (by omega) (fun t h r=>D.z t h (by omega)));clear i;go_wp2
           go_round
           case rel=>exact⟨k+3,by omega,by go_num,by rw [<- C.z,<- List.drop_drop,v.z]; exact l.symm⟩
           case measure=>simp [intOf]; omega
    by_cases kf:c=240
    · have i:=ω (Cls.of (m:=3) (lo:=144) (hi:=191) I G (by omega) (by unfold jU; subst kf; rfl));have _:decide ((c:Int)<128)=false:=fQ (by omega);have _:decide ((194:Int)<=c)=true:=t7 (by omega);have _:decide ((c:Int)<=223)=false:=fQ (by omega);have _:decide ((224:Int)<=c)=true:=t7 (by omega);have _:decide ((c:Int)<=239)=false:=fQ (by omega);have _:decide ((240:Int)<=c)=true:=t7 (by omega);have _:decide ((c:Int)<=244)=true:=t7 (by omega);have _:((c:Int) == 240)=true:=beq_iff_eq.2 (by omega);have _:((c:Int) == 244)=false:=by rw [beq_eq_false_iff_ne]; omega
      clear I G;have ac:=iw (lo:=144) (j:=1) (by omega);by_cases ad:s.size<k+3+1
      · have l:=ω (i.short (by omega));clear i;go_wp2;go_ret;exact⟨bA (by rw [<- C.z,l.z]),rfl⟩
      · go_wp2
        go_loop [2,6,7,8,68] (fun _ L M z _=>rS Y 3 144 191 L M z) (fun _ _ _ z _=>3+1 - (intOf z).toNat)
        case atStart=>exact⟨1,by omega,by omega,rfl,rfl,rfl,fun t h r=>by omega⟩
        case round=>
         obtain⟨j,S,ab,rfl,rfl,rfl,F⟩:=hrel;have D:=ω F;clear F;by_cases R:j<=3
         · have H:k+j<s.size:=by omega
           obtain⟨d,u⟩:∃ d:Nat,s[k+j].toNat=d:=⟨_,rfl⟩;have Z:d<256:=by rw [<- u]; exact s[k+j].toNat_lt
           have aa:∀ W,(Instr.index 9 (.string s) (.int .i64 ((k:Int)+(j:Int)))).run Tryz.prog W = .ok (.int .u8 (d:Int)) W:=fun W=>by
            have:=jo H u W;rw [Int.natCast_add] at this;exact this
           have B:=drop_at H u;rw [v.z] at B;have q:=ω (rT (lo:=144) (hi:=191) B);have T:=iw (lo:=144) (j:=j) (by omega);have O:=nJ (hi:=191) (j:=j) (by omega);obtain⟨x,J⟩:∃ x,mT 144 j=x:=⟨_,rfl⟩;obtain⟨y,K⟩:∃ y,jD 191 j=y:=⟨_,rfl⟩;rw [J] at q T |-;rw [K] at q O |-;clear u B J K;by_cases p:x<=d/\d<=y
           · have U:=ω (q.z.2 p);have h:=ω p.1;have r:=ω p.2;clear q p i v
             go_wp2_with fail
             refine Calls.mono (dh _ _ _ (by have:=h.z; omega) (by have:=r.z; omega) _) ?_;rintro e w' ⟨rfl,rfl⟩;go_wp2
             go_round
             case rel=>exact⟨j+1,by omega,by omega,by go_num,by unfold mT; rw [if_neg (by omega)]; rfl,by unfold jD; rw [if_neg (by omega)]; rfl,fun t h r=>by
              by_cases X:t<j
              · exact D.z t h X
              · obtain rfl:t=j:=by omega
                exact U.z⟩
             case measure=>simp [intOf]; omega
           · have l:=ω (i.bad j S R (fun N=>p (q.z.1 N)));have h:=ω (show (d:Int)<(x:Int)\/(y:Int)<(d:Int) by omega);clear q p i v
             go_wp2_with fail
             refine Calls.mono (eC _ _ _ h.z _) ?_;rintro e w' ⟨rfl,rfl⟩;go_wp2;go_ret;exact⟨bA (by rw [<- C.z,l.z]),rfl⟩
         · obtain rfl:j=3+1:=by omega
           have l:=ω (i.ok (by omega) (fun t h r=>D.z t h (by omega)));clear i;go_wp2
           go_round
           case rel=>exact⟨k+4,by omega,by go_num,by rw [<- C.z,<- List.drop_drop,v.z]; exact l.symm⟩
           case measure=>simp [intOf]; omega
    by_cases kh:c=244
    · have i:=ω (Cls.of (m:=3) (lo:=128) (hi:=143) I G (by omega) (by unfold jU; subst kh; rfl));have _:decide ((c:Int)<128)=false:=fQ (by omega);have _:decide ((194:Int)<=c)=true:=t7 (by omega);have _:decide ((c:Int)<=223)=false:=fQ (by omega);have _:decide ((224:Int)<=c)=true:=t7 (by omega);have _:decide ((c:Int)<=239)=false:=fQ (by omega);have _:decide ((240:Int)<=c)=true:=t7 (by omega);have _:decide ((c:Int)<=244)=true:=t7 (by omega);have _:((c:Int) == 240)=false:=by rw [beq_eq_false_iff_ne]; omega
      have _:((c:Int) == 244)=true:=beq_iff_eq.2 (by omega);clear I G;have ac:=iw (lo:=128) (j:=1) (by omega);by_cases ad:s.size<k+3+1
      · have l:=ω (i.short (by omega));clear i;go_wp2;go_ret;exact⟨bA (by rw [<- C.z,l.z]),rfl⟩
      · go_wp2
        go_loop [2,6,7,8,68] (fun _ L M z _=>rS Y 3 128 143 L M z) (fun _ _ _ z _=>3+1 - (intOf z).toNat)
        case atStart=>exact⟨1,by omega,by omega,rfl,rfl,rfl,fun t h r=>by omega⟩
        case round=>
         obtain⟨j,S,ab,rfl,rfl,rfl,F⟩:=hrel;have D:=ω F;clear F;by_cases R:j<=3
         · have H:k+j<s.size:=by omega
           obtain⟨d,u⟩:∃ d:Nat,s[k+j].toNat=d:=⟨_,rfl⟩;have Z:d<256:=by rw [<- u]; exact s[k+j].toNat_lt
           have aa:∀ W,(Instr.index 9 (.string s) (.int .i64 ((k:Int)+(j:Int)))).run Tryz.prog W = .ok (.int .u8 (d:Int)) W:=fun W=>by
            have:=jo H u W;rw [Int.natCast_add] at this;exact this
           have B:=drop_at H u;rw [v.z] at B;have q:=ω (rT (lo:=128) (hi:=143) B);have T:=iw (lo:=128) (j:=j) (by omega);have O:=nJ (hi:=143) (j:=j) (by omega);obtain⟨x,J⟩:∃ x,mT 128 j=x:=⟨_,rfl⟩;obtain⟨y,K⟩:∃ y,jD 143 j=y:=⟨_,rfl⟩;rw [J] at q T |-;rw [K] at q O |-;clear u B J K;by_cases p:x<=d/\d<=y
           · have U:=ω (q.z.2 p);have h:=ω p.1;have r:=ω p.2;clear q p i v
             go_wp2_with fail
             refine Calls.mono (dh _ _ _ (by have:=h.z; omega) (by have:=r.z; omega) _) ?_;rintro e w' ⟨rfl,rfl⟩;go_wp2
             go_round
             case rel=>exact⟨j+1,by omega,by omega,by go_num,by unfold mT; rw [if_neg (by omega)]; rfl,by unfold jD; rw [if_neg (by omega)]; rfl,fun t h r=>by
              by_cases X:t<j
              · exact D.z t h X
              · obtain rfl:t=j:=by omega
                exact U.z⟩
             case measure=>simp [intOf]; omega
           · have l:=ω (i.bad j S R (fun N=>p (q.z.1 N)));have h:=ω (show (d:Int)<(x:Int)\/(y:Int)<(d:Int) by omega);clear q p i v
             go_wp2_with fail
             refine Calls.mono (eC _ _ _ h.z _) ?_;rintro e w' ⟨rfl,rfl⟩;go_wp2;go_ret;exact⟨bA (by rw [<- C.z,l.z]),rfl⟩
         · obtain rfl:j=3+1:=by omega
           have l:=ω (i.ok (by omega) (fun t h r=>D.z t h (by omega)));clear i;go_wp2
           go_round
           case rel=>exact⟨k+4,by omega,by go_num,by rw [<- C.z,<- List.drop_drop,v.z]; exact l.symm⟩
           case measure=>simp [intOf]; omega
    by_cases kg:240<=c/\c<=244
    · have i:=ω (Cls.of (m:=3) (lo:=128) (hi:=191) I G (by omega) (by unfold jU; rw [if_neg (by omega),if_neg (by omega),if_neg (by omega),if_pos (by omega),if_neg (by omega),if_neg (by omega)]));have _:decide ((c:Int)<128)=false:=fQ (by omega);have _:decide ((194:Int)<=c)=true:=t7 (by omega);have _:decide ((c:Int)<=223)=false:=fQ (by omega);have _:decide ((224:Int)<=c)=true:=t7 (by omega);have _:decide ((c:Int)<=239)=false:=fQ (by omega);have _:decide ((240:Int)<=c)=true:=t7 (by omega);have _:decide ((c:Int)<=244)=true:=t7 (by omega);have _:((c:Int) == 240)=false:=by rw [beq_eq_false_iff_ne]; omega
      have _:((c:Int) == 244)=false:=by rw [beq_eq_false_iff_ne]; omega
      clear I G;have ac:=iw (lo:=128) (j:=1) (by omega);by_cases ad:s.size<k+3+1
      · have l:=ω (i.short (by omega));clear i;go_wp2;go_ret;exact⟨bA (by rw [<- C.z,l.z]),rfl⟩
      · go_wp2
        go_loop [2,6,7,8,68] (fun _ L M z _=>rS Y 3 128 191 L M z) (fun _ _ _ z _=>3+1 - (intOf z).toNat)
        case atStart=>exact⟨1,by omega,by omega,rfl,rfl,rfl,fun t h r=>by omega⟩
        case round=>
         obtain⟨j,S,ab,rfl,rfl,rfl,F⟩:=hrel;have D:=ω F;clear F;by_cases R:j<=3
         · have H:k+j<s.size:=by omega
           obtain⟨d,u⟩:∃ d:Nat,s[k+j].toNat=d:=⟨_,rfl⟩;have Z:d<256:=by rw [<- u]; exact s[k+j].toNat_lt
           have aa:∀ W,(Instr.index 9 (.string s) (.int .i64 ((k:Int)+(j:Int)))).run Tryz.prog W = .ok (.int .u8 (d:Int)) W:=fun W=>by
            have:=jo H u W;rw [Int.natCast_add] at this;exact this
           have B:=drop_at H u;rw [v.z] at B;have q:=ω (rT (lo:=128) (hi:=191) B);have T:=iw (lo:=128) (j:=j) (by omega);have O:=nJ (hi:=191) (j:=j) (by omega);obtain⟨x,J⟩:∃ x,mT 128 j=x:=⟨_,rfl⟩;obtain⟨y,K⟩:∃ y,jD 191 j=y:=⟨_,rfl⟩;rw [J] at q T |-;rw [K] at q O |-;clear u B J K;by_cases p:x<=d/\d<=y
           · have U:=ω (q.z.2 p);have h:=ω p.1;have r:=ω p.2;clear q p i v
             go_wp2_with fail
             refine Calls.mono (dh _ _ _ (by have:=h.z; omega) (by have:=r.z; omega) _) ?_;rintro e w' ⟨rfl,rfl⟩;go_wp2
             go_round
             case rel=>exact⟨j+1,by omega,by omega,by go_num,by unfold mT; rw [if_neg (by omega)]; rfl,by unfold jD; rw [if_neg (by omega)]; rfl,fun t h r=>by
              by_cases X:t<j
              · exact D.z t h X
              · obtain rfl:t=j:=by omega
                exact U.z⟩
             case measure=>simp [intOf]; omega
           · have l:=ω (i.bad j S R (fun N=>p (q.z.1 N)));have h:=ω (show (d:Int)<(x:Int)\/(y:Int)<(d:Int) by omega);clear q p i v
             go_wp2_with fail
             refine Calls.mono (eC _ _ _ h.z _) ?_;rintro e w' ⟨rfl,rfl⟩;go_wp2;go_ret;exact⟨bA (by rw [<- C.z,l.z]),rfl⟩
         · obtain rfl:j=3+1:=by omega
           have l:=ω (i.ok (by omega) (fun t h r=>D.z t h (by omega)));clear i;go_wp2
           go_round
           case rel=>exact⟨k+4,by omega,by go_num,by rw [<- C.z,<- List.drop_drop,v.z]; exact l.symm⟩
           case measure=>simp [intOf]; omega
    have l:=ω (Dt I G (by omega) (by
     unfold jU;by_cases h:c<194
     · rw [if_pos h]
     · rw [if_neg h,if_neg (by omega),if_neg (by omega),if_neg (by omega)]))
    have e0:decide ((c:Int)<128)=false:=fQ (by omega);by_cases kq:c<194
    · have e1:decide ((194:Int)<=c)=false:=fQ (by omega);have e2:decide ((224:Int)<=c)=false:=fQ (by omega);have e3:decide ((240:Int)<=c)=false:=fQ (by omega);clear I G v;go_wp2;go_ret;exact⟨bA (by rw [<- C.z,l.z]),rfl⟩
    · have e1:decide ((194:Int)<=c)=true:=t7 (by omega);have e2:decide ((224:Int)<=c)=true:=t7 (by omega);have e3:decide ((240:Int)<=c)=true:=t7 (by omega);have e4:decide ((c:Int)<=223)=false:=fQ (by omega);have e5:decide ((c:Int)<=239)=false:=fQ (by omega);have e6:decide ((c:Int)<=244)=false:=fQ (by omega);clear I G v;go_wp2;go_ret;exact⟨bA (by rw [<- C.z,l.z]),rfl⟩
  · obtain rfl:k=s.size:=by omega
    have l:=ω (show validD s.data.toList=true by rw [<- hv,List.drop_of_length_le (by rw [Array.length_toList]; exact lQ)]; rfl);clear hv;go_wp2;go_ret;exact⟨bA (by rw [l.z]),rfl⟩
abbrev Ext (w w':World):Prop:=Below w w w'
theorem Ext.trans {a b c:World} (h:Ext a b) (k:Ext b c):Ext a c:=Below.trans h (k.mono h.size)
theorem gH {w w':World} {a:Addr} {v:Value} (h:w.cell? a=some v) (c:Ext w w'):w'.cell? a=some v:=(c.cell (block_lt_of_cell h)).trans h
section
variable {P:Program} {ops:Array Oper} {V:Nat->Value->World->Prop} {a0:Act} {w0:World}
structure RInv (ops:Array Oper) (V:Nat->Value->World->Prop) (a0:Act) (w0:World) (listed:Array Bool) (a:Act) (w:World):Prop where
 le:Ext w0 w
 size:a.tmps.size=a0.tmps.size
 defers:a.defers=a0.defers
 keep:∀ t,(∀ (i:Nat) (o:Oper),ops[i]? = some o->o.dst≠some t)->a.tmps[t]? = a0.tmps[t]?
 done:∀ (i:Nat) (o:Oper) t,ops[i]? = some o->listed.getD i false=true->o.dst=some t->∃ u,a.tmps[t]? = some u/\V i u w
def BN (ops:Array Oper) (n:Nat):Bool:=
 (List.range ops.size).all fun i=>match ops[i]? with
  | some o=>(match o.dst with | some t=>decide (t<n) && (List.range i).all (fun j=>match ops[j]? with | some p=>p.dst != some t | none=>true) | none=>true) && o.after.all (fun e=>decide (e.on<i))
  | none=>true
theorem l7 {n:Nat} (h:BN ops n=true) {i:Nat} {o:Oper} (f:ops[i]? = some o) :
 (∀ t,o.dst=some t->t<n/\∀ (j:Nat) (p:Oper),ops[j]? = some p->j<i->p.dst≠some t)/\∀ e ∈ o.after,e.on<i:=by
 unfold BN at h;rw [List.all_eq_true] at h;have q:i<ops.size:=(Array.getElem?_eq_some_iff.1 f).1;have c:=h i (List.mem_range.2 q);rw [f] at c;simp only [Bool.and_eq_true] at c;obtain⟨c,l⟩:=c;refine⟨fun t v=>?_,fun e m=>?_⟩
 · rw [v] at c;simp only [Bool.and_eq_true,decide_eq_true_eq] at c;refine⟨c.1,fun j p u r=>?_⟩;have d:=List.all_eq_true.1 c.2 j (List.mem_range.2 r);rw [u] at d;simpa using d
 · have:=(Array.all_eq_true_iff_forall_mem.1 l) e m;simpa using this
theorem iP {n:Nat} (j:BN ops n=true) {c:Array Bool} (t:c.size=ops.size) (p:Region.ready .any ops c=[]):∀ i,i<ops.size->c.getD i false=true:=by
 intro i
 induction i using Nat.strongRecOn with
 | _ i r=>
  intro m;have h:ops[i]? = some ops[i]:=Array.getElem?_eq_getElem m;by_cases d:c.getD i false=true
  · exact d
  · exfalso
    have f:i ∈ Region.ready .any ops c:=mem_ready.2 ⟨by
     have q:c[i]? = some c[i]:=Array.getElem?_eq_getElem (by omega);rw [Array.getD_eq_getD_getElem?,q] at d |-;simpa using d,_,h,fun e l _=>?_⟩
    · rw [p] at f; cases f
    · have hlt:=(l7 j h).2 e l;exact r e.on hlt (by omega)
def Oq (ops:Array Oper) (t:Tmp):Bool:=ops.all fun o=>o.dst != some t
theorem GQ {t:Tmp} (h:Oq ops t=true) (i:Nat) (o:Oper) (c:ops[i]? = some o):o.dst≠some t:=by
 have:=(Array.all_eq_true_iff_forall_mem.1 h) o (Array.mem_of_getElem? c);simpa using this
def waitsFor (o:Oper) (j:Nat):Bool:=o.after.any fun e=>e.on == j && Region.binds .any e
def NP (P:Program) (ops:Array Oper) (V:Nat->Value->World->Prop) (a0:Act) (w0:World) (Q:Exit->Act->World->Prop) (i:Nat) (o:Oper):Prop:=
 ∀ (a:Act) (w:World),Ext w0 w->(∀ t v,a0.tmps[t]? = some v->Oq ops t=true->a.tmps[t]? = some v) ->
  (∀ (j:Nat) (p:Oper) t,ops[j]? = some p->p.dst=some t->waitsFor o j=true->∃ u,a.tmps[t]? = some u/\V j u w) ->
  o.guard=none/\o.wp P a w (fun c w'=>∃ u,c=a.put o.dst u/\Ext w w'/\V i u w') Q
theorem RInv.step {n:Nat} (m:BN ops n=true) (F:a0.tmps.size=n) (B:∀ i u w w',V i u w->Ext w w'->V i u w') {l:Array Bool} {a:Act} {w:World} (K:l.size=ops.size)
 (h:RInv ops V a0 w0 l a w) {i:Nat} {o:Oper} (f:ops[i]? = some o) {u:Value} {w':World} (v:Ext w w') (H:V i u w'):RInv ops V a0 w0 (l.setIfInBounds i true) (a.put o.dst u) w':=by
 have J:i<ops.size:=(Array.getElem?_eq_some_iff.1 f).1
 have r:∀ t,o.dst≠some t->(a.put o.dst u).tmps[t]? = a.tmps[t]?:=by
  intro t c;unfold Act.put
  cases C:o.dst with
  | none=>rfl
  | some y=>
   have G:y≠t:=fun e=>c (by rw [C,e]);simp [Array.getElem?_setIfInBounds,G]
 refine⟨h.le.trans v,?_,?_,fun t c=>?_,fun j x t d q c=>?_⟩
 · unfold Act.put; split <;> simp [h.size]
 · unfold Act.put; split <;> simp [h.defers]
 · rw [r t (c i o f)]; exact h.keep t c
 · by_cases p:i=j
   · subst p;rw [f] at d; injection d with d; subst d;have hlt:=((l7 m f).1 t c).1;refine⟨u,?_,H⟩;unfold Act.put;rw [c];simp only [Array.getElem?_setIfInBounds];rw [if_pos trivial,if_pos (by rw [h.size,F]; exact hlt)]
   · have D:l.getD j false=true:=by
      rw [Array.getD_eq_getD_getElem?] at q |-;rw [Array.getElem?_setIfInBounds,if_neg p] at q;exact q
     obtain⟨I,z,A⟩:=h.done j x t d D c;refine⟨I,?_,B _ _ _ _ A v⟩;rw [r t ?_]; exact z;intro e;rcases Nat.lt_or_gt_of_ne p with hlt | hlt
     · exact ((l7 m d).1 t c).2 i o f hlt e
     · exact ((l7 m f).1 t e).2 j x d hlt c
theorem count_set:∀ (l:List Bool) (i:Nat),l[i]? = some false->((l.set i true).filter (! ·)).length+1=(l.filter (! ·)).length
 | [],i,h=>by simp at h
 | x :: l,0,h=>by
  have c:x=false:=by simpa using h
  subst c; simp
 | x :: l,i+1,h=>by
  have d:=count_set l i (by simpa using h);cases x <;> simp <;> omega
theorem tI {n:Nat} {Q:Exit->Act->World->Prop} (q:BN ops n=true) (r:a0.tmps.size=n) (z:∀ i u w w',V i u w->Ext w w'->V i u w')
 (D:∀ (i:Nat) (o:Oper),ops[i]? = some o->NP P ops V a0 w0 Q i o)
 (v:∀ a w,(∀ c,(∀ i,i<ops.size->c.getD i false=true)->RInv ops V a0 w0 c a w->Q .normal a w)) :
 ∀ (p:Nat) (c:Array Bool) (a:Act) (w:World),c.size=ops.size->(c.toList.filter (! ·)).length<=p->RInv ops V a0 w0 c a w->wpAny P .any ops Q p c a w
 | 0,c,a,w,m,H,h=>by
  have j:Region.ready .any ops c=[]:=by
   cases j:Region.ready .any ops c with
   | nil=>rfl
   | cons i W=>
    exfalso;have J:i ∈ Region.ready .any ops c:=by rw [j]; exact List.mem_cons_self
    obtain⟨l,o,f,_⟩:=mem_ready.1 J;have A:i<ops.size:=(Array.getElem?_eq_some_iff.1 f).1;have t:c[i]? = some c[i]:=Array.getElem?_eq_getElem (by omega);rw [Array.getD_eq_getD_getElem?,t] at l;have d:false ∈ c.toList.filter (! ·):=List.mem_filter.2 ⟨by rw [<- show c[i]=false from by simpa using l]; exact Array.getElem_mem_toList (by omega),rfl⟩;have:=List.length_pos_of_mem d;omega
  exact⟨j,v a w c (iP q m j) h⟩
 | p+1,c,a,w,m,H,h=>by
  refine⟨fun j=>v a w c (iP q m j) h,fun i A=>?_⟩;obtain⟨l,o,f,F⟩:=mem_ready.1 A;have T:i<ops.size:=(Array.getElem?_eq_some_iff.1 f).1
  have C:=D i o f a w h.le (fun x X N r=>by rw [h.keep x (fun i o f=>GQ r i o f)]; exact N) (fun U R x K L B=>by
   unfold waitsFor at B;obtain⟨e,G,d⟩:=Array.any_eq_true'.1 B;simp only [Bool.and_eq_true,beq_iff_eq] at d;obtain⟨d,y⟩:=d;subst d;exact h.done e.on R x K (F e G y) L)
  unfold wpOp;rw [f];simp only [Region.wanted,C.1,if_true];refine .inl (Oper.wp_mono (fun S w' I=>?_) C.2);obtain⟨u,rfl,O,M⟩:=I;refine tI q r z D v p _ _ _ (by simpa using m) ?_ (h.step q r z m f O M);have t:c[i]? = some c[i]:=Array.getElem?_eq_getElem (by omega);rw [Array.getD_eq_getD_getElem?,t] at l
  have d:c.toList[i]? = some false:=by
   rw [Array.getElem?_toList,t];simpa using l
  have y:=count_set c.toList i d;simp only [Array.toList_setIfInBounds];omega
structure Cy (ops:Array Oper) (V:Nat->Value->World->Prop) (a0:Act) (w0:World) (a:Act) (w:World):Prop where
 le:Ext w0 w
 size:a.tmps.size=a0.tmps.size
 defers:a.defers=a0.defers
 keep:∀ t,(∀ (i:Nat) (o:Oper),ops[i]? = some o->o.dst≠some t)->a.tmps[t]? = a0.tmps[t]?
 done:∀ (i:Nat) (o:Oper) t,ops[i]? = some o->o.dst=some t->∃ u,a.tmps[t]? = some u/\V i u w
theorem zE {v:Nat} {n:Nat} {Q:Exit->Act->World->Prop} (m:P.follows .mixedOrders=true) (V:Nat->Value->World->Prop) (f:BN ops n=true) (p:a0.tmps.size=n) (l:∀ i u w w',V i u w->Ext w w'->V i u w')
 (q:∀ (i:Nat) (o:Oper),ops[i]? = some o->NP P ops V a0 w0 Q i o) (j:∀ a w,Cy ops V a0 w0 a w->Q .normal a w):(Code.region v ops true).wp P Q a0 w0:=by
 refine wp_region_any m (tI f p l q (fun a w x c h=>j a w ⟨h.le,h.size,h.defers,h.keep,fun i o t d r=>h.done i o t d (c i (Array.getElem?_eq_some_iff.1 d).1) r⟩) ops.size (Array.replicate ops.size false) a0 _ (by simp) ?_ ?_)
 · exact v6 (List.length_filter_le _ _) (by simp)
 · refine⟨⟨rfl,rfl,rfl,lQ,fun _ _=>rfl⟩,rfl,rfl,fun _ _=>rfl,fun i o t d c _=>?_⟩;rw [Array.getD_eq_getD_getElem?,Array.getElem?_replicate] at c
   split at c <;> simp at c
def Iz (P:Program) (ops:Array Oper) (V:Nat->Value->World->Prop) (a0:Act) (w0:World) (Q:Exit->Act->World->Prop):Nat->List Oper->Prop
 | _,[]=>True
 | i,o :: l=>NP P ops V a0 w0 Q i o/\Iz P ops V a0 w0 Q (i+1) l
theorem Iz.all {Q:Exit->Act->World->Prop}:∀ {l:List Oper} {k:Nat},Iz P ops V a0 w0 Q k l->∀ (i:Nat) (o:Oper),l[i]? = some o->NP P ops V a0 w0 Q (k+i) o
 | [],_,_,i,o,h=>by simp at h
 | x :: l,k,c,0,o,h=>by
  have e:x=o:=by simpa using h
  subst e; exact c.1
 | x :: l,k,c,i+1,o,h=>by
  have:=c.2.all i o (by simpa using h);rwa [show k+(i+1)=k+1+i from by omega]
theorem oM {q:Nat} {n:Nat} {l:List Oper} {Q:Exit->Act->World->Prop} (h:P.follows .mixedOrders=true) (V:Nat->Value->World->Prop) (c:BN l.toArray n=true) (j:a0.tmps.size=n) (f:∀ i u w w',V i u w->Ext w w'->V i u w')
 (p:Iz P l.toArray V a0 w0 Q 0 l) (d:∀ a w,Cy l.toArray V a0 w0 a w->Q .normal a w):(Code.region q l.toArray true).wp P Q a0 w0:=
 zE h V c j f (fun i o m=>by
  have:=p.all i o (by simpa using m);rwa [Nat.zero_add] at this) d
theorem Bg (f:Nat->Value):∀ (j:List Nat) (h:Array Value) (i:Nat),(j.foldl (fun t d=>t.setIfInBounds d (f d)) h)[i]? = if i ∈ j/\i<h.size then some (f i) else h[i]?
 | [],h,i=>by simp
 | d :: j,h,i=>by
  rw [List.foldl_cons,Bg f j,Array.getElem?_setIfInBounds,Array.size_setIfInBounds];by_cases l:i<h.size
  · by_cases m:i ∈ j
    · simp [m,l]
    · by_cases c:d=i
      · subst c; simp [m,l]
      · have p:¬ i=d:=fun e=>c e.symm;simp [m,c,p]
  · by_cases c:d=i
    · subst c;simp [l]
    · simp [l,c]
theorem Cy.frame {a:Act} {w:World} (h:Cy ops V a0 w0 a w) (c:List Nat) (r:ops.toList.filterMap (·.dst)=c):a = { tmps:=c.foldl (fun t d=>t.setIfInBounds d ((a.tmps[d]?).getD undef)) a0.tmps,defers:=a0.defers }:=by
 obtain⟨t,d⟩:=a;have p:=h.size;have j:=h.defers;have l:=h.keep;simp only at p j l;subst j
 congr 1
 apply Array.ext_getElem?
 intro i;rw [Bg (fun d=>(t[d]?).getD undef) c a0.tmps i];by_cases m:i<a0.tmps.size
 · by_cases f:i ∈ c
   · rw [if_pos ⟨f,m⟩,Array.getElem?_eq_getElem (by omega)]; rfl
   · rw [if_neg (fun h=>f h.1)];refine l i (fun v o u q=>f ?_);rw [<- r];exact List.mem_filterMap.2 ⟨o,Array.mem_toList_iff.2 (Array.mem_of_getElem? u),q⟩
 · rw [if_neg (fun h=>m h.2),Array.getElem?_eq_none (by omega),Array.getElem?_eq_none (by omega)]
theorem Cy.frame' {a:Act} {w:World} (h:Cy ops V a0 w0 a w) (c:List Nat) (m:ops.toList.filterMap (·.dst)=c) :
 ∃ f:Nat->Value,a = { tmps:=c.foldl (fun t d=>t.setIfInBounds d (f d)) a0.tmps,defers:=a0.defers }/\∀ (i:Nat) (o:Oper) t,ops[i]? = some o->o.dst=some t->V i (f t) w:=
 ⟨fun d=>(a.tmps[d]?).getD undef,h.frame c m,fun i o t p q=>by
  obtain⟨u,j,l⟩:=h.done i o t p q;simp only [j,Option.getD_some];exact l⟩
end
def Qm (s:ByteArray) (n u i:Value):Prop:=∃ (k acc p:Nat),k<=9/\k<=s.size/\acc<128 ^ k/\p=128 ^ k/\p<=9223372036854775808/\acc<p/\i = .int .i64 k/\n = .int .u64 acc/\u = .int .u64 p/\rdNum s=rdB s (10 - k) k acc
theorem JX (s:ByteArray) (w:World) (hs:s.size<=9223372036854775807) :
 ψ 87 #[s] w (qy s w):=by
 go_enter Tryz.func87,Tryz.ntmps87;go_wp2
 go_loop [2,3,4,5,6,7,8] (fun _ _ _ n X y _=>Qm s n X y) (fun _ _ _ _ _ y _=>10 - (intOf y).toNat)
 case atStart=>exact⟨0,0,1,by omega,by omega,by decide,rfl,by omega,by omega,rfl,rfl,rfl,rfl⟩
 case round=>
  obtain⟨k,Z,ad,hk,ab,ha,I,ac,aa,rfl,rfl,rfl,J⟩:=hrel;have l:=ω J;have z:=ω ha;have u:=ω I;clear J ha I;by_cases q:k<s.size
  · have T:((k:Int) == s.size)=false:=by simp; omega
    obtain⟨c,p⟩:∃ c:Nat,s[k].toNat=c:=⟨_,rfl⟩;have H:c<256:=by rw [<- p]; exact s[k].toNat_lt
    have B:=jo q p;have r:=ω p;clear p;have form:=fun (h:(k=9/\1<c)\/(0<k/\c=0))=>qy.mk' (w:=w) (l.trans (Fh (by omega) q r.z h));have L:=fun (h:¬ ((k=9/\1<c)\/(0<k/\c=0))) (x:c<128)=>qy.mk' (w:=w) (l.trans (Fi (by omega) q r.z h x));have more:=fun (h:¬ ((k=9/\1<c)\/(0<k/\c=0))) (x:¬ c<128)=>l.trans (Fj (by omega) q r.z h x);have step:=fun (d:k=9->c<=1)=>Mr (k:=k) (by omega) H d z.z u.z;have N:=fun (d:k=9->c<=1)=>(zP (k:=k) (by omega) H d z.z).2;have M:=fun (d:k<9)=>Ms d;have m:=ω step;have F:=ω N;have G:=ω M;have O:=ω form;have C:=ω L;have D:=ω more;clear form L more step N M;by_cases K:k=0
    · subst K;have Y:∀ W:World,(Instr.index 9 (.string s) (.int .i64 0)).run Tryz.prog W = .ok (.int .u8 (c:Int)) W:=B;clear B;by_cases R:1<=c
      all_goals first | (have v:((c:Int) == 0)=true:=by simp; omega) | (have v:((c:Int) == 0)=false:=by simp; omega)
      all_goals go_wp2
      all_goals first
       | (have st:=m.z (by omega); go_ret3; rw [st]; exact C.z (by omega) (by omega))
       | (have st:=m.z (by omega); have j:=F.z (by omega); have i:=G.z (by omega); exact⟨⟨1,_,_,by omega,by omega,j.1,rfl,i.2,j.1,rfl,congrArg (Value.int .u64) st,congrArg (Value.int .u64) (by rw [u.z]; exact i.1),D.z (by omega) (by omega)⟩,by simp only [intOf]; omega⟩)
    have k1:1<=k:=by omega
    clear K;by_cases b9:9<=k <;> by_cases R:1<=c
    all_goals first | (have S:((k:Int) == 9)=true:=by simp; omega) | (have S:((k:Int) == 9)=false:=by simp; omega)
    all_goals first | (have v:((c:Int) == 0)=true:=by simp; omega) | (have v:((c:Int) == 0)=false:=by simp; omega)
    all_goals go_wp2
    all_goals first
     | (go_ret3; exact O.z (by omega))
     | (have st:=m.z (by omega); go_ret3; rw [st]; exact C.z (by omega) (by omega))
     | (have st:=m.z (by omega); have j:=F.z (by omega); have i:=G.z (by omega); exact⟨⟨k+1,_,_,by omega,by omega,j.1,rfl,i.2,j.1,by go_num,congrArg (Value.int .u64) st,congrArg (Value.int .u64) (by rw [u.z]; exact i.1),D.z (by omega) (by omega)⟩,by simp only [intOf]; omega⟩)
  · have T:((k:Int) == s.size)=true:=by simp; omega
    have U:=ω (qy.mk' (w:=w) (l.trans (Cz (by omega) (by omega))));go_wp2
    go_ret3
    exact U
theorem Bi {s:ByteArray} {a k e:Nat} (h:rdNum s=(a,k,e)) (w:World) (i:s.size<=9223372036854775807) :
 ψ 87 #[s] w fun x w'=>x = .returned (.tuple #[.int .u64 (a:Int),(k:Int),(e:Int)])/\w=w':=
 (JX s w i).mono fun _ _ ⟨c,d⟩=>⟨by rw [c,GR h],d⟩
def aD (s:ByteArray) (i:Nat):Nat:=(s.data.toList.getD i 0).toNat
theorem IN {s:ByteArray} {i:Nat} (h:i<s.size):aD s i=s[i].toNat:=by
 unfold aD;rw [List.getD_eq_getElem?_getD,List.getElem?_eq_getElem (by simpa using h)];rfl
theorem qE (s:ByteArray) (i:Nat):aD s i<256:=(s.data.toList.getD i 0).toNat_lt
def mY (s:ByteArray):Nat:=
 if 0<s.size/\aD s 0≠66 then 4
 else if 1<s.size/\aD s 1≠75 then 4
 else if 2<s.size/\(aD s 2<1\/3<aD s 2) then 1
 else if 3<s.size/\(aD s 3<1\/4<aD s 3) then 1
 else if s.size<4 then 3 else 0
structure iS (s:ByteArray) (k:Nat):Prop where
 h0:0<k->0<s.size/\aD s 0=66
 h1:1<k->1<s.size/\aD s 1=75
 h2:2<k->2<s.size/\1<=aD s 2/\aD s 2<=3
 h3:3<k->3<s.size/\1<=aD s 3/\aD s 3<=4
theorem iS.zero (s:ByteArray):iS s 0:=⟨fun h=>absurd h (by omega),fun h=>absurd h (by omega),fun h=>absurd h (by omega),fun h=>absurd h (by omega)⟩
section
variable {s:ByteArray}
theorem Kl (h:0<s.size) (c:aD s 0≠66):mY s=4:=by unfold mY; rw [if_pos ⟨h,c⟩]
theorem Km (d:iS s 1) (h:1<s.size) (c:aD s 1≠75):mY s=4:=by
 have:=d.h0 (by omega);unfold mY; rw [if_neg (by omega),if_pos ⟨h,c⟩]
theorem Kn (c:iS s 2) (h:2<s.size) (d:aD s 2<1\/3<aD s 2):mY s=1:=by
 have:=c.h0 (by omega);have:=c.h1 (by omega);unfold mY; rw [if_neg (by omega),if_neg (by omega),if_pos ⟨h,d⟩]
theorem Ko (c:iS s 3) (h:3<s.size) (d:aD s 3<1\/4<aD s 3):mY s=1:=by
 have:=c.h0 (by omega);have:=c.h1 (by omega);have:=c.h2 (by omega);unfold mY; rw [if_neg (by omega),if_neg (by omega),if_neg (by omega),if_pos ⟨h,d⟩]
theorem pB {k:Nat} (c:iS s k) (j:s.size<=k) (h:s.size<4):mY s=3:=by
 have a0:=c.h0;have d:=c.h1;have f:=c.h2;have i:=c.h3;unfold mY;rw [if_neg (by omega),if_neg (by omega),if_neg (by omega),if_neg (by omega),if_pos h]
theorem zI (c:iS s 4):mY s=0/\4<=s.size:=by
 have a0:=c.h0 (by omega);have d:=c.h1 (by omega);have f:=c.h2 (by omega);have h:=c.h3 (by omega);unfold mY;rw [if_neg (by omega),if_neg (by omega),if_neg (by omega),if_neg (by omega),if_neg (by omega)];exact⟨rfl,by omega⟩
theorem JM (h:mY s=0):iS s 4:=by
 unfold mY at h;by_cases c0:0<s.size/\aD s 0≠66
 · rw [if_pos c0] at h; omega
 rw [if_neg c0] at h;by_cases c:1<s.size/\aD s 1≠75
 · rw [if_pos c] at h; omega
 rw [if_neg c] at h;by_cases c2:2<s.size/\(aD s 2<1\/3<aD s 2)
 · rw [if_pos c2] at h; omega
 rw [if_neg c2] at h;by_cases d:3<s.size/\(aD s 3<1\/4<aD s 3)
 · rw [if_pos d] at h; omega
 rw [if_neg d] at h;by_cases c4:s.size<4
 · rw [if_pos c4] at h; omega
 exact⟨fun _=>by omega,fun _=>by omega,fun _=>by omega,fun _=>by omega⟩
end
structure cL where
 ver:Nat
 kind:Nat
 pay:ByteArray
def cL.zero:cL:=⟨0,0,⟨#[]⟩⟩
def jF (s:ByteArray):cL × Nat × Nat:=
 if mY s=0 then
  match rdNum (s.extract 4 s.size) with
  | (n,k,e)=>
   if e=0 then
    if 6000<n then (.zero,0,2)
    else if s.size<8+k+n then (.zero,0,3)
    else if (s.extract (4+k+n) (8+k+n)).data.toList=pC (s.extract 0 (4+k+n)).data.toList then (⟨aD s 2,aD s 3,s.extract (4+k) (4+k+n)⟩,8+k+n,0)
    else (.zero,0,5)
   else (.zero,0,e)
 else (.zero,0,mY s)
section
variable {s:ByteArray} {n k e:Nat}
theorem BV {c:Nat} (h:mY s=c) (d:c≠0):jF s=(.zero,0,c):=by subst h; unfold jF; rw [if_neg d]
theorem DI (h:mY s=0) (d:rdNum (s.extract 4 s.size)=(n,k,e)) (c:e≠0):jF s=(.zero,0,e):=by unfold jF; rw [if_pos h,d]; simp only; rw [if_neg c]
theorem zX (h:mY s=0) (d:rdNum (s.extract 4 s.size)=(n,k,0)) (c:6000<n):jF s=(.zero,0,2):=by unfold jF; rw [if_pos h,d]; simp only; rw [if_pos trivial,if_pos c]
theorem zY (h:mY s=0) (d:rdNum (s.extract 4 s.size)=(n,k,0)) (c:¬ 6000<n) (f:s.size<8+k+n):jF s=(.zero,0,3):=by unfold jF; rw [if_pos h,d]; simp only; rw [if_pos trivial,if_neg c,if_pos f]
theorem DH (h:mY s=0) (f:rdNum (s.extract 4 s.size)=(n,k,0)) (d:¬ 6000<n) (i:¬ s.size<8+k+n) (c:¬ (s.extract (4+k+n) (8+k+n)).data.toList=pC (s.extract 0 (4+k+n)).data.toList):jF s=(.zero,0,5):=by unfold jF; rw [if_pos h,f]; simp only; rw [if_pos trivial,if_neg d,if_neg i,if_neg c]
theorem DG (h:mY s=0) (f:rdNum (s.extract 4 s.size)=(n,k,0)) (d:¬ 6000<n) (i:¬ s.size<8+k+n) (c:(s.extract (4+k+n) (8+k+n)).data.toList=pC (s.extract 0 (4+k+n)).data.toList):jF s=(⟨aD s 2,aD s 3,s.extract (4+k) (4+k+n)⟩,8+k+n,0):=by unfold jF; rw [if_pos h,f]; simp only; rw [if_pos trivial,if_neg d,if_neg i,if_pos c]
end
end Go.Proofs.YtimglglgcgpjgabGreatDoor
