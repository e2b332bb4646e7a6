/- Of the proof of a statement: PlTextR, PlRows, PlSt, Zig, PlRx, TabM, RowsDef, Reads, ReadR, PlFrame, Pk, ZagR. -/
import Derived.Lib.ValidLaws
import Derived.Test.YtimglglgcgpjgaaGreatDoorRows
import Derived.Maps.OwnSet
import Derived.StringKeys
import Derived.Lib.QuietBelow
import Derived.Test.YtimglglgcgpjgaaGreatDoorQChk
set_option linter.unusedVariables false
set_option linter.unusedSimpArgs false
set_option maxRecDepth 100000
set_option maxHeartbeats 8000000
namespace Go.Proofs.YtimglglgcgpjgaaGreatDoor
open Go.Lib (validD)
open Go.Op (bytesLess)
open Go.RowKit
open Go.RowKit Go.Maps
def oH (s:ByteArray):ByteArray × Nat × Nat:=
 match rdNum s with
 | (n,k,e)=>
  if e=0 then
   if 16<n then (⟨#[]⟩,0,2)
   else if s.size<k+n then (⟨#[]⟩,0,3)
   else if validD (s.extract k (k+n)).data.toList=true then (s.extract k (k+n),k+n,0)
   else (⟨#[]⟩,0,4)
  else (⟨#[]⟩,0,e)
variable {s:ByteArray} {n k e:Nat}
theorem AQ (h:rdNum s=(n,k,e)) (a:e≠0):oH s=(⟨#[]⟩,0,e):=by unfold oH; rw [h]; simp only; rw [if_neg a]
theorem vH (h:rdNum s=(n,k,0)) (a:16<n):oH s=(⟨#[]⟩,0,2):=by unfold oH; rw [h]; simp only; rw [if_pos trivial,if_pos a]
theorem vI (h:rdNum s=(n,k,0)) (c:¬ 16<n) (a:s.size<k+n):oH s=(⟨#[]⟩,0,3):=by unfold oH; rw [h]; simp only; rw [if_pos trivial,if_neg c,if_pos a]
theorem C9 (h:rdNum s=(n,k,0)) (c:¬ 16<n) (a:¬ s.size<k+n) (d:validD (s.extract k (k+n)).data.toList=true):oH s=(s.extract k (k+n),k+n,0):=by unfold oH; rw [h]; simp only; rw [if_pos trivial,if_neg c,if_neg a,if_pos d]
theorem yC (h:rdNum s=(n,k,0)) (c:¬ 16<n) (a:¬ s.size<k+n) (d:validD (s.extract k (k+n)).data.toList=false):oH s=(⟨#[]⟩,0,4):=by unfold oH; rw [h]; simp only; rw [if_pos trivial,if_neg c,if_neg a,if_neg (by rw [d]; simp)]
theorem kK:∀ a b:List UInt8,(!bytesLess a b)=(bytesLess b a || b == a)
 | [],[]=>by simp [bytesLess]
 | [],_ :: _=>by simp [bytesLess]
 | _ :: _,[]=>by simp [bytesLess]
 | x :: a,y :: b=>by
  have i:=kK a b;simp only [bytesLess];by_cases c:x<y
  · have d:¬ y<x:=fun h=>absurd (UInt8.lt_trans c h) (UInt8.lt_irrefl _);have f:¬ y=x:=fun h=>by subst h; exact absurd c (UInt8.lt_irrefl _)
    simp [c,d,f]
  · by_cases d:y<x
    · have f:¬ x=y:=fun h=>by subst h; exact absurd d (UInt8.lt_irrefl _)
      simp [c,d,f]
    · have f:x=y:=UInt8.le_antisymm (UInt8.not_lt.1 d) (UInt8.not_lt.1 c);subst f;simpa [c] using i
section
variable {α:Type} (E:α->Int) (key:α->ByteArray)
def before (p:Option ByteArray) (s:ByteArray):Bool:=match p with
 | none=>true
 | some q=>bytesLess q.toList s.toList
def eG:Option ByteArray->List α->Int
 | _,[]=>0
 | p,x :: l=>if E x=0 then (if before p (key x)=true then eG (some (key x)) l else 8) else E x
def cE (l:List α):Int:=eG E key none l
def prevK (l:List α) (k:Nat):Option ByteArray:=if k=0 then none else l[k - 1]?.map key
variable {E key} {l:List α} {k:Nat} {x:α}
theorem drop_cons (h:l[k]? = some x):l.drop k=x :: l.drop (k+1):=by
 obtain⟨hlt,rfl⟩:=List.getElem?_eq_some_iff.1 h;exact List.drop_eq_getElem_cons hlt
theorem nZ (h:l[k]? = some x) (a:E x≠0):eG E key (prevK key l k) (l.drop k)=E x:=by
 rw [drop_cons h,eG,if_neg a]
theorem kJ {y:α} (h:l[k]? = some x) (a:E x=0) (c:k≠0) (f:l[k - 1]? = some y) (d:bytesLess (key y).toList (key x).toList=false):eG E key (prevK key l k) (l.drop k)=8:=by
 rw [drop_cons h,eG,if_pos a,if_neg];unfold prevK before;rw [if_neg c,f];simp [d]
theorem gC (h:l[k]? = some x) (f:E x=0) (d:k=0\/∃ y,l[k - 1]? = some y/\bytesLess (key y).toList (key x).toList=true) :
 eG E key (prevK key l k) (l.drop k)=eG E key (prevK key l (k+1)) (l.drop (k+1)):=by
 have c:prevK key l (k+1)=some (key x):=by unfold prevK; rw [if_neg (by omega),Nat.add_sub_cancel,h]; rfl
 rw [drop_cons h,eG,if_pos f,c,if_pos];unfold prevK before;rcases d with rfl | ⟨y,j,i⟩
 · rfl
 · by_cases a:k=0
   · rw [if_pos a]
   · rw [if_neg a,j]; exact i
theorem sU (h:l.length<=k) (p:Option ByteArray):eG E key p (l.drop k)=0:=by
 rw [List.drop_of_length_le h]; rfl
end
theorem aT (j:aC):(aS j).length=5:=rfl
theorem aO (n:av):(aH n).length=3:=rfl
theorem aI (l:ak):(aB l).length=3:=rfl
structure ah where
 rev:Int
 jobs:List aC
 nodes:List av
 leases:List ak
def cC (l:List aC) (s:ByteArray):Option aC:=l.find? fun j=>decide (j.name=s)
def bU (l:List av) (s:ByteArray):Option av:=l.find? fun n=>decide (n.name=s)
def dN (st:ah) (l:ak):Int:=if (cC st.jobs l.job).isSome && (bU st.nodes l.node).isSome then (if ranged l.till 0 1099511627776 then 0 else 1) else 6
def fV (st:ah) (l:ak) (s:ByteArray):Int:=if l.node=s then (match cC st.jobs l.job with | some j=>j.need | none=>0) else 0
def fX (st:ah) (s:ByteArray):List ak->Int
 | []=>0
 | l :: r=>fV st l s+fX st s r
def rV (st:ah) (s:ByteArray):Int:=fX st s st.leases
def dR (st:ah):Bool:=decide (st.jobs.length<=40) && decide (st.leases.length<=40) && decide (st.nodes.length<=20)
def lU (st:ah):Bool:=st.nodes.all fun n=>decide (rV st n.name<=n.room)
def aE (st:ah):Int:=
 if ranged st.rev 0 1099511627776=false then 1
 else if dR st=false then 2
 else if cE fS aC.name st.jobs≠0 then cE fS aC.name st.jobs
 else if cE dP av.name st.nodes≠0 then cE dP av.name st.nodes
 else if cE (dN st) ak.job st.leases≠0 then cE (dN st) ak.job st.leases
 else if lU st=true then 0 else 9
theorem qj:∀ a:List UInt8,bytesLess a a=false
 | []=>rfl
 | a :: r=>by simp [bytesLess,qj r]
theorem vJ:∀ a b c:List UInt8,bytesLess a b=true->bytesLess b c=true->bytesLess a c=true
 | _,[],_,h,_=>by simp [bytesLess] at h
 | _,_ :: _,[],_,h=>by simp [bytesLess] at h
 | [],_ :: _,_ :: _,_,_=>rfl
 | a :: x,b :: y,c :: z,f,d=>by
  simp only [bytesLess,Bool.or_eq_true,decide_eq_true_eq,Bool.and_eq_true,beq_iff_eq] at f d |-;rcases f with f | ⟨rfl,f⟩
  · rcases d with d | ⟨rfl,d⟩
    · exact .inl (UInt8.lt_trans f d)
    · exact .inl f
  · rcases d with d | ⟨rfl,d⟩
    · exact .inl d
    · exact .inr ⟨rfl,vJ x y z f d⟩
section
variable {α:Type} {E:α->Int} {key:α->ByteArray}
theorem pL:∀ (p:Option ByteArray) (l:List α),eG E key p l=0->(∀ x ∈ l,E x=0/\before p (key x)=true)/\l.Pairwise (fun j b=>bytesLess (key j).toList (key b).toList=true)
 | _,[],_=>⟨by simp,List.Pairwise.nil⟩
 | p,x :: l,h=>by
  unfold eG at h;by_cases d:E x=0
  · rw [if_pos d] at h;by_cases c:before p (key x)=true
    · rw [if_pos c] at h;obtain⟨f,m⟩:=pL (some (key x)) l h;refine⟨fun y a=>?_,List.pairwise_cons.2 ⟨fun y a=>(f y a).2,m⟩⟩;rcases List.mem_cons.1 a with rfl | a
      · exact⟨d,c⟩
      · refine⟨(f y a).1,?_⟩;have i:=(f y a).2;unfold before at c i |-
        cases p with
        | none=>rfl
        | some q=>exact vJ _ _ _ c i
    · rw [if_neg c] at h; omega
  · rw [if_neg d] at h; exact absurd h d
theorem fC {l:List α} (h:cE E key l=0) {x:α} (a:x ∈ l):E x=0:=((pL none l h).1 x a).1
theorem Ap {l:List α} (h:cE E key l=0):l.Pairwise (fun a b=>key a≠key b):=
 (pL none l h).2.imp fun {a b} hlt e=>by rw [e,qj] at hlt; cases hlt
end
theorem Jp {j:aC} (h:fS j=0):0<=j.need/\j.need<=1000000:=by
 unfold fS at h
 split at h
 · split at h
   · rename_i a
     simp only [Bool.and_eq_true] at a;exact aM.1 a.1.2
   · omega
 · omega
theorem B7 {α:Type} (key:α->ByteArray) {l:List α} (m:l.Pairwise (fun a b=>key a≠key b)) {k:Nat} {x:α} (f:l[k]? = some x) (s:ByteArray) :
 (l.take (k+1)).find? (fun a=>decide (key a=s))=if s=key x then some x else (l.take k).find? (fun a=>decide (key a=s)):=by
 have e:l.take (k+1)=l.take k ++ [x]:=by
  obtain⟨hlt,rfl⟩:=List.getElem?_eq_some_iff.1 f;exact (List.take_append_getElem hlt).symm
 rw [e,List.find?_append];by_cases c:s=key x
 · rw [if_pos c]
   have j:(l.take k).find? (fun a=>decide (key a=s))=none:=by
    rw [List.find?_eq_none];intro a ha h;have d:key a=s:=by simpa using h
    obtain⟨hlt,rfl⟩:=List.getElem?_eq_some_iff.1 f;obtain⟨o,i,rfl⟩:=List.mem_iff_getElem.1 ha;rw [List.length_take] at i;rw [List.getElem_take] at d;exact List.pairwise_iff_getElem.1 m o k (by omega) hlt (by omega) (d.trans c)
   rw [j];simp [c]
 · rw [if_neg c];have:[x].find? (fun a=>decide (key a=s))=none:=by simpa using fun e=>c (Eq.symm e)
   rw [this];simp
theorem wP (st:ah) (s:ByteArray):∀ a b:List ak,fX st s (a ++ b)=fX st s a+fX st s b
 | [],b=>by simp [fX]
 | x :: a,b=>by
  have c:=wP st s a b;simp only [List.cons_append,fX,c]; omega
theorem AR (st:ah) (s:ByteArray) {l:List ak} {k:Nat} {x:ak} (h:l[k]? = some x):fX st s (l.take (k+1))=fX st s (l.take k)+fV st x s:=by
 have e:l.take (k+1)=l.take k ++ [x]:=by
  obtain⟨hlt,rfl⟩:=List.getElem?_eq_some_iff.1 h;exact (List.take_append_getElem hlt).symm
 rw [e,wP]; simp [fX]
def uh (st:ah):Prop:=∀ j ∈ st.jobs,0<=j.need/\j.need<=1000000
theorem wQ {st:ah} (h:uh st) (x:ak) (s:ByteArray):0<=fV st x s/\fV st x s<=1000000:=by
 unfold fV
 split
 · cases a:cC st.jobs x.job with
   | none=>simp
   | some j=>exact h j (List.mem_of_find?_eq_some a)
 · omega
theorem tD {st:ah} (h:uh st) (s:ByteArray):∀ l:List ak,0<=fX st s l/\fX st s l<=(l.length:Int)*1000000
 | []=>by simp [fX]
 | x :: l=>by
  have a:=wQ h x s;have c:=tD h s l;simp only [fX,List.length_cons];omega
theorem AS {st:ah} (h:cE fS aC.name st.jobs=0):uh st:=fun _ a=>Jp (fC h a)
theorem Nk (n:Int) (h : -9223372036854775808<=n) (a:n<=9223372036854775807) (w:World) :
 ψ 234 #[n] w fun e w'=>e = .returned (.int .u64 (mW n))/\w=w':=by
 have c:=ω (Mx n h a);go_enter Tryz.func234,Tryz.ntmps234;go_wp2;go_ret;exact⟨aY c.z,rfl⟩
theorem Lu (n:Int) (h : -9223372036854775808<=n) (d:n<=9223372036854775807) (w:World) :
 ψ 176 #[n] w fun e w'=>e = .returned (.int .u64 (mW n))/\w=w':=by
 by_cases c:0<=n
 · have a:=ω (show mW n=2*n from by unfold mW; rw [if_pos c]);go_enter Tryz.func176,Tryz.ntmps176;go_wp2;go_ret;exact⟨aY a.symm,rfl⟩
 · have a:=ω (show mW n=2 * -(n+1)+1 from by unfold mW; rw [if_neg c]; omega);go_enter Tryz.func176,Tryz.ntmps176;go_wp2;go_ret;exact⟨aY a.symm,rfl⟩
theorem Nl (n:Int) (h:0<=n) (a:n<18446744073709551616) (w:World) :
 ψ 270 #[.int .u64 n] w fun e w'=>e = .returned (.int .i64 (lB n))/\w=w':=by
 have c:=ω (My n h a);go_enter Tryz.func270,Tryz.ntmps270;go_wp2;go_ret;exact⟨aY c.z,rfl⟩
inductive RR (α:Type) where
 | ok (a:α) (r:ByteArray)
 | bad (e:Nat)
def RR.bind {α a:Type} (x:RR α) (f:α->ByteArray->RR a):RR a:=match x with
 | .ok c r=>f c r
 | .bad e=>.bad e
theorem RR.bind_ok {α c:Type} (a:α) (r:ByteArray) (f:α->ByteArray->RR c):(RR.ok a r).bind f=f a r:=rfl
theorem RR.fR {α a:Type} (e:Nat) (f:α->ByteArray->RR a):(RR.bad e:RR α).bind f = .bad e:=rfl
def RR.st {α:Type} (x:RR α):RR Unit:=x.bind fun _ r=>.ok () r
def RR.Good {α:Type} (N:Nat) (x:RR α):Prop:=match x with
 | .ok _ r=>r.size<=N
 | .bad e=>e≠0/\e<=10
theorem RR.Good.bind {α d:Type} {N:Nat} {x:RR α} {f:α->ByteArray->RR d} (h:x.Good N) (c:∀ a r,r.size<=N->(f a r).Good N):(x.bind f).Good N:=by
 cases x with
 | ok a r=>exact c a r h
 | bad e=>exact h
theorem RR.Good.st {α:Type} {N:Nat} {x:RR α} (h:x.Good N):x.st.Good N:=h.bind fun _ _ a=>a
def dI (s:ByteArray):RR Nat:=if (rdNum s).2.2=0 then (if 4611686018427387904<(rdNum s).1 then .bad 2 else .ok (rdNum s).1 (s.extract (rdNum s).2.1 s.size)) else .bad (rdNum s).2.2
def cF (s:ByteArray):RR ByteArray:=if (oH s).2.2=0 then .ok (oH s).1 (s.extract (oH s).2.1 s.size) else .bad (oH s).2.2
theorem Da {s:ByteArray} {a k:Nat} (h:rdNum s=(a,k,0)) (c:¬ 4611686018427387904<a):dI s = .ok a (s.extract k s.size):=by unfold dI; rw [h]; simp only; rw [if_pos trivial,if_neg c]
theorem vK {s:ByteArray} {a k:Nat} (h:rdNum s=(a,k,0)) (c:4611686018427387904<a):dI s = .bad 2:=by unfold dI; rw [h]; simp only; rw [if_pos trivial,if_pos c]
theorem AT {s:ByteArray} {a k e:Nat} (h:rdNum s=(a,k,e)) (c:e≠0):dI s = .bad e:=by unfold dI; rw [h]; simp only; rw [if_neg c]
theorem wR {s t:ByteArray} {k:Nat} (h:oH s=(t,k,0)):cF s = .ok t (s.extract k s.size):=by unfold cF; rw [h]; simp only; rw [if_pos trivial]
theorem uj {s t:ByteArray} {k e:Nat} (h:oH s=(t,k,e)) (a:e≠0):cF s = .bad e:=by unfold cF; rw [h]; simp only; rw [if_neg a]
theorem nO {s:ByteArray} {k N:Nat} (h:s.size<=N):(s.extract k s.size).size<=N:=by
 rw [ByteArray.size_extract]; omega
theorem jO {s:ByteArray} {N:Nat} (h:s.size<=N):(dI s).Good N:=by
 rcases a:rdNum s with ⟨f,k,e⟩;have i:=gW a;by_cases c:e=0
 · subst c;by_cases d:4611686018427387904<f
   · rw [vK a d]; exact⟨by decide,by decide⟩
   · rw [Da a d]; exact nO h
 · rw [AT a c]; exact⟨c,by omega⟩
theorem um {s r:ByteArray} {a:Nat} (h:dI s = .ok a r):a<=4611686018427387904:=by
 unfold dI at h
 split at h
 · split at h
   · cases h
   · injection h with c d; omega
 · cases h
theorem rM {s t:ByteArray} {k e:Nat} (h:oH s=(t,k,e)):e<=10/\t.size<=16/\(e=0->k<=s.size):=by
 rcases i:rdNum s with ⟨o,n,u⟩;have y:=gW i;by_cases p:u=0
 · subst p;by_cases m:16<o
   · rw [vH i m] at h; injection h with a c; injection c with j d; subst a; subst d;exact⟨by omega,by decide,fun f=>absurd f (by decide)⟩
   · by_cases a:s.size<n+o
     · rw [vI i m a] at h; injection h with a c; injection c with j d; subst a; subst d;exact⟨by omega,by decide,fun f=>absurd f (by decide)⟩
     · cases q:Lib.validD (s.extract n (n+o)).data.toList
       · rw [yC i m a q] at h; injection h with a c; injection c with j d; subst a; subst d;exact⟨by omega,by decide,fun f=>absurd f (by decide)⟩
       · rw [C9 i m a q] at h; injection h with v c; injection c with j d; subst v; subst d; subst j;exact⟨by omega,by rw [ByteArray.size_extract]; omega,fun _=>by omega⟩
 · rw [AQ i p] at h; injection h with a c; injection c with j d; subst a; subst d;exact⟨by omega,by decide,fun f=>absurd f p⟩
theorem kD {s:ByteArray} {N:Nat} (h:s.size<=N):(cF s).Good N:=by
 rcases c:oH s with ⟨f,k,e⟩;have d:=rM c;by_cases a:e=0
 · subst a;rw [wR c]; exact nO h
 · rw [uj c a]; exact⟨a,d.1⟩
theorem pF {s t r:ByteArray} (h:cF s = .ok t r):t.size<=16:=by
 rcases a:oH s with ⟨i,k,e⟩;have f:=rM a;by_cases c:e=0
 · subst c;rw [wR a] at h; injection h with d j; subst d; exact f.2.1
 · rw [uj a c] at h; cases h
def mX {α:Type} (res:RR α) (Z:α->Prop) (a:α):Prop:=match res with
 | .ok b _=>a=b
 | .bad _=>Z a
def pD (v:Int) (s:ByteArray):RR aC:=
 (cF s).bind fun a s=>(dI s).bind fun p s=>(dI s).bind fun c s=>
  (if 1<v then dI s else .ok 0 s).bind fun f s=>(if 2<v then cF s else .ok ⟨#[]⟩ s).bind fun d s=>.ok ⟨a,lB p,c,f,d⟩ s
def lH (v:Int) (s:ByteArray):RR av:=
 (cF s).bind fun a s=>(dI s).bind fun c s=>(if 1<v then cF s else .ok ⟨#[]⟩ s).bind fun d s=>.ok ⟨a,c,d⟩ s
def iC (s:ByteArray):RR ak:=(cF s).bind fun job s=>(cF s).bind fun node s=>(dI s).bind fun a s=>.ok ⟨job,node,a⟩ s
theorem II {v:Int} {s:ByteArray} {N:Nat} (h:s.size<=N):(pD v s).Good N:=by
 unfold pD;refine (kD h).bind fun _ r a=>(jO a).bind fun _ r a=>(jO a).bind fun _ r a=>RR.Good.bind ?_ fun _ r a=>RR.Good.bind ?_ fun _ r a=>a
 · split
   · exact jO a
   · exact a
 · split
   · exact kD a
   · exact a
theorem FB {v:Int} {s:ByteArray} {N:Nat} (h:s.size<=N):(lH v s).Good N:=by
 unfold lH;refine (kD h).bind fun _ r a=>(jO a).bind fun _ r a=>RR.Good.bind ?_ fun _ r a=>a
 split
 · exact kD a
 · exact a
theorem DM {s:ByteArray} {N:Nat} (h:s.size<=N):(iC s).Good N:=by
 unfold iC;exact (kD h).bind fun _ r a=>(kD a).bind fun _ r a=>(jO a).bind fun _ r a=>a
def Lv:Value->Option (DataW Value × List MemPlace):=fun v=>some (.held v,[])
def eU (w:World) (b n:Nat) (g:ByteArray->Option Value):Prop:=
 ∃ D:DataW Value,w.ownsMap Tryz.prog 9 Lv b n D/\∀ (s:ByteArray) (z:DataW Value),D.atKey (.string s.data.toList) z=match g s with
  | none=>z
  | some v=>.held v
theorem OT:Keyed Tryz.prog 9:=string_keyed Tryz.underlying9
section
variable {w w':World} {b n:Nat} {g:ByteArray->Option Value}
theorem eU.made (w:World):eU (w.alloc (.map #[] 0)) w 0 (fun _=>none):=⟨.map [],World.ownsMap_made w _ _ _,fun _ _=>rfl⟩
theorem eU.lt (h:eU w b n g):b<w.heap.size:=h.choose_spec.1.lt
theorem eU.same (h:eU w b n g) (e:w'.heap[b]? = w.heap[b]?):eU w' b n g:=by
 obtain⟨D,⟨c,a,f,r⟩,d⟩:=h;exact⟨D,⟨c,a,e.trans f,r⟩,d⟩
theorem eU.below {B:Nat} (h:eU w b n g) (c:Below B w w') (a:b<B):eU w' b n g:=h.same (c.block b a)
theorem eU.but {c:Nat} (h:eU w b n g) (a:w.grownBy w' (some c)) (d:b≠c):eU w' b n g:=h.same (a.block b h.lt (by simp [d]))
theorem eU.congr {a:ByteArray->Option Value} (h:eU w b n g) (e:∀ s,g s=a s):eU w b n a:=by
 obtain⟨D,d,c⟩:=h;exact⟨D,d,fun s z=>by rw [c,e]⟩
theorem eU.mono {m:Nat} (h:eU w b n g) (c:n<=m):eU w b m g:=by
 obtain⟨D,d,a⟩:=h;exact⟨D,d.mono c,a⟩
theorem data_inj {s t:ByteArray} (h:(Lit.string s.data.toList) = .string t.data.toList):s=t:=by
 injection h with h;exact ByteArray.ext (Array.toList_inj.1 h)
theorem eU.put {t e:TypeId} (h:eU w b n g) (q : Tryz.prog.underlying t=some (.map 9 e)) (j:n<maxLen) (s:ByteArray) (p:s.size<=maxLen) (v:Value) :
 ∃ w',(Instr.mapUpdate t (.map (some b)) (.string s) v).run Tryz.prog w = .ok () w'/\eU w' b (n+1) (fun x=>if x=s then some v else g x)/\w.grownBy w' (some b):=by
 obtain⟨D,c,f⟩:=h;obtain⟨w',o,m,i⟩:=c.update OT q j (Go.WideMaps.keyOf_string_mk Tryz.underlying9 p) (val:=v) (d:=.held v) (ps:=[]) rfl;refine⟨w',o,⟨_,m,fun x z=>?_⟩,i⟩;by_cases a:x=s
 · subst a;rw [atKey_put_same c.isMap (by simp [WideAt.IsKeyLit])];simp
 · rw [atKey_put_other (fun e=>a (data_inj e)),f x z];simp [a]
theorem eU.look {t e:TypeId} (h:eU w b n g) (o : Tryz.prog.underlying t=some (.map 9 e)) {z:Value} (p:(zeroValue e).run Tryz.prog w = .ok z w) (s:ByteArray) (m:s.size<=maxLen) :
 (Instr.lookup t (.map (some b)) (.string s) false).run Tryz.prog w = .ok ((g s).getD z) w:=by
 obtain⟨D,i,f⟩:=h;obtain⟨v,u,j,d⟩:=i.lookup OT o p (zd:=.held z) (zp:=[]) rfl (Go.WideMaps.keyOf_string_mk Tryz.underlying9 m);rw [f] at d
 have a:(DataW.held v:DataW Value)=match g s with | none=>.held z | some v=>.held v:=by
  have:=congrArg (fun q=>q.map Prod.fst) d;simpa [Lv] using this
 have e:v=(g s).getD z:=by
  cases c:g s with
  | none=>rw [c] at a; injection a
  | some y=>rw [c] at a; injection a
 rw [j,e]
theorem eU.look_ok {t e:TypeId} (j:eU w b n g) (p : Tryz.prog.underlying t=some (.map 9 e)) {z:Value} (q:(zeroValue e).run Tryz.prog w = .ok z w) (s:ByteArray) (o:s.size<=maxLen) :
 (Instr.lookup t (.map (some b)) (.string s) true).run Tryz.prog w = .ok (.tuple #[(g s).getD z,.bool (g s).isSome]) w:=by
 obtain⟨D,m,d⟩:=j;obtain⟨v,C,h,i⟩:=m.look_ok OT p q (zd:=.held z) (zp:=[]) rfl (Go.WideMaps.keyOf_string_mk Tryz.underlying9 o);rw [d] at i
 have c:(DataW.held v:DataW Value)=match g s with | none=>.held z | some v=>.held v:=by
  have:=congrArg (fun B=>B.map Prod.fst) i;simpa [Lv] using this
 cases a:g s with
 | none=>
  rw [a] at c;have e:v=z:=by injection c
  have f:Maps.has D (.string s.data.toList)=false:=Maps.has_false_of_atKey (fun x=>by rw [d,a]);rw [h,e,f]; rfl
 | some u=>
  rw [a] at c;have e:v=u:=by injection c
  have f:Maps.has D (.string s.data.toList)=true:=Maps.has_true_of_atKey (y:=.held u) (fun x=>by rw [d,a]);rw [h,e,f]; rfl
end
def oF (xs:List aC):Prop:=∀ x ∈ xs,x.name.size<=9223372036854775807/\x.tag.size<=9223372036854775807
def Lw (xs:List aC) (n:Nat) (R:Int) (w:World) (i:Value) (wr:World):Prop:=∃ k:Nat,k<=n/\i = .int .i64 k/\eG fS aC.name (prevK aC.name xs k) (xs.drop k)=R/\Below w w wr
def mP (xs:List av):Prop:=∀ x ∈ xs,x.name.size<=9223372036854775807/\x.zone.size<=9223372036854775807
def In (xs:List av) (n:Nat) (R:Int) (w:World) (i:Value) (wr:World):Prop:=∃ k:Nat,k<=n/\i = .int .i64 k/\eG dP av.name (prevK av.name xs k) (xs.drop k)=R/\Below w w wr
theorem qQ {s:ByteArray} {k:Nat} (h:k<s.size):s.data.toList.take (k+1)=s.data.toList.take k ++ [s[k]]:=by
 rw [List.take_succ_eq_append_getElem (by simpa using h)]; rfl
theorem tY {s:ByteArray} {a k e:Nat} (h:rdNum s=(a,k,e)) (w:World) (i:s.size<=9223372036854775807) :
 ψ 74 #[s] w fun x w'=>x = .returned (.tuple #[.int .u64 (a:Int),(k:Int),(e:Int)])/\w=w':=
 (J6 s w i).mono fun _ _ ⟨c,d⟩=>⟨by rw [c,Fs h],d⟩
def PO (s:ByteArray) (n u i:Value):Prop:=∃ (k acc p:Nat),k<=9/\k<=s.size/\acc<128 ^ k/\p=128 ^ k/\p<=9223372036854775808/\acc<p/\i = .int .i64 k/\n = .int .u64 acc/\u = .int .u64 p/\rdNum s=rdB s (10 - k) k acc
theorem Jq (s:ByteArray) (w:World) (hs:s.size<=9223372036854775807) :
 ψ 89 #[s] w (ql s w):=by
 go_enter Tryz.func89,Tryz.ntmps89;go_wp2
 go_loop [2,3,4,5,6,7,8] (fun _ _ _ n T z _=>PO s n T z) (fun _ _ _ _ _ z _=>10 - (intOf z).toNat)
 case atStart=>exact⟨0,0,1,by omega,by omega,by decide,rfl,by omega,by omega,rfl,rfl,rfl,rfl⟩
 case round=>
  obtain⟨k,V,ac,Z,aa,ha,J,ab,Y,rfl,rfl,rfl,K⟩:=hrel;have j:=ω K;have B:=ω ha;have u:=ω J;clear K ha J;by_cases p:k<s.size
  · have R:((k:Int) == s.size)=false:=by simp; omega
    obtain⟨c,o⟩:∃ c:Nat,s[k].toNat=c:=⟨_,rfl⟩;have I:c<256:=by rw [<- o]; exact s[k].toNat_lt
    have C:=jq p o;have q:=ω o;clear o;have form:=fun (d:(k=9/\1<c)\/(0<k/\c=0))=>ql.mk' (w:=w) (j.trans (Dy (by omega) p q.z d));have M:=fun (d:¬ ((k=9/\1<c)\/(0<k/\c=0))) (y:c<128)=>ql.mk' (w:=w) (j.trans (Dz (by omega) p q.z d y));have more:=fun (d:¬ ((k=9/\1<c)\/(0<k/\c=0))) (y:¬ c<128)=>j.trans (DA (by omega) p q.z d y);have step:=fun (a:k=9->c<=1)=>JY (k:=k) (by omega) I a B.z u.z;have O:=fun (a:k=9->c<=1)=>(zO (k:=k) (by omega) I a B.z).2;have N:=fun (a:k<9)=>JZ a;have m:=ω step;have G:=ω O;have H:=ω N;have P:=ω form;have D:=ω M;have F:=ω more;clear form M more step O N;by_cases L:k=0
    · subst L;have U:∀ W:World,(Instr.index 9 (.string s) (.int .i64 0)).run Tryz.prog W = .ok (.int .u8 (c:Int)) W:=C;clear C;by_cases b0:1<=c
      all_goals first | (have v:((c:Int) == 0)=true:=by simp; omega) | (have v:((c:Int) == 0)=false:=by simp; omega)
      all_goals go_wp2
      all_goals first
       | (have st:=m.z (by omega); go_ret3; rw [st]; exact D.z (by omega) (by omega))
       | (have st:=m.z (by omega); have i:=G.z (by omega); have h:=H.z (by omega); exact⟨⟨1,_,_,by omega,by omega,i.1,rfl,h.2,i.1,rfl,congrArg (Value.int .u64) st,congrArg (Value.int .u64) (by rw [u.z]; exact h.1),F.z (by omega) (by omega)⟩,by simp only [intOf]; omega⟩)
    have k1:1<=k:=by omega
    clear L;by_cases X:9<=k <;> by_cases b0:1<=c
    all_goals first | (have Q:((k:Int) == 9)=true:=by simp; omega) | (have Q:((k:Int) == 9)=false:=by simp; omega)
    all_goals first | (have v:((c:Int) == 0)=true:=by simp; omega) | (have v:((c:Int) == 0)=false:=by simp; omega)
    all_goals go_wp2
    all_goals first
     | (go_ret3; exact P.z (by omega))
     | (have st:=m.z (by omega); go_ret3; rw [st]; exact D.z (by omega) (by omega))
     | (have st:=m.z (by omega); have i:=G.z (by omega); have h:=H.z (by omega); exact⟨⟨k+1,_,_,by omega,by omega,i.1,rfl,h.2,i.1,by go_num,congrArg (Value.int .u64) st,congrArg (Value.int .u64) (by rw [u.z]; exact h.1),F.z (by omega) (by omega)⟩,by simp only [intOf]; omega⟩)
  · have R:((k:Int) == s.size)=true:=by simp; omega
    have S:=ω (ql.mk' (w:=w) (j.trans (BX (by omega) (by omega))));go_wp2
    go_ret3
    exact S
theorem AE {s:ByteArray} {a k e:Nat} (h:rdNum s=(a,k,e)) (w:World) (i:s.size<=9223372036854775807) :
 ψ 89 #[s] w fun x w'=>x = .returned (.tuple #[.int .u64 (a:Int),(k:Int),(e:Int)])/\w=w':=
 (Jq s w i).mono fun _ _ ⟨c,d⟩=>⟨by rw [c,Fs h],d⟩
def pC (l:List UInt8):List UInt8:=[UInt8.ofNat (gR l / 16777216),UInt8.ofNat (gR l / 65536),UInt8.ofNat (gR l / 256),UInt8.ofNat (gR l)]
theorem Cl (l:List UInt8):gR l<4294967296:=by unfold gR; omega
def BJ (v k:Nat) (p:List UInt8):List UInt8:=[66,75,UInt8.ofNat v,UInt8.ofNat k] ++ bg p.length ++ p
def pT (v k:Nat) (p:List UInt8):List UInt8:=BJ v k p ++ pC (BJ v k p)
theorem Ep (v k:Nat) (p:List UInt8):(BJ v k p).length<=p.length+15:=by
 have:=dO p.length;simp [BJ]; omega
section
variable {w:World} {g:Nat} {t:TypeId} {l r:List Value} {a0 a1 a2 a3 a4 a5 a6 a7 a8 a9 b0 b1 b2 b3:Value}
theorem Blk.g0 (w:World) (g:Nat):w.grownBy w (some g):=⟨rfl,rfl,rfl,lJ,fun _ _ _=>rfl⟩
theorem Blk.ci (h:Blk w g t (List.toArray l)) (i:Nat):w.cell? ⟨g,i,none⟩=l[i]?:=by rw [h.cell i]; simp
theorem Blk.c2 (h:Blk w g t (List.toArray (a0 :: a1 :: r))):ζ w g 0 a0/\ζ w g 1 a1:=⟨h.ci 0,h.ci 1⟩
theorem Blk.c4 (h:Blk w g t (List.toArray (a0 :: a1 :: a2 :: a3 :: r))):ζ w g 0 a0/\ζ w g 1 a1/\ζ w g 2 a2/\ζ w g 3 a3:=⟨h.ci 0,h.ci 1,h.ci 2,h.ci 3⟩
theorem Blk.c5 (h:Blk w g t (List.toArray (a0 :: a1 :: a2 :: a3 :: a4 :: r))):ζ w g 0 a0/\ζ w g 1 a1/\ζ w g 2 a2/\ζ w g 3 a3/\ζ w g 4 a4:=⟨h.ci 0,h.ci 1,h.ci 2,h.ci 3,h.ci 4⟩
theorem Blk.c8 (h:Blk w g t (List.toArray (a0 :: a1 :: a2 :: a3 :: a4 :: a5 :: a6 :: a7 :: r))):ζ w g 0 a0/\ζ w g 1 a1/\ζ w g 2 a2/\ζ w g 3 a3/\ζ w g 4 a4/\ζ w g 5 a5/\ζ w g 6 a6/\ζ w g 7 a7:=⟨h.ci 0,h.ci 1,h.ci 2,h.ci 3,h.ci 4,h.ci 5,h.ci 6,h.ci 7⟩
theorem Blk.c14 (h:Blk w g t (List.toArray (a0 :: a1 :: a2 :: a3 :: a4 :: a5 :: a6 :: a7 :: a8 :: a9 :: b0 :: b1 :: b2 :: b3 :: r))):ζ w g 0 a0/\ζ w g 1 a1/\ζ w g 2 a2/\ζ w g 3 a3/\ζ w g 4 a4/\ζ w g 5 a5/\ζ w g 6 a6/\ζ w g 7 a7 /\
 ζ w g 8 a8/\ζ w g 9 a9/\ζ w g 10 b0/\ζ w g 11 b1/\ζ w g 12 b2/\ζ w g 13 b3:=⟨h.ci 0,h.ci 1,h.ci 2,h.ci 3,h.ci 4,h.ci 5,h.ci 6,h.ci 7,h.ci 8,h.ci 9,h.ci 10,h.ci 11,h.ci 12,h.ci 13⟩
theorem Blk.z2 (h:Blk w g t (List.toArray l)):κ w g 0/\κ w g 1:=⟨h.thaw 0,h.thaw 1⟩
theorem Blk.z4 (h:Blk w g t (List.toArray l)):κ w g 0/\κ w g 1/\κ w g 2/\κ w g 3:=⟨h.thaw 0,h.thaw 1,h.thaw 2,h.thaw 3⟩
theorem Blk.z8 (h:Blk w g t (List.toArray l)):κ w g 0/\κ w g 1/\κ w g 2/\κ w g 3/\κ w g 4/\κ w g 5/\κ w g 6/\κ w g 7:=⟨h.thaw 0,h.thaw 1,h.thaw 2,h.thaw 3,h.thaw 4,h.thaw 5,h.thaw 6,h.thaw 7⟩
theorem Blk.z14 (h:Blk w g t (List.toArray l)):κ w g 0/\κ w g 1/\κ w g 2/\κ w g 3/\κ w g 4/\κ w g 5/\κ w g 6/\κ w g 7/\κ w g 8/\κ w g 9/\κ w g 10/\κ w g 11/\κ w g 12/\κ w g 13:=⟨h.thaw 0,h.thaw 1,h.thaw 2,h.thaw 3,h.thaw 4,h.thaw 5,h.thaw 6,h.thaw 7,h.thaw 8,h.thaw 9,h.thaw 10,h.thaw 11,h.thaw 12,h.thaw 13⟩
theorem Blk.r4 (h:Blk w g t (List.toArray (a0 :: a1 :: a2 :: a3 :: r))):(∀ d a,ζ (Sort.grow (redrawn w d) a) g 0 a0)/\(∀ d a,ζ (Sort.grow (redrawn w d) a) g 1 a1)/\(∀ d a,ζ (Sort.grow (redrawn w d) a) g 2 a2)/\∀ d a,ζ (Sort.grow (redrawn w d) a) g 3 a3:=
 ⟨fun d a=>cell_regrown (h.ci 0) d a,fun d a=>cell_regrown (h.ci 1) d a,fun d a=>cell_regrown (h.ci 2) d a,fun d a=>cell_regrown (h.ci 3) d a⟩
theorem Blk.r5 (h:Blk w g t (List.toArray (a0 :: a1 :: a2 :: a3 :: a4 :: r))):(∀ d a,ζ (Sort.grow (redrawn w d) a) g 0 a0)/\(∀ d a,ζ (Sort.grow (redrawn w d) a) g 1 a1)/\(∀ d a,ζ (Sort.grow (redrawn w d) a) g 2 a2)/\(∀ d a,ζ (Sort.grow (redrawn w d) a) g 3 a3)/\∀ d a,ζ (Sort.grow (redrawn w d) a) g 4 a4:=
 ⟨fun d a=>cell_regrown (h.ci 0) d a,fun d a=>cell_regrown (h.ci 1) d a,fun d a=>cell_regrown (h.ci 2) d a,fun d a=>cell_regrown (h.ci 3) d a,fun d a=>cell_regrown (h.ci 4) d a⟩
theorem Blk.S2 (h:Blk w g t (List.toArray (a0 :: a1 :: r))) (a c:Value):Blk (sX (sX w g 0 a) g 1 c) g t (List.toArray (a :: c :: r))/\w.grownBy (sX (sX w g 0 a) g 1 c) (some g):=
 ⟨Blk.eq ((h.set 0 a).set 1 c) (by simp),aJ (aJ (Blk.g0 w g) 0 a) 1 c⟩
theorem Blk.S4 (h:Blk w g t (List.toArray (a0 :: a1 :: a2 :: a3 :: r))) (a c d f:Value):Blk (sX (sX (sX (sX w g 0 a) g 1 c) g 2 d) g 3 f) g t (List.toArray (a :: c :: d :: f :: r))/\w.grownBy (sX (sX (sX (sX w g 0 a) g 1 c) g 2 d) g 3 f) (some g):=
 ⟨Blk.eq ((((h.set 0 a).set 1 c).set 2 d).set 3 f) (by simp),aJ (aJ (aJ (aJ (Blk.g0 w g) 0 a) 1 c) 2 d) 3 f⟩
theorem Blk.S8 (p:Blk w g t (List.toArray (a0 :: a1 :: a2 :: a3 :: a4 :: a5 :: a6 :: a7 :: r))) (h i j m a c d f:Value):Blk (sX (sX (sX (sX (sX (sX (sX (sX w g 0 h) g 1 i) g 2 j) g 3 m) g 4 a) g 5 c) g 6 d) g 7 f) g t (List.toArray (h :: i :: j :: m :: a :: c :: d :: f :: r))/\w.grownBy (sX (sX (sX (sX (sX (sX (sX (sX w g 0 h) g 1 i) g 2 j) g 3 m) g 4 a) g 5 c) g 6 d) g 7 f) (some g):=by
 obtain⟨q,o⟩:=p.S4 h i j m;exact⟨Blk.eq ((((q.set 4 a).set 5 c).set 6 d).set 7 f) (by simp),aJ (aJ (aJ (aJ o 4 a) 5 c) 6 d) 7 f⟩
theorem rc3 {b o:Nat} (h:∀ j u,(a0 :: a1 :: a2 :: r)[j]? = some u->ζ w b (o+j) u):ζ w b o a0/\ζ w b (o+1) a1/\ζ w b (o+2) a2:=⟨h 0 _ rfl,h 1 _ rfl,h 2 _ rfl⟩
theorem rc5 {b o:Nat} (h:∀ j u,(a0 :: a1 :: a2 :: a3 :: a4 :: r)[j]? = some u->ζ w b (o+j) u):ζ w b o a0/\ζ w b (o+1) a1/\ζ w b (o+2) a2/\ζ w b (o+3) a3/\ζ w b (o+4) a4:=⟨h 0 _ rfl,h 1 _ rfl,h 2 _ rfl,h 3 _ rfl,h 4 _ rfl⟩
theorem rc14 {b o:Nat} (h:∀ j u,(a0 :: a1 :: a2 :: a3 :: a4 :: a5 :: a6 :: a7 :: a8 :: a9 :: b0 :: b1 :: b2 :: b3 :: r)[j]? = some u->ζ w b (o+j) u):ζ w b o a0/\ζ w b (o+1) a1/\ζ w b (o+2) a2/\ζ w b (o+3) a3/\ζ w b (o+4) a4/\ζ w b (o+5) a5/\ζ w b (o+6) a6/\ζ w b (o+7) a7 /\
 ζ w b (o+8) a8/\ζ w b (o+9) a9/\ζ w b (o+10) b0/\ζ w b (o+11) b1/\ζ w b (o+12) b2/\ζ w b (o+13) b3:=⟨h 0 _ rfl,h 1 _ rfl,h 2 _ rfl,h 3 _ rfl,h 4 _ rfl,h 5 _ rfl,h 6 _ rfl,h 7 _ rfl,h 8 _ rfl,h 9 _ rfl,h 10 _ rfl,h 11 _ rfl,h 12 _ rfl,h 13 _ rfl⟩
end
abbrev eS:Array Value:=#[.int .i64 0,.int .i64 0,.slice none 0 0,.slice none 0 0,.slice none 0 0,.slice none 0 0,.slice none 0 0,.slice none 0 0]
abbrev lP:Array Value:=#[.int .i64 0,.slice none 0 0,.slice none 0 0,.slice none 0 0]
theorem Lz (n:Int) (h:0<=n) (d:n<18446744073709551616) (w:World) :
 ψ 93 #[.int .u64 n] w fun e w'=>e = .returned (.int .i64 (lB n))/\w=w':=by
 by_cases e:n % 2=0
 · have a:=ω (show lB n=n / 2 from by unfold lB; rw [if_pos e]);have c:(n % 2 == 0)=true:=by rw [e]; rfl
   clear e;go_enter Tryz.func93,Tryz.ntmps93;go_wp2;go_ret;exact⟨aY a.symm,rfl⟩
 · have a:=ω (show lB n = -(n / 2) - 1 from by unfold lB; rw [if_neg e]);have c:(n % 2 == 0)=false:=by rw [beq_eq_false_iff_ne]; exact e
   clear e;go_enter Tryz.func93,Tryz.ntmps93;go_wp2;go_ret;exact⟨aY a.symm,rfl⟩
end Go.Proofs.YtimglglgcgpjgaaGreatDoor
