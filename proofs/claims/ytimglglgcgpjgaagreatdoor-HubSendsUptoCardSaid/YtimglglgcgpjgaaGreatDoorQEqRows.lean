/- Of the proof of a statement: StAt, At, EqRows. -/
import Derived.BigQuiet
import Derived.Deep.QuietTactic
import Derived.Test.YtimglglgcgpjgaaGreatDoorQRowsP
set_option linter.unusedVariables false
set_option linter.unusedSimpArgs false
set_option maxRecDepth 100000
set_option maxHeartbeats 8000000
namespace Go.Proofs.YtimglglgcgpjgaaGreatDoor
open Go.RowKit
structure StA where
 aj:Option Addr
 nj:Nat
 cj:Nat
 an:Option Addr
 nn:Nat
 cn:Nat
 al:Option Addr
 nl:Nat
 cl:Nat
def stC (st:ah) (x:StA):Array Value:=#[.int .i64 st.rev,.slice x.aj x.nj x.cj,.slice x.an x.nn x.cn,.slice x.al x.nl x.cl]
structure StAt (w:World) (B:Nat) (st:ah) (x:StA):Prop where
 j:bC w B 5 x.aj x.nj (au aS st.jobs)
 n:bC w B 3 x.an x.nn (au aH st.nodes)
 l:bC w B 3 x.al x.nl (au aB st.leases)
 lj:st.jobs.length=x.nj
 ln:st.nodes.length=x.nn
 ll:st.leases.length=x.nl
 bj:x.nj<=9223372036854775807
 bn:x.nn<=9223372036854775807
 bl:x.nl<=9223372036854775807
 oj:oF st.jobs
 on_:mP st.nodes
 ol:lI st.leases
theorem StAt.below {w w':World} {B:Nat} {st:ah} {x:StA} (h:StAt w B st x) (a:Below B w w'):StAt w' B st x:=
 ⟨h.j.below a,h.n.below a,h.l.below a,h.lj,h.ln,h.ll,h.bj,h.bn,h.bl,h.oj,h.on_,h.ol⟩
theorem StAt.more {w:World} {B b:Nat} {st:ah} {x:StA} (h:StAt w B st x) (a:B<=b):StAt w b st x:=
 ⟨h.j.more a,h.n.more a,h.l.more a,h.lj,h.ln,h.ll,h.bj,h.bn,h.bl,h.oj,h.on_,h.ol⟩
theorem below_grown {w0 a b:World} {g:Nat} (c:Below w0 w0 a) (d:a.grownBy b (some g)) (h:w0.heap.size<=g):Below w0 w0 b:=
 ⟨d.os.trans c.os,d.tape.trans c.tape,d.output.trans c.output,v6 c.size d.size,fun k e=>
  (d.block k (u7 e c.size) (by simp; omega)).trans (c.block k e)⟩
section
variable {w w':World} {T b1 b2 b3 n1 n2 n3 m:Nat} {g1 g2 g3 g:ByteArray->Option Value}
theorem jV.MS (h:jV w T b1 b2 b3 n1 n2 n3 g1 g2 g3) (a:w.grownBy w' (some b1)) (b:b2≠b1) (c:b3≠b1) (d:T≠b1) (e:eU w' b1 m g):jV w' T b1 b2 b3 m n2 n3 g g2 g3:=
 ⟨(a.block T h.t.lt (by simp [d])).trans h.t,e,h.m2.but a b,h.m3.but a c⟩
theorem jV.KE (h:jV w T b1 b2 b3 n1 n2 n3 g1 g2 g3) (a:w.grownBy w' (some b2)) (b:b1≠b2) (c:b3≠b2) (d:T≠b2) (e:eU w' b2 m g):jV w' T b1 b2 b3 n1 m n3 g1 g g3:=
 ⟨(a.block T h.t.lt (by simp [d])).trans h.t,h.m1.but a b,e,h.m3.but a c⟩
end
theorem IX {l:List aC} (h:cE fS aC.name l=0) {k:Nat} {x:aC} (a:l[k]? = some x) (s:ByteArray) :
 sO (l.take (k+1)) s=if s=x.name then some (.agg (aS x).toArray) else sO (l.take k) s:=by
 unfold sO cC;rw [B7 aC.name (Ap h) a s]
 split <;> rfl
theorem FU {l:List av} (h:cE dP av.name l=0) {k:Nat} {x:av} (a:l[k]? = some x) (s:ByteArray) :
 pJ (l.take (k+1)) s=if s=x.name then some (.agg (aH x).toArray) else pJ (l.take k) s:=by
 unfold pJ bU;rw [B7 av.name (Ap h) a s]
 split <;> rfl
structure D3 (w0 wr:World) (st:ah) (x:StA) (S T b1 b2 b3 n1 n2 n3:Nat) (g1 g2 g3:ByteArray->Option Value):Prop where
 below:Below w0 w0 wr
 box:Blk wr S 26 (stC st x)
 tabs:jV wr T b1 b2 b3 n1 n2 n3 g1 g2 g3
def noG:ByteArray->Option Value:=fun _=>none
def D4 (w:World):World:=(((w.alloc (.map #[] 0)).alloc (.map #[] 0)).alloc (.map #[] 0)).alloc (.cells #[.map (some w),.map (some (w.heap.size+1)),.map (some (w.heap.size+1+1))] 200)
theorem sP (w:World):Below w w (D4 w):=
 ((((Below.refl w w).alloc lJ _).alloc (by simp) _).alloc (by simp; omega) _).alloc (by simp; omega) _
theorem FV (w:World):jV (D4 w) (w.heap.size+1+1+1) w (w.heap.size+1) (w.heap.size+1+1) 0 0 0 noG noG noG:=by
 have d:=eU.made w;have a:=eU.made (w.alloc (.map #[] 0));have b:=eU.made ((w.alloc (.map #[] 0)).alloc (.map #[] 0));have up:∀ (W:World) (o:Obj),Below W W (W.alloc o):=fun W o=>(θ).alloc lJ o;have e:(w.alloc (.map #[] 0)).heap.size=w.heap.size+1:=by simp
 have f:((w.alloc (.map #[] 0)).alloc (.map #[] 0)).heap.size=w.heap.size+1+1:=by simp
 have h:(((w.alloc (.map #[] 0)).alloc (.map #[] 0)).alloc (.map #[] 0)).heap.size=w.heap.size+1+1+1:=by simp
 have c:=n5 (((w.alloc (.map #[] 0)).alloc (.map #[] 0)).alloc (.map #[] 0)) (.cells #[.map (some w),.map (some (w.heap.size+1)),.map (some (w.heap.size+1+1))] 200);rw [e] at a;rw [f] at b;rw [h] at c;refine⟨c,?_,?_,?_⟩
 · exact ((d.below (up _ _) d.lt).below (up _ _) (by simp; omega)).below (up _ _) (by simp; omega)
 · exact (a.below (up _ _) a.lt).below (up _ _) (by simp)
 · exact b.below (up _ _) b.lt
def CT (st:ah) (w:World) (e:Ending) (w':World):Prop:=
 Below w w w'/\((aE st≠0/\e = .returned (.tuple #[.pointer none,(aE st)])) \/
  (aE st=0/\∃ T b1 b2 b3 n1 n2 n3 g3,e = .returned (.tuple #[π T 0,(0:Int)])/\jV w' T b1 b2 b3 n1 n2 n3 (sO st.jobs) (pJ st.nodes) g3/\rF g3 (rV st)))
theorem CT.bad {st:ah} {w w':World} {E:Int} (h:aE st=E) (a:E≠0) (b:Below w w w'):CT st w (.returned (.tuple #[.pointer none,E])) w':=⟨b,.inl ⟨by rw [h]; exact a,by rw [h]⟩⟩
theorem Aq {st:ah} (h:ranged st.rev 0 1099511627776=false):aE st=1:=by unfold aE; rw [if_pos h]
theorem nY {st:ah} (h:ranged st.rev 0 1099511627776=true) (a:dR st=false):aE st=2:=by unfold aE; rw [if_neg (by rw [h]; simp),if_pos a]
theorem CU {st:ah} (h:ranged st.rev 0 1099511627776=true) (a:dR st=true) (b:cE fS aC.name st.jobs≠0):aE st=cE fS aC.name st.jobs:=by
 unfold aE; rw [if_neg (by rw [h]; simp),if_neg (by rw [a]; simp),if_pos b]
theorem Ar {st:ah} (h:ranged st.rev 0 1099511627776=true) (a:dR st=true) (b:cE fS aC.name st.jobs=0) (c:cE dP av.name st.nodes≠0):aE st=cE dP av.name st.nodes:=by
 unfold aE; rw [if_neg (by rw [h]; simp),if_neg (by rw [a]; simp),if_neg (by simp [b]),if_pos c]
theorem CV {st:ah} (h:ranged st.rev 0 1099511627776=true) (a:dR st=true) (b:cE fS aC.name st.jobs=0) (c:cE dP av.name st.nodes=0) :
 aE st=if cE (dN st) ak.job st.leases≠0 then cE (dN st) ak.job st.leases else if lU st=true then 0 else 9:=by
 unfold aE; rw [if_neg (by rw [h]; simp),if_neg (by rw [a]; simp),if_neg (by simp [b]),if_neg (by simp [c])]
def Pz (w0 wr:World) (st:ah) (x:StA) (b a:Nat) (i:Value):Prop:=∃ k:Nat,k<=a/\i = .int .i64 k/\D3 w0 wr st x w0 (b+1+1+1) b (b+1) (b+1+1) k 0 0 (sO (st.jobs.take k)) noG noG
def PA (w0 wr:World) (st:ah) (x:StA) (b n1 a:Nat) (i:Value):Prop:=∃ k:Nat,k<=a/\i = .int .i64 k/\D3 w0 wr st x w0 (b+1+1+1) b (b+1) (b+1+1) n1 k 0 (sO st.jobs) (pJ (st.nodes.take k)) noG
def qL (st:ah) (l:List av):Bool:=l.all fun n=>decide (rV st n.name<=n.room)
theorem uK {st:ah} {l:List av} {k:Nat} {x:av} (h:l[k]? = some x):qL st (l.drop k)=(decide (rV st x.name<=x.room) && qL st (l.drop (k+1))):=by
 rw [drop_cons h]; rfl
def PB (w0 wr:World) (st:ah) (x:StA) (b n1 n2 n3:Nat) (g3:ByteArray->Option Value) (a:Nat) (i:Value):Prop:=
 ∃ k:Nat,k<=a/\i = .int .i64 k/\D3 w0 wr st x w0 (b+1+1+1) b (b+1) (b+1+1) n1 n2 n3 (sO st.jobs) (pJ st.nodes) g3/\qL st (st.nodes.drop k)=lU st
section
variable {α:Type} {p:α->Bool} {l:List α} {k:Nat} {x:α}
theorem B8 (h:l[k]? = some x):l.take (k+1)=l.take k ++ [x]:=by
 obtain⟨hlt,rfl⟩:=List.getElem?_eq_some_iff.1 h;exact (List.take_append_getElem hlt).symm
theorem As (a:(l.take k).find? p=none) (h:l[k]? = some x) (b:p x=true):l.find? p=some x:=by
 have e:l=l.take k ++ x :: l.drop (k+1):=by rw [<- drop_cons h,List.take_append_drop]
 rw [e,List.find?_append,a,List.find?_cons,b]; rfl
theorem xY (a:(l.take k).find? p=none) (h:l[k]? = some x) (b:p x=false):(l.take (k+1)).find? p=none:=by
 rw [B8 h,List.find?_append,a,List.find?_cons,b]; rfl
theorem Au (a:(l.take k).find? p=none) (h:l.length<=k):l.find? p=none:=by rwa [List.take_of_length_le h] at a
end
theorem qM (s:ByteArray):(s.toList == s.toList)=true:=beq_iff_eq.2 rfl
theorem sQ {s t:ByteArray} (h:s≠t):(s.toList == t.toList)=false:=by
 rw [beq_eq_false_iff_ne,ByteArray.toList_eq,ByteArray.toList_eq];exact fun e=>h (ByteArray.ext (Array.toList_inj.1 e))
theorem oP (a b:ByteArray):(a.toList == b.toList)=decide (a=b):=by
 by_cases h:a=b
 · subst h; rw [qM,decide_eq_true rfl]
 · rw [sQ h,decide_eq_false h]
theorem wI {α:Type} (key:α->ByteArray) (s:ByteArray):∀ l:List α,(l.find? fun y=>decide (key y=s)).isSome=l.any fun y=>decide (key y=s)
 | []=>rfl
 | a :: l=>by
  have b:=wI key s l;rw [List.find?_cons,List.any_cons];by_cases h:key a=s
  · rw [decide_eq_true h]; rfl
  · rw [decide_eq_false h,Bool.false_or]; exact b
def IY (xs:List aC) (s:ByteArray) (w:World) (e:Ending) (w':World):Prop:=
 ∃ i:Int,e = .returned (.int .i64 i)/\Below w w w'/\((i = -1/\cC xs s=none)\/∃ (k:Nat) (x:aC),i=(k:Int)/\xs[k]? = some x/\cC xs s=some x)
def KF (xs:List aC) (s:ByteArray) (n:Nat) (w:World) (i:Value) (wr:World):Prop:=∃ k:Nat,k<=n/\i = .int .i64 k/\(xs.take k).find? (fun x=>decide (x.name=s))=none/\Below w w wr
def FW (xs:List av) (s:ByteArray) (w:World) (e:Ending) (w':World):Prop:=
 ∃ i:Int,e = .returned (.int .i64 i)/\Below w w w'/\((i = -1/\bU xs s=none)\/∃ (k:Nat) (x:av),i=(k:Int)/\xs[k]? = some x/\bU xs s=some x)
def IZ (xs:List av) (s:ByteArray) (n:Nat) (w:World) (i:Value) (wr:World):Prop:=∃ k:Nat,k<=n/\i = .int .i64 k/\(xs.take k).find? (fun x=>decide (x.name=s))=none/\Below w w wr
theorem fJ :
 (∀ (xs:List aC) (s:ByteArray) (A:Option Addr) (n c:Nat) (w:World) (a:bC w w 5 A n (au aS xs)) (e:xs.length=n) (B:n<=9223372036854775807),ψ 18 #[.slice A n c,s] w (IY xs s w)) /\
 (∀ (xs:List av) (s:ByteArray) (A:Option Addr) (n c:Nat) (w:World) (a:bC w w 3 A n (au aH xs)) (e:xs.length=n) (B:n<=9223372036854775807),ψ 19 #[.slice A n c,s] w (FW xs s w)):=by
 refine⟨@fun xs s A n c w a e B=>(fun(h:Unit)=>?_) (),@fun xs s A n c w a e B=>(fun(E:Unit)=>?_) ()⟩<;>(
 first|(guard_hyp h;have F:=@aT)|(have F:=@aO)
 have r:=ω e;clear e
 first|(guard_hyp h;go_enter Tryz.func18,Tryz.ntmps18)|go_enter Tryz.func19,Tryz.ntmps19
 go_wp2
 first|(guard_hyp h;go_loopw [4,5,6,9] (fun _ _ _ i wr=>KF xs s n w i wr) (fun _ _ _ i _=>n - (intOf i).toNat))|go_loopw [4,5,6,9] (fun _ _ _ i wr=>IZ xs s n w i wr) (fun _ _ _ i _=>n - (intOf i).toNat)
 case atStart=>exact⟨0,Nat.zero_le _,rfl,by simp,θ⟩
 case round=>
  obtain⟨k,R,rfl,D,o⟩:=hrel;have u:=ω D;have b:=ω o;have U:=o.size;clear D;by_cases hlt:k<n
  · obtain⟨x,z⟩:∃ x,xs[k]? = some x:=⟨_,gO (by rw [r.z]; exact hlt)⟩;obtain⟨G,V,rfl,Q,y⟩:=(a.below o).eC F r.z z;have q:=ω z
    first
     |(
      guard_hyp h
      obtain⟨j,K,J,N,M⟩:=x;obtain⟨c0,H,c2,P,c4⟩:=rc5 y)
     |(
      guard_hyp E
      obtain⟨j,L,O⟩:=x;obtain⟨c0,H,c2⟩:=rc3 y)
    clear y z a o;have S:G<wr.heap.size:=by omega
    first
     |(
      guard_hyp h
      have v:=ω (b.alloc b.size (.cells #[j,K,J,N,M] 85)))
     |(
      guard_hyp E
      have v:=ω (b.alloc b.size (.cells #[j,L,O] 70)))
    by_cases C:j=s
    · subst C;have I:=qM j;have d:=ω (As u.z q.z (by simp));go_wp2;go_ret;exact⟨_,rfl,v,.inr ⟨k,_,rfl,q,d⟩⟩
    · have I:=sQ C;have d:=ω (xY u.z q.z (by simp [C]));go_wp2
      go_roundw
      case rel=>exact⟨k+1,by omega,by go_num,d.z,v.z⟩
      case measure=>simp [intOf]; omega
  · have d:=ω (Au u.z (by rw [r.z]; omega));clear a;go_wp2;go_ret;exact⟨_,rfl,b,.inl ⟨rfl,d⟩⟩)
theorem uL {α:Type} {xs:List α} {k:Nat} {x:α} (h:xs[k]? = some x):xs.take (k+1)=xs.take k ++ [x]:=by
 rw [List.take_add_one,h]; rfl
theorem jP {α:Type} {xs a:List α} {k:Nat} {x:α} (b:xs[k]? = some x) (c:a[k]? = some x) (h:xs.take k=a.take k):xs.take (k+1)=a.take (k+1):=by
 rw [uL b,uL c,h]
theorem oV {α:Type} {xs b:List α} {k:Nat} {x y:α} (c:xs[k]? = some x) (a:b[k]? = some y) (h:x≠y):xs≠b:=by
 rintro rfl; rw [c] at a; injection a with a; exact h a
theorem dJ {a b:ByteArray} (h:a.toList=b.toList):a=b:=by rw [ByteArray.toList_eq,ByteArray.toList_eq] at h; exact ByteArray.ext (Array.toList_inj.1 h)
def KG {α:Type} (xs a:List α) (n:Nat) (w:World) (i:Value) (wr:World):Prop:=∃ k:Nat,k<=n/\i = .int .i64 k/\xs.take k=a.take k/\Below w w wr
def Av {α:Type} (xs a:List α) (w:World) (e:Ending) (w':World):Prop:=∃ t:Bool,e = .returned (.bool t)/\(t=true↔xs=a)/\Below w w w'
theorem Aw (h f u s:ByteArray) (q n r o j i:Int):∃ t:Bool,(t=true↔(⟨h,q,r,j,u⟩:aC)=⟨f,n,o,i,s⟩)/\(∀ W,(binOp .neq 85 (.agg #[h,q,r,j,u]) (.agg #[f,n,o,i,s])).run Tryz.prog W = .ok (.bool (!t)) W)/\(∀ W,(binOp .eql 85 (.agg #[h,q,r,j,u]) (.agg #[f,n,o,i,s])).run Tryz.prog W = .ok (.bool t) W):=by
 by_cases v:(⟨h,q,r,j,u⟩:aC)=⟨f,n,o,i,s⟩
 · injection v with z B C D E;subst z; subst B; subst C; subst D; subst E;exact⟨true,⟨fun _=>rfl,fun _=>rfl⟩,fun W=>by simp [go_sem],fun W=>by simp [go_sem]⟩
 · refine⟨false,⟨fun y=>(by cases y),fun y=>absurd y v⟩,fun W=>?_,fun W=>?_⟩
   · by_cases a:h.toList=f.toList;rotate_left
     · simp [go_sem,a]
     by_cases b:q=n;rotate_left
     · simp [go_sem,a,b]
     by_cases c:r=o;rotate_left
     · simp [go_sem,a,b,c]
     by_cases e:j=i;rotate_left
     · simp [go_sem,a,b,c,e]
     by_cases d:u.toList=s.toList;rotate_left
     · simp [go_sem,a,b,c,e,d]
     refine absurd ?_ v;have a:=dJ a; subst a;subst b;subst c;subst e;have d:=dJ d; subst d;rfl
   · by_cases a:h.toList=f.toList;rotate_left
     · simp [go_sem,a]
     by_cases b:q=n;rotate_left
     · simp [go_sem,a,b]
     by_cases c:r=o;rotate_left
     · simp [go_sem,a,b,c]
     by_cases e:j=i;rotate_left
     · simp [go_sem,a,b,c,e]
     by_cases d:u.toList=s.toList;rotate_left
     · simp [go_sem,a,b,c,e,d]
     refine absurd ?_ v;have a:=dJ a; subst a;subst b;subst c;subst e;have d:=dJ d; subst d;rfl
theorem xZ (e d i f:ByteArray) (j h:Int):∃ t:Bool,(t=true↔(⟨e,j,i⟩:av)=⟨d,h,f⟩)/\(∀ W,(binOp .neq 70 (.agg #[e,j,i]) (.agg #[d,h,f])).run Tryz.prog W = .ok (.bool (!t)) W)/\(∀ W,(binOp .eql 70 (.agg #[e,j,i]) (.agg #[d,h,f])).run Tryz.prog W = .ok (.bool t) W):=by
 by_cases n:(⟨e,j,i⟩:av)=⟨d,h,f⟩
 · injection n with q r s;subst q; subst r; subst s;exact⟨true,⟨fun _=>rfl,fun _=>rfl⟩,fun W=>by simp [go_sem],fun W=>by simp [go_sem]⟩
 · refine⟨false,⟨fun o=>(by cases o),fun o=>absurd o n⟩,fun W=>?_,fun W=>?_⟩
   · by_cases a:e.toList=d.toList;rotate_left
     · simp [go_sem,a]
     by_cases c:j=h;rotate_left
     · simp [go_sem,a,c]
     by_cases b:i.toList=f.toList;rotate_left
     · simp [go_sem,a,c,b]
     refine absurd ?_ n;have a:=dJ a; subst a;subst c;have b:=dJ b; subst b;rfl
   · by_cases a:e.toList=d.toList;rotate_left
     · simp [go_sem,a]
     by_cases c:j=h;rotate_left
     · simp [go_sem,a,c]
     by_cases b:i.toList=f.toList;rotate_left
     · simp [go_sem,a,c,b]
     refine absurd ?_ n;have a:=dJ a; subst a;subst c;have b:=dJ b; subst b;rfl
theorem vw (i h e c:ByteArray) (f d:Int):∃ t:Bool,(t=true↔(⟨i,e,f⟩:ak)=⟨h,c,d⟩)/\(∀ W,(binOp .neq 66 (.agg #[i,e,f]) (.agg #[h,c,d])).run Tryz.prog W = .ok (.bool (!t)) W)/\(∀ W,(binOp .eql 66 (.agg #[i,e,f]) (.agg #[h,c,d])).run Tryz.prog W = .ok (.bool t) W):=by
 by_cases n:(⟨i,e,f⟩:ak)=⟨h,c,d⟩
 · injection n with q r s;subst q; subst r; subst s;exact⟨true,⟨fun _=>rfl,fun _=>rfl⟩,fun W=>by simp [go_sem],fun W=>by simp [go_sem]⟩
 · refine⟨false,⟨fun o=>(by cases o),fun o=>absurd o n⟩,fun W=>?_,fun W=>?_⟩
   · by_cases a:i.toList=h.toList;rotate_left
     · simp [go_sem,a]
     by_cases b:e.toList=c.toList;rotate_left
     · simp [go_sem,a,b]
     by_cases j:f=d;rotate_left
     · simp [go_sem,a,b,j]
     refine absurd ?_ n;have a:=dJ a; subst a;have b:=dJ b; subst b;subst j;rfl
   · by_cases a:i.toList=h.toList;rotate_left
     · simp [go_sem,a]
     by_cases b:e.toList=c.toList;rotate_left
     · simp [go_sem,a,b]
     by_cases j:f=d;rotate_left
     · simp [go_sem,a,b,j]
     refine absurd ?_ n;have a:=dJ a; subst a;have b:=dJ b; subst b;subst j;rfl
def Ax (d:Type) (e:Nat) (f:d->List Value) (i:FuncId):Prop:=
 ∀ (xs a:List d) (A b:Option Addr) (n m c h:Nat) (w:World) (q:bC w w e A n (au f xs)) (r:bC w w e b m (au f a)) (s:xs.length=n) (t:a.length=m) (o:n<=9223372036854775807) (j:m<=9223372036854775807),ψ i #[.slice A n c,.slice b m h] w (Av xs a w)
theorem Ay:Ax aC 5 aS 33 /\ Ax av 3 aH 34 /\ Ax ak 3 aB 35:=by
 refine⟨@fun xs ys A A' v m ad c' w U V lx ly hn hm=>(fun(b:Unit)=>?_) (),@fun xs ys A A' v m ad c' w U V lx ly hn hm=>(fun(d:Unit)=>?_) (),@fun xs ys A A' v m ad c' w U V lx ly hn hm=>(fun(X:Unit)=>?_) ()⟩<;>(
 first|(guard_hyp b;have ab:=@aT)|(guard_hyp d;have ab:=@aO)|(have ab:=@aI)
 by_cases h:v=m
 · subst h;have h0:((v:Int) != v)=false:=by simp
   have Lx:=ω lx;have Ly:=ω ly;clear lx ly
   first|(guard_hyp b;go_enter Tryz.func33,Tryz.ntmps33)|(guard_hyp d;go_enter Tryz.func34,Tryz.ntmps34)|go_enter Tryz.func35,Tryz.ntmps35
   go_wp2
   go_loopw [5,6,14] (fun _ _ ac wr=>KG xs ys v w ac wr) (fun _ _ ac _=>v - (intOf ac).toNat)
   case atStart=>exact⟨0,Nat.zero_le _,rfl,rfl,θ⟩
   case round=>
    obtain⟨k,hk,rfl,he,C⟩:=hrel;have He:=ω he;clear he;by_cases hlt:k<v
    · obtain⟨x,s⟩:∃ x,xs[k]? = some x:=⟨_,gO (by rw [Lx.z]; exact hlt)⟩;obtain⟨y,u⟩:∃ y,ys[k]? = some y:=⟨_,gO (by rw [Ly.z]; exact hlt)⟩;obtain⟨e,o,rfl,ai,j⟩:=(U.below C).eC ab Lx.z s;obtain⟨i,q,rfl,Az,n⟩:=(V.below C).eC ab Ly.z u
      first
       |(
        guard_hyp b
        obtain⟨a,D,E,B,J⟩:=x;obtain⟨c,N,O,M,Y⟩:=y)
       |(
        guard_hyp d
        obtain⟨a,G,F⟩:=x;obtain⟨c,Q,P⟩:=y)
       |(
        guard_hyp X
        obtain⟨K,H,I⟩:=x;obtain⟨Z,R,S⟩:=y)
      first|(guard_hyp b;have c0:ζ wr e (o+k*5) (.string a):=j 0 _ rfl)|(guard_hyp d;have c0:ζ wr e (o+k*3) (.string a):=j 0 _ rfl)|have c0:ζ wr e (o+k*3) (.string K):=j 0 _ rfl
      first|(guard_hyp b;have d0:ζ wr i (q+k*5) (.string c):=n 0 _ rfl)|(guard_hyp d;have d0:ζ wr i (q+k*3) (.string c):=n 0 _ rfl)|have d0:ζ wr i (q+k*3) (.string Z):=n 0 _ rfl
      first
       |(
        guard_hyp b
        have c1:ζ wr e (o+k*5+1) (.int .i64 D):=j 1 _ rfl;have d1:ζ wr i (q+k*5+1) (.int .i64 N):=n 1 _ rfl;have c2:ζ wr e (o+k*5+2) (.int .i64 E):=j 2 _ rfl;have d2:ζ wr i (q+k*5+2) (.int .i64 O):=n 2 _ rfl)
       |(
        guard_hyp X
        have c1:ζ wr e (o+k*3+1) (.string H):=j 1 _ rfl;have d1:ζ wr i (q+k*3+1) (.string R):=n 1 _ rfl)
       |skip
      first|(guard_hyp b;have c3:ζ wr e (o+k*5+3) (.int .i64 B):=j 3 _ rfl)|(guard_hyp d;have c1:ζ wr e (o+k*3+1) (.int .i64 G):=j 1 _ rfl)|have c2:ζ wr e (o+k*3+2) (.int .i64 I):=j 2 _ rfl
      first|(guard_hyp b;have d3:ζ wr i (q+k*5+3) (.int .i64 M):=n 3 _ rfl)|(guard_hyp d;have d1:ζ wr i (q+k*3+1) (.int .i64 Q):=n 1 _ rfl)|have d2:ζ wr i (q+k*3+2) (.int .i64 S):=n 2 _ rfl
      first
       |(
        guard_hyp b
        have c4:ζ wr e (o+k*5+4) (.string J):=j 4 _ rfl;have d4:ζ wr i (q+k*5+4) (.string Y):=n 4 _ rfl)
       |(
        guard_hyp d
        have c2:ζ wr e (o+k*3+2) (.string F):=j 2 _ rfl;have d2:ζ wr i (q+k*3+2) (.string P):=n 2 _ rfl)
       |skip
      have am:=C.size;have aj:e<wr.heap.size:=by omega
      have al:i<wr.heap.size:=by omega
      have L:=ω C;have ag:=ω s;have ah:=ω u
      first
       |(
        guard_hyp b
        have z:=ω ((L.alloc L.size (.cells #[a,D,E,B,J] 85)).drew);have step:=ω (fun (h:(⟨a,D,E,B,J⟩:aC)=⟨c,N,O,M,Y⟩)=>jP (s.trans (congrArg some h)) u He.z);have stop:=ω (fun (h:(⟨a,D,E,B,J⟩:aC)≠⟨c,N,O,M,Y⟩)=>oV s u h))
       |(
        guard_hyp d
        have z:=ω ((L.alloc L.size (.cells #[a,G,F] 70)).drew);have step:=ω (fun (h:(⟨a,G,F⟩:av)=⟨c,Q,P⟩)=>jP (s.trans (congrArg some h)) u He.z);have stop:=ω (fun (h:(⟨a,G,F⟩:av)≠⟨c,Q,P⟩)=>oV s u h))
       |(
        guard_hyp X
        have z:=ω ((L.alloc L.size (.cells #[K,H,I] 66)).drew);have step:=ω (fun (h:(⟨K,H,I⟩:ak)=⟨Z,R,S⟩)=>jP (s.trans (congrArg some h)) u He.z);have stop:=ω (fun (h:(⟨K,H,I⟩:ak)≠⟨Z,R,S⟩)=>oV s u h))
      clear j n U V s u C
      first
       |(
        guard_hyp b
        obtain⟨t,ht,r,-⟩:=Aw a c J Y D N E O B M)
       |(
        guard_hyp d
        obtain⟨t,ht,r,-⟩:=xZ a c F P G Q)
       |(
        guard_hyp X
        obtain⟨t,ht,r,-⟩:=vw K Z H R I S)
      have HT:=ω ht;cases t
      · have D5:=ω (stop.z (fun h=>absurd (HT.z.2 h) (by decide)))
        first
         |(
          guard_hyp b
          have aa:∀ W,(binOp .neq 85 (.agg #[a,D,E,B,J]) (.agg #[c,N,O,M,Y])).run Tryz.prog W = .ok (.bool true) W:=r)
         |(
          guard_hyp d
          have aa:∀ W,(binOp .neq 70 (.agg #[a,G,F]) (.agg #[c,Q,P])).run Tryz.prog W = .ok (.bool true) W:=r)
         |(
          guard_hyp X
          have aa:∀ W,(binOp .neq 66 (.agg #[K,H,I]) (.agg #[Z,R,S])).run Tryz.prog W = .ok (.bool true) W:=r)
        clear ht r step;go_wp2
        go_region
        go_wp2;go_ret;exact⟨false,rfl,⟨fun h=>(by cases h),fun h=>absurd h D5.z⟩,z⟩
      · have af:=ω (step.z (HT.z.1 rfl))
        first
         |(
          guard_hyp b
          have aa:∀ W,(binOp .neq 85 (.agg #[a,D,E,B,J]) (.agg #[c,N,O,M,Y])).run Tryz.prog W = .ok (.bool false) W:=r)
         |(
          guard_hyp d
          have aa:∀ W,(binOp .neq 70 (.agg #[a,G,F]) (.agg #[c,Q,P])).run Tryz.prog W = .ok (.bool false) W:=r)
         |(
          guard_hyp X
          have aa:∀ W,(binOp .neq 66 (.agg #[K,H,I]) (.agg #[Z,R,S])).run Tryz.prog W = .ok (.bool false) W:=r)
        clear ht r stop;go_wp2
        go_region
        go_wp2
        go_roundw
        case rel=>exact⟨k+1,by omega,by go_num,af.z,z.z⟩
        case measure=>simp [intOf]; omega
    · have z:=ω C
      have same:=ω (show xs=ys by
       have ae:=He.z;rwa [List.take_of_length_le (by rw [Lx.z]; omega),List.take_of_length_le (by rw [Ly.z]; omega)] at ae)
      clear C U V;go_wp2;go_ret;exact⟨true,rfl,⟨fun _=>same.z,fun _=>rfl⟩,z⟩
 · have h0:((v:Int) != m)=true:=by simp; omega
   have z:=ω (show xs≠ys by rintro rfl; omega);clear lx ly U V
   first|(guard_hyp b;go_enter Tryz.func33,Tryz.ntmps33)|(guard_hyp d;go_enter Tryz.func34,Tryz.ntmps34)|go_enter Tryz.func35,Tryz.ntmps35
   go_wp2;go_ret;exact⟨false,rfl,⟨fun h=>(by cases h),fun h=>absurd h z.z⟩,θ⟩)
end Go.Proofs.YtimglglgcgpjgaaGreatDoor
