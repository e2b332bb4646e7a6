/- Of the proof of a statement: Take, OwnSet, StAt, StOwn, OwnMore, PlGood, Text. -/
import Derived.Lib.ValidLaws
import Derived.Test.YtoeejfhdjmkpcaaGreatDoorTRdRow
import Derived.Test.YtoeejfhdjmkpcaaGreatDoorTRowsL
import Derived.Test.YtoeejfhdjmkpcaaGreatDoorTRowsP
set_option linter.unusedVariables false
set_option linter.unusedSimpArgs false
set_option maxRecDepth 100000
set_option maxHeartbeats 8000000
/- The walks of Take: the rows of a table, read one by one. -/
namespace Go.Proofs.YtoeejfhdjmkpcaaGreatDoor
open Go.Lib (hid)
open Go.RowKit
theorem Cy (g:Nat) (σ:RR Unit) (v:Int) (w:World) (h:iQ w g σ) :
 Calls Tryz.prog 73 #[.pointer (some ⟨g,0,none⟩),.int .i64 v] w (pA g (σ.bind fun _ s=>mP v s) (fun x:aD=>.agg (aL x).toArray) (fun _=>True) w):=by
 by_cases h1:1<v
 · by_cases h2:2<v
   · exact Gg g σ v w h1 h2 h
   · exact Gh g σ v w h1 h2 h
 · exact Gi g σ v w h1 (by omega) h
theorem yB:(Tryz.prog.info? 34).map (fun i=>(i.zero,i.size,i.bytes))=some (some (.agg #[.string ⟨#[]⟩,.int .i64 0,.int .i64 0,.int .i64 0,.string ⟨#[]⟩]),5,56):=by kernel_rfl
theorem vM:(Tryz.prog.info? 36).map (fun i=>(i.zero,i.size,i.bytes))=some (some (.agg #[.string ⟨#[]⟩,.int .i64 0,.string ⟨#[]⟩]),3,40):=by kernel_rfl
theorem tD:(Tryz.prog.info? 38).map (fun i=>(i.zero,i.size,i.bytes))=some (some (.agg #[.string ⟨#[]⟩,.string ⟨#[]⟩,.int .i64 0]),3,40):=by kernel_rfl
theorem tQ:(Tryz.prog.info? 9).map (fun i=>(i.zero,i.size,i.bytes))=some (some (.string ⟨#[]⟩),1,16):=by kernel_rfl
theorem vL (x:aD):∀ u ∈ aL x,u.oneCell'=true:=by intro u hu; simp [aL] at hu; rcases hu with rfl | rfl | rfl | rfl | rfl <;> rfl
theorem tC (x:aA):∀ u ∈ aC x,u.oneCell'=true:=by intro u hu; simp [aC] at hu; rcases hu with rfl | rfl | rfl <;> rfl
theorem rN (x:ak):∀ u ∈ av x,u.oneCell'=true:=by intro u hu; simp [av] at hu; rcases hu with rfl | rfl | rfl <;> rfl
theorem qX (x:ByteArray):∀ u ∈ lC x,u.oneCell'=true:=by intro u hu; simp [lC] at hu; subst hu; rfl
theorem bT {w w':World} {base g n sz:Nat} {e:TypeId} {v:Value} {xs:List Value} (ho:w.ownsRow base e sz v n xs) (hg:w.grownBy w' (some g)) (hgb:g<base):w'.ownsRow base e sz v n xs:=by
 rcases ho with ⟨h1,h | ⟨q,cap,cur,hv,hq,hgq,r⟩⟩
 · exact⟨h1,.inl h⟩
 · have hlt:q<w.heap.size:=(Array.getElem?_eq_some_iff.1 hgq).1
   exact⟨h1,.inr ⟨q,cap,cur,hv,hq,(hg.block q hlt (by simp; omega)).trans hgq,r⟩⟩
end Go.Proofs.YtoeejfhdjmkpcaaGreatDoor
/- A cell of a row of the call's own is set. -/
namespace Go.Proofs.YtoeejfhdjmkpcaaGreatDoor
open Go.Lib (hid)
open Go.RowKit
theorem Es {w:World} {base sz n g c:Nat} {e:TypeId} {xs:List Value} (ho:w.ownsRow base e sz (.slice (some ⟨g,0,none⟩) n c) n xs) (j:Nat) (hj:j<n*sz) (u:Value) :
 (w.setCell ⟨g,j,none⟩ u).ownsRow base e sz (.slice (some ⟨g,0,none⟩) n c) n (xs.set j u)∧w.frozen? ⟨g,j,none⟩=false∧g<w.heap.size∧base≤g:=by
 obtain⟨h1,h | ⟨q,cap,cur,hv,hq,hgq,h2,h3,h4,h5⟩⟩:=ho
 · cases h.1
 · injection hv with e1 e2 e3
   injection e1 with e1
   injection e1 with e1
   subst e1
   subst e3
   have hB:Blk w g e cur:=hgq
   refine⟨⟨by simpa using h1,.inr ⟨g,c,cur.setIfInBounds j u,rfl,hq,hB.set j u,h2,h3,by simpa using h4,?_⟩⟩,hB.thaw j,hB.lt,hq⟩
   rw [Array.toList_setIfInBounds,List.take_set,h5]
theorem vT {α:Type} {enc:α→List Value} {sz:Nat} (h:∀ a,(enc a).length=sz):∀ (l:List α) (i k:Nat) (a a':α) (u:Value),l[i]? = some a→k<sz→(enc a).set k u=enc a'→(au enc l).set (i*sz+k) u=au enc (l.set i a')
 | [],i,k,a,a',u,hi,_,_=>by simp at hi
 | b :: l,0,k,a,a',u,hi,hk,he=>by
  simp only [List.getElem?_cons_zero,Option.some.injEq] at hi
  subst hi
  unfold au
  rw [List.set_cons_zero,List.flatMap_cons,List.flatMap_cons,Nat.zero_mul,Nat.zero_add,List.set_append_left _ _ (by rw [h]; exact hk),he]
 | b :: l,i+1,k,a,a',u,hi,hk,he=>by
  have ih:=vT h l i k a a' u (by simpa using hi) hk he
  unfold au at ih ⊢
  rw [List.set_cons_succ,List.flatMap_cons,List.flatMap_cons,List.set_append_right _ _ (by rw [h,Nat.add_mul]; omega),h,show (i+1)*sz+k - sz=i*sz+k from by rw [Nat.add_mul]; omega,ih]
end Go.Proofs.YtoeejfhdjmkpcaaGreatDoor
/- A state in memory. -/
namespace Go.Proofs.YtoeejfhdjmkpcaaGreatDoor
open Go.Lib (hid)
open Go.RowKit
structure StA where
 aj:Option Addr
 nj:Nat
 cj:Nat
 an:Option Addr
 nn:Nat
 cn:Nat
 al:Option Addr
 nl:Nat
 cl:Nat
def stC (st:ah) (x:StA):Array Value:=#[.int .i64 st.rev,.slice x.aj x.nj x.cj,.slice x.an x.nn x.cn,.slice x.al x.nl x.cl]
structure StAt (w:World) (B:Nat) (st:ah) (x:StA):Prop where
 j:aW w B 5 x.aj x.nj (au aL st.jobs)
 n:aW w B 3 x.an x.nn (au aC st.nodes)
 l:aW w B 3 x.al x.nl (au av st.leases)
 lj:st.jobs.length=x.nj
 ln:st.nodes.length=x.nn
 ll:st.leases.length=x.nl
 bj:x.nj≤9223372036854775807
 bn:x.nn≤9223372036854775807
 bl:x.nl≤9223372036854775807
 oj:lB st.jobs
 on_:jR st.nodes
 ol:iS st.leases
theorem StAt.below {w w':World} {B:Nat} {st:ah} {x:StA} (h:StAt w B st x) (hb:Below B w w'):StAt w' B st x:=
 ⟨h.j.below hb,h.n.below hb,h.l.below hb,h.lj,h.ln,h.ll,h.bj,h.bn,h.bl,h.oj,h.on_,h.ol⟩
theorem StAt.more {w:World} {B B':Nat} {st:ah} {x:StA} (h:StAt w B st x) (hB:B≤B'):StAt w B' st x:=
 ⟨h.j.more hB,h.n.more hB,h.l.more hB,h.lj,h.ln,h.ll,h.bj,h.bn,h.bl,h.oj,h.on_,h.ol⟩
theorem below_grown {w0 a b:World} {g:Nat} (hb:Below w0.heap.size w0 a) (hg:a.grownBy b (some g)) (h:w0.heap.size≤g):Below w0.heap.size w0 b:=
 ⟨hg.os.trans hb.os,hg.tape.trans hb.tape,hg.output.trans hb.output,Nat.le_trans hb.size hg.size,fun k hk=>
  (hg.block k (Nat.lt_of_lt_of_le hk hb.size) (by simp; omega)).trans (hb.block k hk)⟩
section
variable {w w':World} {T b1 b2 b3 n1 n2 n3 m:Nat} {g1 g2 g3 g:ByteArray→Option Value}
theorem gB.Gj (h:gB w T b1 b2 b3 n1 n2 n3 g1 g2 g3) (hg:w.grownBy w' (some b1)) (h2:b2≠b1) (h3:b3≠b1) (hT:T≠b1) (hm:dF w' b1 m g):gB w' T b1 b2 b3 m n2 n3 g g2 g3:=
 ⟨(hg.block T h.t.lt (by simp [hT])).trans h.t,hm,h.m2.but hg h2,h.m3.but hg h3⟩
theorem gB.Et (h:gB w T b1 b2 b3 n1 n2 n3 g1 g2 g3) (hg:w.grownBy w' (some b2)) (h1:b1≠b2) (h3:b3≠b2) (hT:T≠b2) (hm:dF w' b2 m g):gB w' T b1 b2 b3 n1 m n3 g1 g g3:=
 ⟨(hg.block T h.t.lt (by simp [hT])).trans h.t,h.m1.but hg h1,hm,h.m3.but hg h3⟩
end
theorem Cz {l:List aD} (h:cE fF aD.name l=0) {k:Nat} {x:aD} (hx:l[k]? = some x) (s:ByteArray) :
 nG (l.take (k+1)) s=if s=x.name then some (.agg (aL x).toArray) else nG (l.take k) s:=by
 unfold nG cP
 rw [vZ aD.name (uA h) hx s]
 split <;> rfl
theorem AU {l:List aA} (h:cE eP aA.name l=0) {k:Nat} {x:aA} (hx:l[k]? = some x) (s:ByteArray) :
 kS (l.take (k+1)) s=if s=x.name then some (.agg (aC x).toArray) else kS (l.take k) s:=by
 unfold kS cL
 rw [vZ aA.name (uA h) hx s]
 split <;> rfl
structure zq (w0 wr:World) (st:ah) (x:StA) (S T b1 b2 b3 n1 n2 n3:Nat) (g1 g2 g3:ByteArray→Option Value):Prop where
 below:Below w0.heap.size w0 wr
 box:Blk wr S 26 (stC st x)
 tabs:gB wr T b1 b2 b3 n1 n2 n3 g1 g2 g3
def noG:ByteArray→Option Value:=fun _=>none
def zu (w:World):World:=(((w.alloc (.map #[] 0)).alloc (.map #[] 0)).alloc (.map #[] 0)).alloc (.cells #[.map (some w.heap.size),.map (some (w.heap.size+1)),.map (some (w.heap.size+1+1))] 324)
theorem nH (w:World):Below w.heap.size w (zu w):=
 ((((Below.refl w.heap.size w).alloc (Nat.le_refl _) _).alloc (by simp) _).alloc (by simp; omega) _).alloc (by simp; omega) _
theorem AV (w:World):gB (zu w) (w.heap.size+1+1+1) w.heap.size (w.heap.size+1) (w.heap.size+1+1) 0 0 0 noG noG noG:=by
 have m1:=dF.made w
 have m2:=dF.made (w.alloc (.map #[] 0))
 have m3:=dF.made ((w.alloc (.map #[] 0)).alloc (.map #[] 0))
 have up:∀ (W:World) (o:Obj),Below W.heap.size W (W.alloc o):=fun W o=>(Below.refl _ _).alloc (Nat.le_refl _) o
 have e1:(w.alloc (.map #[] 0)).heap.size=w.heap.size+1:=by simp
 have e2:((w.alloc (.map #[] 0)).alloc (.map #[] 0)).heap.size=w.heap.size+1+1:=by simp
 have e3:(((w.alloc (.map #[] 0)).alloc (.map #[] 0)).alloc (.map #[] 0)).heap.size=w.heap.size+1+1+1:=by simp
 have hB:=heap_alloc_new (((w.alloc (.map #[] 0)).alloc (.map #[] 0)).alloc (.map #[] 0)) (.cells #[.map (some w.heap.size),.map (some (w.heap.size+1)),.map (some (w.heap.size+1+1))] 324)
 rw [e1] at m2
 rw [e2] at m3
 rw [e3] at hB
 refine⟨hB,?_,?_,?_⟩
 · exact ((m1.below (up _ _) m1.lt).below (up _ _) (by simp; omega)).below (up _ _) (by simp; omega)
 · exact (m2.below (up _ _) m2.lt).below (up _ _) (by simp)
 · exact m3.below (up _ _) m3.lt
def xw (st:ah) (w:World) (e:Ending) (w':World):Prop:=
 Below w.heap.size w w'∧((aG st≠0∧e = .returned (.tuple #[.pointer none,.int .i64 (aG st)])) ∨
  (aG st=0∧∃ T b1 b2 b3 n1 n2 n3 g3,e = .returned (.tuple #[.pointer (some ⟨T,0,none⟩),.int .i64 0])∧gB w' T b1 b2 b3 n1 n2 n3 (nG st.jobs) (kS st.nodes) g3∧mD g3 (qm st)))
theorem xw.bad {st:ah} {w w':World} {E:Int} (h:aG st=E) (hE:E≠0) (hb:Below w.heap.size w w'):xw st w (.returned (.tuple #[.pointer none,.int .i64 E])) w':=⟨hb,.inl ⟨by rw [h]; exact hE,by rw [h]⟩⟩
theorem Dn {st:ah} (h:ranged st.rev 0 1099511627776=false):aG st=1:=by unfold aG; rw [if_pos h]
theorem pM {st:ah} (h:ranged st.rev 0 1099511627776=true) (h2:dW st=false):aG st=2:=by unfold aG; rw [if_neg (by rw [h]; simp),if_pos h2]
theorem Gk {st:ah} (h:ranged st.rev 0 1099511627776=true) (h2:dW st=true) (h3:cE fF aD.name st.jobs≠0):aG st=cE fF aD.name st.jobs:=by
 unfold aG; rw [if_neg (by rw [h]; simp),if_neg (by rw [h2]; simp),if_pos h3]
theorem Eu {st:ah} (h:ranged st.rev 0 1099511627776=true) (h2:dW st=true) (h3:cE fF aD.name st.jobs=0) (h4:cE eP aA.name st.nodes≠0):aG st=cE eP aA.name st.nodes:=by
 unfold aG; rw [if_neg (by rw [h]; simp),if_neg (by rw [h2]; simp),if_neg (by simp [h3]),if_pos h4]
theorem Gl {st:ah} (h:ranged st.rev 0 1099511627776=true) (h2:dW st=true) (h3:cE fF aD.name st.jobs=0) (h4:cE eP aA.name st.nodes=0) :
 aG st=if cE (gC st) ak.job st.leases≠0 then cE (gC st) ak.job st.leases else if lI st=true then 0 else 9:=by
 unfold aG; rw [if_neg (by rw [h]; simp),if_neg (by rw [h2]; simp),if_neg (by simp [h3]),if_neg (by simp [h4])]
def Je (w0 wr:World) (st:ah) (x:StA) (b nj:Nat) (i:Value):Prop:=∃ k:Nat,k≤nj∧i = .int .i64 k∧zq w0 wr st x w0.heap.size (b+1+1+1) b (b+1) (b+1+1) k 0 0 (nG (st.jobs.take k)) noG noG
def Jf (w0 wr:World) (st:ah) (x:StA) (b n1 nn:Nat) (i:Value):Prop:=∃ k:Nat,k≤nn∧i = .int .i64 k∧zq w0 wr st x w0.heap.size (b+1+1+1) b (b+1) (b+1+1) n1 k 0 (nG st.jobs) (kS (st.nodes.take k)) noG
def qo (st:ah) (l:List aA):Bool:=l.all fun n=>decide (qm st n.name≤n.room)
theorem vw {st:ah} {l:List aA} {k:Nat} {x:aA} (h:l[k]? = some x):qo st (l.drop k)=(decide (qm st x.name≤x.room) && qo st (l.drop (k+1))):=by
 rw [drop_cons h]; rfl
def Jg (w0 wr:World) (st:ah) (x:StA) (b n1 n2 n3:Nat) (g3:ByteArray→Option Value) (nn:Nat) (i:Value):Prop:=
 ∃ k:Nat,k≤nn∧i = .int .i64 k∧zq w0 wr st x w0.heap.size (b+1+1+1) b (b+1) (b+1+1) n1 n2 n3 (nG st.jobs) (kS st.nodes) g3∧qo st (st.nodes.drop k)=lI st
end Go.Proofs.YtoeejfhdjmkpcaaGreatDoor
/- Worlds of whose old blocks only two have turned; the rows of a state in blocks of the call's own. -/
namespace Go.Proofs.YtoeejfhdjmkpcaaGreatDoor
open Go.Lib (hid)
open Go.RowKit
structure Two (w w':World) (a b:Nat):Prop where
 os:w'.os=w.os
 tape:w'.tape=w.tape
 output:w'.output=w.output
 size:w.heap.size≤w'.heap.size
 block:∀ k,k<w.heap.size→k≠a→k≠b→w'.heap[k]? = w.heap[k]?
theorem Two.refl (w:World) (a b:Nat):Two w w a b:=⟨rfl,rfl,rfl,Nat.le_refl _,fun _ _ _ _=>rfl⟩
theorem Two.fst {w u v:World} {a b:Nat} (h:Two w u a b) (hg:u.grownBy v (some a)):Two w v a b:=
 ⟨hg.os.trans h.os,hg.tape.trans h.tape,hg.output.trans h.output,Nat.le_trans h.size hg.size,fun k hk h1 h2=>(hg.block k (Nat.lt_of_lt_of_le hk h.size) (by simp; exact h1)).trans (h.block k hk h1 h2)⟩
theorem Two.snd {w u v:World} {a b:Nat} (h:Two w u a b) (hg:u.grownBy v (some b)):Two w v a b:=
 ⟨hg.os.trans h.os,hg.tape.trans h.tape,hg.output.trans h.output,Nat.le_trans h.size hg.size,fun k hk h1 h2=>(hg.block k (Nat.lt_of_lt_of_le hk h.size) (by simp; exact h2)).trans (h.block k hk h1 h2)⟩
theorem Two.blk {w u:World} {a b k:Nat} {t:TypeId} {cs:Array Value} (h:Two w u a b) (hk:Blk w k t cs) (h1:k≠a) (h2:k≠b):Blk u k t cs:=(h.block k hk.lt h1 h2).trans hk
theorem Two.below {w0 w u:World} {a b:Nat} (h:Two w u a b) (hb:Below w0.heap.size w0 w) (h1:w0.heap.size≤a) (h2:w0.heap.size≤b):Below w0.heap.size w0 u:=
 ⟨h.os.trans hb.os,h.tape.trans hb.tape,h.output.trans hb.output,Nat.le_trans hb.size h.size,fun k hk=>(h.block k (Nat.lt_of_lt_of_le hk hb.size) (by omega) (by omega)).trans (hb.block k hk)⟩
structure StOwn (w:World) (base:Nat) (st:ah) (x:StA):Prop where
 j:w.ownsRow base 34 5 (.slice x.aj x.nj x.cj) x.nj (au aL st.jobs)
 n:w.ownsRow base 36 3 (.slice x.an x.nn x.cn) x.nn (au aC st.nodes)
 l:w.ownsRow base 38 3 (.slice x.al x.nl x.cl) x.nl (au av st.leases)
 lj:st.jobs.length=x.nj
 ln:st.nodes.length=x.nn
 ll:st.leases.length=x.nl
theorem StOwn.grow {w w':World} {base g:Nat} {st:ah} {x:StA} (h:StOwn w base st x) (hg:w.grownBy w' (some g)) (hb:g<base):StOwn w' base st x:=
 ⟨bT h.j hg hb,bT h.n hg hb,bT h.l hg hb,h.lj,h.ln,h.ll⟩
theorem StOwn.at_ {w:World} {base:Nat} {st:ah} {x:StA} (h:StOwn w base st x) (bj:x.nj≤40) (bn:x.nn≤20) (bl:x.nl≤40) (oj:lB st.jobs) (on_:jR st.nodes) (ol:iS st.leases):StAt w w.heap.size st x:=
 ⟨cS h.j,cS h.n,cS h.l,h.lj,h.ln,h.ll,by omega,by omega,by omega,oj,on_,ol⟩
theorem bS {w:World} {base b n sz:Nat} {e:TypeId} {v:Value} {xs:List Value} (ho:w.ownsRow base e sz v n xs) (hb:b≤base):w.ownsRow b e sz v n xs:=by
 rcases ho with ⟨h1,h | ⟨q,cap,cur,hv,hq,hgq,r⟩⟩
 · exact⟨h1,.inl h⟩
 · exact⟨h1,.inr ⟨q,cap,cur,hv,Nat.le_trans hb hq,hgq,r⟩⟩
theorem dz {w0 w w':World} {b:Nat} (h:Below w0.heap.size w0 w) (hg:w.grownBy w' (some b)) (hb:w0.heap.size≤b):Below w0.heap.size w0 w':=
 ⟨hg.os.trans h.os,hg.tape.trans h.tape,hg.output.trans h.output,Nat.le_trans h.size hg.size,fun k hk=>(hg.block k (Nat.lt_of_lt_of_le hk h.size) (by simp; omega)).trans (h.block k hk)⟩
end Go.Proofs.YtoeejfhdjmkpcaaGreatDoor
/- Rows of the call's own: what becomes of them where something else turns. -/
namespace Go.Proofs.YtoeejfhdjmkpcaaGreatDoor
open Go.Lib (hid)
open Go.RowKit
theorem ay {w w':World} {base n sz:Nat} {e:TypeId} {v:Value} {xs:List Value} (ho:w.ownsRow base e sz v n xs) (hb:Below w.heap.size w w'):w'.ownsRow base e sz v n xs:=by
 rcases ho with ⟨h1,h | ⟨q,cap,cur,hv,hq,hgq,r⟩⟩
 · exact⟨h1,.inl h⟩
 · have hlt:q<w.heap.size:=(Array.getElem?_eq_some_iff.1 hgq).1
   exact⟨h1,.inr ⟨q,cap,cur,hv,hq,(hb.block q hlt).trans hgq,r⟩⟩
theorem vS {w:World} {base sz n b off c:Nat} {e:TypeId} {xs:List Value} (ho:w.ownsRow base e sz (.slice (some ⟨b,off,none⟩) n c) n xs) (j:Nat) (hj:j<n*sz) (u:Value) :
 (w.setCell ⟨b,off+j,none⟩ u).ownsRow base e sz (.slice (some ⟨b,off,none⟩) n c) n (xs.set j u)∧w.frozen? ⟨b,off+j,none⟩=false∧b<w.heap.size∧base≤b∧∃ cs,w.heap[b]? = some (.cells cs e (0,0)):=by
 have h0:off=0:=by
  rcases ho.2 with ⟨h,_⟩ | ⟨q,cap,cur,hv,_⟩
  · cases h
  · injection hv with e1 e2 e3
    injection e1 with e1
    injection e1
 subst h0
 obtain⟨h1,h2,h3,h4⟩:=Es ho j hj u
 refine⟨by rw [Nat.zero_add]; exact h1,by rw [Nat.zero_add]; exact h2,h3,h4,?_⟩
 rcases ho.2 with ⟨h,_⟩ | ⟨q,cap,cur,hv,_,hg,_⟩
 · cases h
 · injection hv with e1 e2 e3
   injection e1 with e1
   injection e1 with e1
   subst e1
   exact⟨_,hg⟩
theorem aP {w:World} {base sz n b i:Nat} {e e':TypeId} {v u:Value} {xs:List Value} {cs:Array Value} (ho:w.ownsRow base e sz v n xs) (hb:w.heap[b]? = some (.cells cs e' (0,0))) (hne:e≠e'):(w.setCell ⟨b,i,none⟩ u).ownsRow base e sz v n xs:=by
 rcases ho with ⟨h1,h | ⟨q,cap,cur,hv,hq,hgq,r⟩⟩
 · exact⟨h1,.inl h⟩
 · refine⟨h1,.inr ⟨q,cap,cur,hv,hq,?_,r⟩⟩
   rw [Below.heap_setCell w ⟨b,i,none⟩ u q (fun e1=>?_)]
   · exact hgq
   · have e1:q=b:=e1
     rw [e1,hb] at hgq
     simp only [Option.some.injEq,Obj.cells.injEq] at hgq
     exact hne hgq.2.1.symm
theorem Bs {α:Type} {enc:α→List Value} {w:World} {base sz n c:Nat} {T:TypeId} {A:Option Addr} {l:List α} (hz:∀ a,(enc a).length=sz) (h:w.ownsRow base T sz (.slice A n c) n (au enc l)) (hl:l.length=n) {i:Nat} {a:α} (hi:l[i]? = some a) :
 ∃ b off,A=some ⟨b,off,none⟩∧base≤b∧b<w.heap.size∧∀ j u,(enc a)[j]? = some u→w.cell? ⟨b,off+i*sz+j,none⟩=some u:=by
 obtain⟨b,off,e,hb,hc⟩:=(cS h).cV hz hl hi
 refine⟨b,off,e,?_,hb,hc⟩
 subst e
 rcases h.2 with ⟨h',_⟩ | ⟨q,cap,cur,hv,hq,_⟩
 · cases h'
 · injection hv with e1
   injection e1 with e1
   injection e1 with e1
   omega
theorem aY {w:World} {S b i:Nat} {T e:TypeId} {u:Value} {cs cs':Array Value} (h:Blk w S T cs) (hb:w.heap[b]? = some (.cells cs' e (0,0))) (hne:T≠e):Blk (w.setCell ⟨b,i,none⟩ u) S T cs:=by
 unfold Blk at h ⊢
 rw [Below.heap_setCell w ⟨b,i,none⟩ u S (fun e1=>?_)]
 · exact h
 · have e1:S=b:=e1
   rw [e1,hb] at h
   simp only [Option.some.injEq,Obj.cells.injEq] at h
   exact hne h.2.1.symm
theorem aN {w0 w:World} {base b i:Nat} {u:Value} (h:Below base w0 w) (hb:base≤b):Below base w0 (w.setCell ⟨b,i,none⟩ u):=
 ⟨h.os,h.tape,h.output,by have:=h.size; simpa [World.setCell] using this,fun k hk=>(Below.heap_setCell w ⟨b,i,none⟩ u k (by show k≠b; omega)).trans (h.block k hk)⟩
theorem bJ {w w':World} {base b' sz sz' n n':Nat} {e e':TypeId} {v u u':Value} {xs ys:List Value} (ho:w.ownsRow base e sz v n xs) (hg:cu w w' u u') (hu:w.ownsRow b' e' sz' u n' ys) (hne:e≠e'):w'.ownsRow base e sz v n xs:=by
 rcases ho with ⟨h1,h | ⟨q,cap,cur,hv,hq,hgq,r⟩⟩
 · exact⟨h1,.inl h⟩
 · have hlt:q<w.heap.size:=(Array.getElem?_eq_some_iff.1 hgq).1
   refine⟨h1,.inr ⟨q,cap,cur,hv,hq,(hg.grown.block q hlt ?_).trans hgq,r⟩⟩
   intro e1
   rcases hu.2 with ⟨rfl,_⟩ | ⟨q',cap',cur',rfl,_,IA,_⟩
   · simp [Value.ownBlock] at e1
   · simp [Value.ownBlock] at e1
     subst e1
     rw [hgq] at IA
     simp only [Option.some.injEq,Obj.cells.injEq] at IA
     exact hne IA.2.1
theorem Blk.gE {w w':World} {base n g sz:Nat} {e t:TypeId} {v v':Value} {xs:List Value} {cs:Array Value} (h:Blk w g t cs) (hg:cu w w' v v') (ho:w.ownsRow base e sz v n xs) (hne:t≠e):Blk w' g t cs:=by
 refine (hg.grown.block g h.lt fun hb=>?_).trans h
 rcases ho.2 with ⟨h1,_⟩ | ⟨q,cap,cur,hv,_,hgq,_⟩
 · rw [h1] at hb; cases hb
 · rw [hv] at hb
   have:q=g:=by simpa [Value.ownBlock] using hb.symm
   subst this
   unfold Blk at h
   rw [h] at hgq
   injection hgq with hgq
   injection hgq with _ h2
   exact hne h2
end Go.Proofs.YtoeejfhdjmkpcaaGreatDoor
/- What a check that says yes gives: plain. -/
namespace Go.Proofs.YtoeejfhdjmkpcaaGreatDoor
open Go.Lib (hid)
theorem eB {s:ByteArray} (h:bQ s=true):s.size≤16:=by
 by_cases hs:s.size≤16
 · exact hs
 · unfold bQ at h; rw [oO hs] at h; simp at h
theorem jc {s:ByteArray} (h:gU s=true):s.size≤16:=by
 by_cases hs:s.size≤16
 · exact hs
 · rw [oO hs] at h; simp at h
theorem iJ {j:aD} (h:fF j=0):bQ j.name=true∧gU j.tag=true∧(-1000≤j.prio∧j.prio≤1000)∧(0≤j.need∧j.need≤1000000)∧(0≤j.tries∧j.tries≤100):=by
 unfold fF at h
 by_cases h1:(bQ j.name && gU j.tag)=true
 · rw [if_pos h1] at h
   by_cases h2:(ranged j.prio (-1000) 1000 && ranged j.need 0 1000000 && ranged j.tries 0 100)=true
   · simp only [Bool.and_eq_true] at h1 h2
     exact⟨h1.1,h1.2,bB.1 h2.1.1,bB.1 h2.1.2,bB.1 h2.2⟩
   · rw [if_neg h2] at h; exact absurd h (by decide)
 · rw [if_neg h1] at h; exact absurd h (by decide)
theorem pB {n:aA} (h:eP n=0):bQ n.name=true∧gU n.zone=true∧(0≤n.room∧n.room≤1000000):=by
 unfold eP at h
 by_cases h1:(bQ n.name && gU n.zone)=true
 · rw [if_pos h1] at h
   by_cases h2:ranged n.room 0 1000000=true
   · simp only [Bool.and_eq_true] at h1
     exact⟨h1.1,h1.2,bB.1 h2⟩
   · rw [if_neg h2] at h; exact absurd h (by decide)
 · rw [if_neg h1] at h; exact absurd h (by decide)
theorem Ev {l:ak} (h:lsE l=0):bQ l.job=true∧bQ l.node=true∧(0≤l.till∧l.till≤1099511627776):=by
 unfold lsE at h
 by_cases h1:(bQ l.job && bQ l.node)=true
 · rw [if_pos h1] at h
   by_cases h2:ranged l.till 0 1099511627776=true
   · simp only [Bool.and_eq_true] at h1
     exact⟨h1.1,h1.2,bB.1 h2⟩
   · rw [if_neg h2] at h; exact absurd h (by decide)
 · rw [if_neg h1] at h; exact absurd h (by decide)
end Go.Proofs.YtoeejfhdjmkpcaaGreatDoor
/- The walks of Text, in the program and in the reference. -/
namespace Go.Proofs.YtoeejfhdjmkpcaaGreatDoor
open Go.Lib (hid)
open Go.RowKit
open Go.Lib (validD)
def p8 (s:ByteArray):ByteArray × Int:=if 16<s.size then (⟨#[]⟩,2) else if validD s.data.toList=true then (⟨#[UInt8.ofNat s.size]⟩ ++ s,0) else (⟨#[]⟩,4)
def jy (s:ByteArray) (w:World) (e:Ending) (w':World):Prop:=e = .returned (.tuple #[.string (p8 s).1,.int .i64 (p8 s).2])∧Below w.heap.size w w'
theorem jy.large {s:ByteArray} {w w':World} (h:16<s.size) (hb:Below w.heap.size w w'):jy s w (.returned (.tuple #[.string ⟨#[]⟩,.int .i64 2])) w':=⟨by unfold p8; rw [if_pos h],hb⟩
theorem jy.form {s:ByteArray} {w w':World} (h:¬ 16<s.size) (hv:validD s.data.toList=false) (hb:Below w.heap.size w w'):jy s w (.returned (.tuple #[.string ⟨#[]⟩,.int .i64 4])) w':=⟨by unfold p8; rw [if_neg h,if_neg (by rw [hv]; simp)],hb⟩
theorem jy.ok {s x:ByteArray} {w w':World} (h:¬ 16<s.size) (hv:validD s.data.toList=true) (hx:x=⟨#[UInt8.ofNat s.size]⟩ ++ s) (hb:Below w.heap.size w w'):jy s w (.returned (.tuple #[.string x,.int .i64 0])) w':=⟨by unfold p8; rw [if_neg h,if_pos hv,hx],hb⟩
theorem Ew (s:ByteArray) (w:World) (hs:s.size≤9223372036854775807) (hT:Tabs w):Calls Tryz.prog 166 #[.string s] w (jy s w):=by
 by_cases h:16<s.size
 · have fin:=hid (jy.large (w:=w) (w':=w) h (Below.refl _ _))
   go_enter Tryz.func166,Tryz.ntmps166
   go_wp2
   go_ret2
   exact fin.out
 · have hV:=hid (qQ s w hs hT)
   cases hv:validD s.data.toList
   · have fin:=hid (fun w'=>jy.form (w:=w) (w':=w') h hv)
     rw [hv] at hV
     go_enter Tryz.func166,Tryz.ntmps166
     go_wp2_with fail
     refine Calls.mono hV.out ?_
     rintro e w1 ⟨rfl,hb⟩
     go_wp2
     go_ret2
     exact fin.out _ hb
   · have fin:=hid (fun x w'=>jy.ok (x:=x) (w:=w) (w':=w') h hv)
     rw [hv] at hV
     have hsz:=hid (o8 (n:=s.size) (by omega))
     go_enter Tryz.func166,Tryz.ntmps166
     go_wp2_with fail
     refine Calls.mono hV.out ?_
     rintro e w1 ⟨rfl,hb⟩
     go_wp2_with fail
     refine Calls.mono (tX (s.size:Int) w1 (by omega) (by omega)) ?_
     rintro e w2 ⟨rfl,hb2⟩
     rw [show ((s.size:Int)).toNat=s.size from by omega,hsz.out]
     have hb3:=hid (hb.trans (hb2.mono hb.size))
     clear hb hb2
     go_wp2
     go_ret2
     exact fin.out _ _ rfl hb3.out
end Go.Proofs.YtoeejfhdjmkpcaaGreatDoor
