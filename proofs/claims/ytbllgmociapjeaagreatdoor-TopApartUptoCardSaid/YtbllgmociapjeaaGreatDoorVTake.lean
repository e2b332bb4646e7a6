/- Of the proof of a statement: Take, OwnSet, StAt, StOwn, OwnMore. -/
import Derived.Test.YtbllgmociapjeaaGreatDoorVLease
import Derived.Test.YtbllgmociapjeaaGreatDoorVRdRow
import Derived.Test.YtbllgmociapjeaaGreatDoorVRowsP
set_option linter.unusedVariables false
set_option linter.unusedSimpArgs false
set_option maxRecDepth 100000
set_option maxHeartbeats 8000000
/- The walks of Take: the rows of a table, read one by one. -/
namespace Go.Proofs.YtbllgmociapjeaaGreatDoor
open Go.Lib (hid)
open Go.RowKit
theorem zS:(Tryz.prog.info? 32).map (fun i=>(i.zero,i.size,i.bytes))=some (some (.agg #[.string ⟨#[]⟩,.int .i64 0,.int .i64 0,.int .i64 0,.string ⟨#[]⟩]),5,56):=by kernel_rfl
theorem xK:(Tryz.prog.info? 34).map (fun i=>(i.zero,i.size,i.bytes))=some (some (.agg #[.string ⟨#[]⟩,.int .i64 0,.string ⟨#[]⟩]),3,40):=by kernel_rfl
theorem uR:(Tryz.prog.info? 36).map (fun i=>(i.zero,i.size,i.bytes))=some (some (.agg #[.string ⟨#[]⟩,.string ⟨#[]⟩,.int .i64 0]),3,40):=by kernel_rfl
theorem uZ:(Tryz.prog.info? 9).map (fun i=>(i.zero,i.size,i.bytes))=some (some (.string ⟨#[]⟩),1,16):=by kernel_rfl
theorem xJ (x:aC):∀ u ∈ aI x,u.oneCell'=true:=by intro u hu; simp [aI] at hu; rcases hu with rfl | rfl | rfl | rfl | rfl <;> rfl
theorem uQ (x:aA):∀ u ∈ aB x,u.oneCell'=true:=by intro u hu; simp [aB] at hu; rcases hu with rfl | rfl | rfl <;> rfl
theorem tF (x:ak):∀ u ∈ av x,u.oneCell'=true:=by intro u hu; simp [av] at hu; rcases hu with rfl | rfl | rfl <;> rfl
theorem sC (x:ByteArray):∀ u ∈ mD x,u.oneCell'=true:=by intro u hu; simp [mD] at hu; subst hu; rfl
theorem bV {w w':World} {base g n sz:Nat} {e:TypeId} {v:Value} {xs:List Value} (ho:w.ownsRow base e sz v n xs) (hg:w.grownBy w' (some g)) (hgb:g<base):w'.ownsRow base e sz v n xs:=by
 rcases ho with ⟨h1,h | ⟨q,cap,cur,hv,hq,hgq,r⟩⟩
 · exact⟨h1,.inl h⟩
 · have hlt:q<w.heap.size:=(Array.getElem?_eq_some_iff.1 hgq).1
   exact⟨h1,.inr ⟨q,cap,cur,hv,hq,(hg.block q hlt (by simp; omega)).trans hgq,r⟩⟩
end Go.Proofs.YtbllgmociapjeaaGreatDoor
/- A cell of a row of the call's own is set. -/
namespace Go.Proofs.YtbllgmociapjeaaGreatDoor
open Go.Lib (hid)
open Go.RowKit
theorem IE {w:World} {base sz n g c:Nat} {e:TypeId} {xs:List Value} (ho:w.ownsRow base e sz (.slice (some ⟨g,0,none⟩) n c) n xs) (j:Nat) (hj:j<n*sz) (u:Value) :
 (w.setCell ⟨g,j,none⟩ u).ownsRow base e sz (.slice (some ⟨g,0,none⟩) n c) n (xs.set j u)∧w.frozen? ⟨g,j,none⟩=false∧g<w.heap.size∧base≤g:=by
 obtain⟨h1,h | ⟨q,cap,cur,hv,hq,hgq,h2,h3,h4,h5⟩⟩:=ho
 · cases h.1
 · injection hv with e1 e2 e3
   injection e1 with e1
   injection e1 with e1
   subst e1
   subst e3
   have hB:Blk w g e cur:=hgq
   refine⟨⟨by simpa using h1,.inr ⟨g,c,cur.setIfInBounds j u,rfl,hq,hB.set j u,h2,h3,by simpa using h4,?_⟩⟩,hB.thaw j,hB.lt,hq⟩
   rw [Array.toList_setIfInBounds,List.take_set,h5]
theorem xQ {α:Type} {enc:α→List Value} {sz:Nat} (h:∀ a,(enc a).length=sz):∀ (l:List α) (i k:Nat) (a a':α) (u:Value),l[i]? = some a→k<sz→(enc a).set k u=enc a'→(au enc l).set (i*sz+k) u=au enc (l.set i a')
 | [],i,k,a,a',u,hi,_,_=>by simp at hi
 | b :: l,0,k,a,a',u,hi,hk,he=>by
  simp only [List.getElem?_cons_zero,Option.some.injEq] at hi
  subst hi
  unfold au
  rw [List.set_cons_zero,List.flatMap_cons,List.flatMap_cons,Nat.zero_mul,Nat.zero_add,List.set_append_left _ _ (by rw [h]; exact hk),he]
 | b :: l,i+1,k,a,a',u,hi,hk,he=>by
  have ih:=xQ h l i k a a' u (by simpa using hi) hk he
  unfold au at ih ⊢
  rw [List.set_cons_succ,List.flatMap_cons,List.flatMap_cons,List.set_append_right _ _ (by rw [h,Nat.add_mul]; omega),h,show (i+1)*sz+k - sz=i*sz+k from by rw [Nat.add_mul]; omega,ih]
end Go.Proofs.YtbllgmociapjeaaGreatDoor
/- A state in memory. -/
namespace Go.Proofs.YtbllgmociapjeaaGreatDoor
open Go.Lib (hid)
open Go.RowKit
structure StA where
 aj:Option Addr
 nj:Nat
 cj:Nat
 an:Option Addr
 nn:Nat
 cn:Nat
 al:Option Addr
 nl:Nat
 cl:Nat
def stC (st:ah) (x:StA):Array Value:=#[.int .i64 st.rev,.slice x.aj x.nj x.cj,.slice x.an x.nn x.cn,.slice x.al x.nl x.cl]
structure StAt (w:World) (B:Nat) (st:ah) (x:StA):Prop where
 j:aU w B 5 x.aj x.nj (au aI st.jobs)
 n:aU w B 3 x.an x.nn (au aB st.nodes)
 l:aU w B 3 x.al x.nl (au av st.leases)
 lj:st.jobs.length=x.nj
 ln:st.nodes.length=x.nn
 ll:st.leases.length=x.nl
 bj:x.nj≤9223372036854775807
 bn:x.nn≤9223372036854775807
 bl:x.nl≤9223372036854775807
 oj:mB st.jobs
 on_:kN st.nodes
 ol:jv st.leases
theorem StAt.below {w w':World} {B:Nat} {st:ah} {x:StA} (h:StAt w B st x) (hb:Below B w w'):StAt w' B st x:=
 ⟨h.j.below hb,h.n.below hb,h.l.below hb,h.lj,h.ln,h.ll,h.bj,h.bn,h.bl,h.oj,h.on_,h.ol⟩
theorem StAt.more {w:World} {B B':Nat} {st:ah} {x:StA} (h:StAt w B st x) (hB:B≤B'):StAt w B' st x:=
 ⟨h.j.more hB,h.n.more hB,h.l.more hB,h.lj,h.ln,h.ll,h.bj,h.bn,h.bl,h.oj,h.on_,h.ol⟩
theorem below_grown {w0 a b:World} {g:Nat} (hb:Below w0.heap.size w0 a) (hg:a.grownBy b (some g)) (h:w0.heap.size≤g):Below w0.heap.size w0 b:=
 ⟨hg.os.trans hb.os,hg.tape.trans hb.tape,hg.output.trans hb.output,Nat.le_trans hb.size hg.size,fun k hk=>
  (hg.block k (Nat.lt_of_lt_of_le hk hb.size) (by simp; omega)).trans (hb.block k hk)⟩
section
variable {w w':World} {T b1 b2 b3 n1 n2 n3 m:Nat} {g1 g2 g3 g:ByteArray→Option Value}
theorem gM.JU (h:gM w T b1 b2 b3 n1 n2 n3 g1 g2 g3) (hg:w.grownBy w' (some b1)) (h2:b2≠b1) (h3:b3≠b1) (hT:T≠b1) (hm:dJ w' b1 m g):gM w' T b1 b2 b3 m n2 n3 g g2 g3:=
 ⟨(hg.block T h.t.lt (by simp [hT])).trans h.t,hm,h.m2.but hg h2,h.m3.but hg h3⟩
theorem gM.Is (h:gM w T b1 b2 b3 n1 n2 n3 g1 g2 g3) (hg:w.grownBy w' (some b2)) (h1:b1≠b2) (h3:b3≠b2) (hT:T≠b2) (hm:dJ w' b2 m g):gM w' T b1 b2 b3 n1 m n3 g1 g g3:=
 ⟨(hg.block T h.t.lt (by simp [hT])).trans h.t,h.m1.but hg h1,hm,h.m3.but hg h3⟩
end
theorem Fc {l:List aC} (h:bT fB aC.name l=0) {k:Nat} {x:aC} (hx:l[k]? = some x) (s:ByteArray) :
 oq (l.take (k+1)) s=if s=x.name then some (.agg (aI x).toArray) else oq (l.take k) s:=by
 unfold oq dA
 rw [xU aC.name (vN h) hx s]
 split <;> rfl
theorem CX {l:List aA} (h:bT dO aA.name l=0) {k:Nat} {x:aA} (hx:l[k]? = some x) (s:ByteArray) :
 lS (l.take (k+1)) s=if s=x.name then some (.agg (aB x).toArray) else lS (l.take k) s:=by
 unfold lS dh
 rw [xU aA.name (vN h) hx s]
 split <;> rfl
structure Bi (w0 wr:World) (st:ah) (x:StA) (S T b1 b2 b3 n1 n2 n3:Nat) (g1 g2 g3:ByteArray→Option Value):Prop where
 below:Below w0.heap.size w0 wr
 box:Blk wr S 26 (stC st x)
 tabs:gM wr T b1 b2 b3 n1 n2 n3 g1 g2 g3
def noG:ByteArray→Option Value:=fun _=>none
def Bh (w:World):World:=(((w.alloc (.map #[] 0)).alloc (.map #[] 0)).alloc (.map #[] 0)).alloc (.cells #[.map (some w.heap.size),.map (some (w.heap.size+1)),.map (some (w.heap.size+1+1))] 237)
theorem oM (w:World):Below w.heap.size w (Bh w):=
 ((((Below.refl w.heap.size w).alloc (Nat.le_refl _) _).alloc (by simp) _).alloc (by simp; omega) _).alloc (by simp; omega) _
theorem CW (w:World):gM (Bh w) (w.heap.size+1+1+1) w.heap.size (w.heap.size+1) (w.heap.size+1+1) 0 0 0 noG noG noG:=by
 have m1:=dJ.made w
 have m2:=dJ.made (w.alloc (.map #[] 0))
 have m3:=dJ.made ((w.alloc (.map #[] 0)).alloc (.map #[] 0))
 have up:∀ (W:World) (o:Obj),Below W.heap.size W (W.alloc o):=fun W o=>(Below.refl _ _).alloc (Nat.le_refl _) o
 have e1:(w.alloc (.map #[] 0)).heap.size=w.heap.size+1:=by simp
 have e2:((w.alloc (.map #[] 0)).alloc (.map #[] 0)).heap.size=w.heap.size+1+1:=by simp
 have e3:(((w.alloc (.map #[] 0)).alloc (.map #[] 0)).alloc (.map #[] 0)).heap.size=w.heap.size+1+1+1:=by simp
 have hB:=heap_alloc_new (((w.alloc (.map #[] 0)).alloc (.map #[] 0)).alloc (.map #[] 0)) (.cells #[.map (some w.heap.size),.map (some (w.heap.size+1)),.map (some (w.heap.size+1+1))] 237)
 rw [e1] at m2
 rw [e2] at m3
 rw [e3] at hB
 refine⟨hB,?_,?_,?_⟩
 · exact ((m1.below (up _ _) m1.lt).below (up _ _) (by simp; omega)).below (up _ _) (by simp; omega)
 · exact (m2.below (up _ _) m2.lt).below (up _ _) (by simp)
 · exact m3.below (up _ _) m3.lt
def zy (st:ah) (w:World) (e:Ending) (w':World):Prop:=
 Below w.heap.size w w'∧((aE st≠0∧e = .returned (.tuple #[.pointer none,.int .i64 (aE st)])) ∨
  (aE st=0∧∃ T b1 b2 b3 n1 n2 n3 g3,e = .returned (.tuple #[.pointer (some ⟨T,0,none⟩),.int .i64 0])∧gM w' T b1 b2 b3 n1 n2 n3 (oq st.jobs) (lS st.nodes) g3∧nB g3 (rB st)))
theorem zy.bad {st:ah} {w w':World} {E:Int} (h:aE st=E) (hE:E≠0) (hb:Below w.heap.size w w'):zy st w (.returned (.tuple #[.pointer none,.int .i64 E])) w':=⟨hb,.inl ⟨by rw [h]; exact hE,by rw [h]⟩⟩
theorem Ci {st:ah} (h:ranged st.rev 0 1099511627776=false):aE st=1:=by unfold aE; rw [if_pos h]
theorem ow {st:ah} (h:ranged st.rev 0 1099511627776=true) (h2:eC st=false):aE st=2:=by unfold aE; rw [if_neg (by rw [h]; simp),if_pos h2]
theorem Dh {st:ah} (h:ranged st.rev 0 1099511627776=true) (h2:eC st=true) (h3:bT fB aC.name st.jobs≠0):aE st=bT fB aC.name st.jobs:=by
 unfold aE; rw [if_neg (by rw [h]; simp),if_neg (by rw [h2]; simp),if_pos h3]
theorem AO {st:ah} (h:ranged st.rev 0 1099511627776=true) (h2:eC st=true) (h3:bT fB aC.name st.jobs=0) (h4:bT dO aA.name st.nodes≠0):aE st=bT dO aA.name st.nodes:=by
 unfold aE; rw [if_neg (by rw [h]; simp),if_neg (by rw [h2]; simp),if_neg (by simp [h3]),if_pos h4]
theorem Di {st:ah} (h:ranged st.rev 0 1099511627776=true) (h2:eC st=true) (h3:bT fB aC.name st.jobs=0) (h4:bT dO aA.name st.nodes=0) :
 aE st=if bT (fC st) ak.job st.leases≠0 then bT (fC st) ak.job st.leases else if mF st=true then 0 else 9:=by
 unfold aE; rw [if_neg (by rw [h]; simp),if_neg (by rw [h2]; simp),if_neg (by simp [h3]),if_neg (by simp [h4])]
def LS (w0 wr:World) (st:ah) (x:StA) (b nj:Nat) (i:Value):Prop:=∃ k:Nat,k≤nj∧i = .int .i64 k∧Bi w0 wr st x w0.heap.size (b+1+1+1) b (b+1) (b+1+1) k 0 0 (oq (st.jobs.take k)) noG noG
def LT (w0 wr:World) (st:ah) (x:StA) (b n1 nn:Nat) (i:Value):Prop:=∃ k:Nat,k≤nn∧i = .int .i64 k∧Bi w0 wr st x w0.heap.size (b+1+1+1) b (b+1) (b+1+1) n1 k 0 (oq st.jobs) (lS (st.nodes.take k)) noG
def rR (st:ah) (l:List aA):Bool:=l.all fun n=>decide (rB st n.name≤n.room)
theorem xD {st:ah} {l:List aA} {k:Nat} {x:aA} (h:l[k]? = some x):rR st (l.drop k)=(decide (rB st x.name≤x.room) && rR st (l.drop (k+1))):=by
 rw [drop_cons h]; rfl
def LU (w0 wr:World) (st:ah) (x:StA) (b n1 n2 n3:Nat) (g3:ByteArray→Option Value) (nn:Nat) (i:Value):Prop:=
 ∃ k:Nat,k≤nn∧i = .int .i64 k∧Bi w0 wr st x w0.heap.size (b+1+1+1) b (b+1) (b+1+1) n1 n2 n3 (oq st.jobs) (lS st.nodes) g3∧rR st (st.nodes.drop k)=mF st
end Go.Proofs.YtbllgmociapjeaaGreatDoor
/- Worlds of whose old blocks only two have turned; the rows of a state in blocks of the call's own. -/
namespace Go.Proofs.YtbllgmociapjeaaGreatDoor
open Go.Lib (hid)
open Go.RowKit
structure Two (w w':World) (a b:Nat):Prop where
 os:w'.os=w.os
 tape:w'.tape=w.tape
 output:w'.output=w.output
 size:w.heap.size≤w'.heap.size
 block:∀ k,k<w.heap.size→k≠a→k≠b→w'.heap[k]? = w.heap[k]?
theorem Two.refl (w:World) (a b:Nat):Two w w a b:=⟨rfl,rfl,rfl,Nat.le_refl _,fun _ _ _ _=>rfl⟩
theorem Two.fst {w u v:World} {a b:Nat} (h:Two w u a b) (hg:u.grownBy v (some a)):Two w v a b:=
 ⟨hg.os.trans h.os,hg.tape.trans h.tape,hg.output.trans h.output,Nat.le_trans h.size hg.size,fun k hk h1 h2=>(hg.block k (Nat.lt_of_lt_of_le hk h.size) (by simp; exact h1)).trans (h.block k hk h1 h2)⟩
theorem Two.snd {w u v:World} {a b:Nat} (h:Two w u a b) (hg:u.grownBy v (some b)):Two w v a b:=
 ⟨hg.os.trans h.os,hg.tape.trans h.tape,hg.output.trans h.output,Nat.le_trans h.size hg.size,fun k hk h1 h2=>(hg.block k (Nat.lt_of_lt_of_le hk h.size) (by simp; exact h2)).trans (h.block k hk h1 h2)⟩
theorem Two.blk {w u:World} {a b k:Nat} {t:TypeId} {cs:Array Value} (h:Two w u a b) (hk:Blk w k t cs) (h1:k≠a) (h2:k≠b):Blk u k t cs:=(h.block k hk.lt h1 h2).trans hk
theorem Two.below {w0 w u:World} {a b:Nat} (h:Two w u a b) (hb:Below w0.heap.size w0 w) (h1:w0.heap.size≤a) (h2:w0.heap.size≤b):Below w0.heap.size w0 u:=
 ⟨h.os.trans hb.os,h.tape.trans hb.tape,h.output.trans hb.output,Nat.le_trans hb.size h.size,fun k hk=>(h.block k (Nat.lt_of_lt_of_le hk hb.size) (by omega) (by omega)).trans (hb.block k hk)⟩
structure StOwn (w:World) (base:Nat) (st:ah) (x:StA):Prop where
 j:w.ownsRow base 32 5 (.slice x.aj x.nj x.cj) x.nj (au aI st.jobs)
 n:w.ownsRow base 34 3 (.slice x.an x.nn x.cn) x.nn (au aB st.nodes)
 l:w.ownsRow base 36 3 (.slice x.al x.nl x.cl) x.nl (au av st.leases)
 lj:st.jobs.length=x.nj
 ln:st.nodes.length=x.nn
 ll:st.leases.length=x.nl
theorem StOwn.grow {w w':World} {base g:Nat} {st:ah} {x:StA} (h:StOwn w base st x) (hg:w.grownBy w' (some g)) (hb:g<base):StOwn w' base st x:=
 ⟨bV h.j hg hb,bV h.n hg hb,bV h.l hg hb,h.lj,h.ln,h.ll⟩
theorem StOwn.at_ {w:World} {base:Nat} {st:ah} {x:StA} (h:StOwn w base st x) (bj:x.nj≤40) (bn:x.nn≤20) (bl:x.nl≤40) (oj:mB st.jobs) (on_:kN st.nodes) (ol:jv st.leases):StAt w w.heap.size st x:=
 ⟨cO h.j,cO h.n,cO h.l,h.lj,h.ln,h.ll,by omega,by omega,by omega,oj,on_,ol⟩
theorem bK {w:World} {base b n sz:Nat} {e:TypeId} {v:Value} {xs:List Value} (ho:w.ownsRow base e sz v n xs) (hb:b≤base):w.ownsRow b e sz v n xs:=by
 rcases ho with ⟨h1,h | ⟨q,cap,cur,hv,hq,hgq,r⟩⟩
 · exact⟨h1,.inl h⟩
 · exact⟨h1,.inr ⟨q,cap,cur,hv,Nat.le_trans hb hq,hgq,r⟩⟩
theorem dR {w0 w w':World} {b:Nat} (h:Below w0.heap.size w0 w) (hg:w.grownBy w' (some b)) (hb:w0.heap.size≤b):Below w0.heap.size w0 w':=
 ⟨hg.os.trans h.os,hg.tape.trans h.tape,hg.output.trans h.output,Nat.le_trans h.size hg.size,fun k hk=>(hg.block k (Nat.lt_of_lt_of_le hk h.size) (by simp; omega)).trans (h.block k hk)⟩
end Go.Proofs.YtbllgmociapjeaaGreatDoor
/- Rows of the call's own: what becomes of them where something else turns. -/
namespace Go.Proofs.YtbllgmociapjeaaGreatDoor
open Go.Lib (hid)
open Go.RowKit
theorem ay {w w':World} {base n sz:Nat} {e:TypeId} {v:Value} {xs:List Value} (ho:w.ownsRow base e sz v n xs) (hb:Below w.heap.size w w'):w'.ownsRow base e sz v n xs:=by
 rcases ho with ⟨h1,h | ⟨q,cap,cur,hv,hq,hgq,r⟩⟩
 · exact⟨h1,.inl h⟩
 · have hlt:q<w.heap.size:=(Array.getElem?_eq_some_iff.1 hgq).1
   exact⟨h1,.inr ⟨q,cap,cur,hv,hq,(hb.block q hlt).trans hgq,r⟩⟩
theorem xP {w:World} {base sz n b off c:Nat} {e:TypeId} {xs:List Value} (ho:w.ownsRow base e sz (.slice (some ⟨b,off,none⟩) n c) n xs) (j:Nat) (hj:j<n*sz) (u:Value) :
 (w.setCell ⟨b,off+j,none⟩ u).ownsRow base e sz (.slice (some ⟨b,off,none⟩) n c) n (xs.set j u)∧w.frozen? ⟨b,off+j,none⟩=false∧b<w.heap.size∧base≤b∧∃ cs,w.heap[b]? = some (.cells cs e (0,0)):=by
 have h0:off=0:=by
  rcases ho.2 with ⟨h,_⟩ | ⟨q,cap,cur,hv,_⟩
  · cases h
  · injection hv with e1 e2 e3
    injection e1 with e1
    injection e1
 subst h0
 obtain⟨h1,h2,h3,h4⟩:=IE ho j hj u
 refine⟨by rw [Nat.zero_add]; exact h1,by rw [Nat.zero_add]; exact h2,h3,h4,?_⟩
 rcases ho.2 with ⟨h,_⟩ | ⟨q,cap,cur,hv,_,hg,_⟩
 · cases h
 · injection hv with e1 e2 e3
   injection e1 with e1
   injection e1 with e1
   subst e1
   exact⟨_,hg⟩
theorem aR {w:World} {base sz n b i:Nat} {e e':TypeId} {v u:Value} {xs:List Value} {cs:Array Value} (ho:w.ownsRow base e sz v n xs) (hb:w.heap[b]? = some (.cells cs e' (0,0))) (hne:e≠e'):(w.setCell ⟨b,i,none⟩ u).ownsRow base e sz v n xs:=by
 rcases ho with ⟨h1,h | ⟨q,cap,cur,hv,hq,hgq,r⟩⟩
 · exact⟨h1,.inl h⟩
 · refine⟨h1,.inr ⟨q,cap,cur,hv,hq,?_,r⟩⟩
   rw [Below.heap_setCell w ⟨b,i,none⟩ u q (fun e1=>?_)]
   · exact hgq
   · have e1:q=b:=e1
     rw [e1,hb] at hgq
     simp only [Option.some.injEq,Obj.cells.injEq] at hgq
     exact hne hgq.2.1.symm
theorem C0 {α:Type} {enc:α→List Value} {w:World} {base sz n c:Nat} {T:TypeId} {A:Option Addr} {l:List α} (hz:∀ a,(enc a).length=sz) (h:w.ownsRow base T sz (.slice A n c) n (au enc l)) (hl:l.length=n) {i:Nat} {a:α} (hi:l[i]? = some a) :
 ∃ b off,A=some ⟨b,off,none⟩∧base≤b∧b<w.heap.size∧∀ j u,(enc a)[j]? = some u→w.cell? ⟨b,off+i*sz+j,none⟩=some u:=by
 obtain⟨b,off,e,hb,hc⟩:=(cO h).dB hz hl hi
 refine⟨b,off,e,?_,hb,hc⟩
 subst e
 rcases h.2 with ⟨h',_⟩ | ⟨q,cap,cur,hv,hq,_⟩
 · cases h'
 · injection hv with e1
   injection e1 with e1
   injection e1 with e1
   omega
theorem aY {w:World} {S b i:Nat} {T e:TypeId} {u:Value} {cs cs':Array Value} (h:Blk w S T cs) (hb:w.heap[b]? = some (.cells cs' e (0,0))) (hne:T≠e):Blk (w.setCell ⟨b,i,none⟩ u) S T cs:=by
 unfold Blk at h ⊢
 rw [Below.heap_setCell w ⟨b,i,none⟩ u S (fun e1=>?_)]
 · exact h
 · have e1:S=b:=e1
   rw [e1,hb] at h
   simp only [Option.some.injEq,Obj.cells.injEq] at h
   exact hne h.2.1.symm
theorem aM {w0 w:World} {base b i:Nat} {u:Value} (h:Below base w0 w) (hb:base≤b):Below base w0 (w.setCell ⟨b,i,none⟩ u):=
 ⟨h.os,h.tape,h.output,by have:=h.size; simpa [World.setCell] using this,fun k hk=>(Below.heap_setCell w ⟨b,i,none⟩ u k (by show k≠b; omega)).trans (h.block k hk)⟩
theorem bJ {w w':World} {base b' sz sz' n n':Nat} {e e':TypeId} {v u u':Value} {xs ys:List Value} (ho:w.ownsRow base e sz v n xs) (hg:bZ w w' u u') (hu:w.ownsRow b' e' sz' u n' ys) (hne:e≠e'):w'.ownsRow base e sz v n xs:=by
 rcases ho with ⟨h1,h | ⟨q,cap,cur,hv,hq,hgq,r⟩⟩
 · exact⟨h1,.inl h⟩
 · have hlt:q<w.heap.size:=(Array.getElem?_eq_some_iff.1 hgq).1
   refine⟨h1,.inr ⟨q,cap,cur,hv,hq,(hg.grown.block q hlt ?_).trans hgq,r⟩⟩
   intro e1
   rcases hu.2 with ⟨rfl,_⟩ | ⟨q',cap',cur',rfl,_,Ll,_⟩
   · simp [Value.ownBlock] at e1
   · simp [Value.ownBlock] at e1
     subst e1
     rw [hgq] at Ll
     simp only [Option.some.injEq,Obj.cells.injEq] at Ll
     exact hne Ll.2.1
theorem Blk.gN {w w':World} {base n g sz:Nat} {e t:TypeId} {v v':Value} {xs:List Value} {cs:Array Value} (h:Blk w g t cs) (hg:bZ w w' v v') (ho:w.ownsRow base e sz v n xs) (hne:t≠e):Blk w' g t cs:=by
 refine (hg.grown.block g h.lt fun hb=>?_).trans h
 rcases ho.2 with ⟨h1,_⟩ | ⟨q,cap,cur,hv,_,hgq,_⟩
 · rw [h1] at hb; cases hb
 · rw [hv] at hb
   have:q=g:=by simpa [Value.ownBlock] using hb.symm
   subst this
   unfold Blk at h
   rw [h] at hgq
   injection hgq with hgq
   injection hgq with _ h2
   exact hne h2
end Go.Proofs.YtbllgmociapjeaaGreatDoor
