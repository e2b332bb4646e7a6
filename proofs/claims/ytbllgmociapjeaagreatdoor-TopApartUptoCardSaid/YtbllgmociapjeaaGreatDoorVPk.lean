/- Of the proof of a statement: Recs, Blk, Pk, PlChk, PlRows, PlSt, Zig, PlGone, RowsDef. -/
import Derived.Deep.AppendLies
import Derived.Lib.QuietBelow
import Derived.Lib.ValidLaws
import Derived.Test.YtbllgmociapjeaaGreatDoorRows
import Derived.Test.YtbllgmociapjeaaGreatDoorVPush
set_option linter.unusedVariables false
set_option linter.unusedSimpArgs false
set_option maxRecDepth 100000
set_option maxHeartbeats 8000000
/- Rows of records: lists of elements of several cells each. -/
namespace Go.Proofs.YtbllgmociapjeaaGreatDoor
open Go.Lib (hid)
open Go.RowKit
def au {α:Type} (enc:α→List Value) (l:List α):List Value:=l.flatMap enc
section
variable {α:Type} {enc:α→List Value} {sz:Nat}
theorem bU (l k:List α):au enc (l ++ k)=au enc l ++ au enc k:=List.flatMap_append
theorem pB (a:α):au enc [a]=enc a:=by simp [au]
theorem kO (h:∀ a,(enc a).length=sz):∀ l:List α,(au enc l).length=l.length*sz
 | []=>by simp [au]
 | a :: l=>by
  have:=kO h l
  unfold au at this ⊢
  rw [List.flatMap_cons,List.length_append,this,h,List.length_cons,Nat.add_mul]; omega
theorem rZ (h:∀ a,(enc a).length=sz):∀ (l:List α) (i j:Nat) (a:α),l[i]? = some a→j<sz→(au enc l)[i*sz+j]? = (enc a)[j]?
 | [],i,j,a,hi,_=>by simp at hi
 | b :: l,0,j,a,hi,hj=>by
  simp only [List.getElem?_cons_zero,Option.some.injEq] at hi
  subst hi
  unfold au
  rw [List.flatMap_cons,Nat.zero_mul,Nat.zero_add,List.getElem?_append_left (by rw [h]; exact hj)]
 | b :: l,i+1,j,a,hi,hj=>by
  have:=rZ h l i j a (by simpa using hi) hj
  unfold au at this ⊢
  rw [List.flatMap_cons,List.getElem?_append_right (by rw [h,Nat.add_mul]; omega),h,show (i+1)*sz+j - sz=i*sz+j from by rw [Nat.add_mul]; omega]
  exact this
theorem aU.dB {w:World} {B n:Nat} {A:Option Addr} {l:List α} (hz:∀ a,(enc a).length=sz) (h:aU w B sz A n (au enc l)) (hl:l.length=n) {i:Nat} {a:α} (hi:l[i]? = some a) :
 ∃ b off,A=some ⟨b,off,none⟩∧b<B∧∀ j u,(enc a)[j]? = some u→w.cell? ⟨b,off+i*sz+j,none⟩=some u:=by
 have hin:i<n:=by
  rw [← hl]
  rcases Nat.lt_or_ge i l.length with h1 | h1
  · exact h1
  · rw [List.getElem?_eq_none h1] at hi; cases hi
 obtain⟨b,off,e,hB,hr⟩:=h.at_ (by omega)
 refine⟨b,off,e,hB,fun j u hu=>?_⟩
 rw [Nat.add_assoc]
 refine hr _ _ ?_
 have hj:j<sz:=by
  rw [← hz a]
  rcases Nat.lt_or_ge j (enc a).length with h1 | h1
  · exact h1
  · rw [List.getElem?_eq_none h1] at hu; cases hu
 rw [rZ hz l i j a hi hj]; exact hu
end
theorem cO {w:World} {base:Nat} {e:TypeId} {sz n c:Nat} {A:Option Addr} {xs:List Value} (h:w.ownsRow base e sz (.slice A n c) n xs):aU w w.heap.size sz A n xs:=
 ⟨h.1,fun hn=>by
  obtain⟨g,cap,hv,hb,hg⟩:=h.form hn
  injection hv with hA _ hc
  subst hA; subst hc
  refine⟨g,0,rfl,hg,fun j u hu=>?_⟩
  have hj:j<n*sz:=by
   rw [← h.1]
   rcases Nat.lt_or_ge j xs.length with h1 | h1
   · exact h1
   · rw [List.getElem?_eq_none h1] at hu; cases hu
  rw [Nat.zero_add,h.cellAt j hj]; exact hu⟩
section
variable {P:Program} {w:World} {ops:Array Oper} {rest:List Oper} {o:Oper} {a:Act} {Q:Exit→Act→World→Prop}
theorem ko {α:Type} (enc:α→List Value) (hgd:o.guard=none) (s x:Operand) (t e:TypeId) (z:Value) (sz bytes:Nat) (ho:o.op = .call { callee:=.builtin .append,args:=#[s,x],argTypes:=#[t,t] })
 (ht:P.underlying t=some (.slice e)) (hinfo:(P.info? e).map (fun i=>(i.zero,i.size,i.bytes))=some (some z,sz,bytes)) (hzs:z.cells.size=sz) (hsz:0<sz)
 (henc:∀ a,(enc a).length=sz) (h1:∀ a,∀ u ∈ enc a,u.oneCell'=true)
 (base:Nat) (A:Option Addr) (m c:Nat) (l:List α) (hs:a.eval s = .slice A m c) (hown:w.ownsRow base e sz (.slice A m c) m (au enc l))
 (cs:Array Value) (b:α) (hu:cs.toList=enc b) (g:Nat) (hg:w.heap.size=g) (hx:a.eval x = .slice (some ⟨g,0,none⟩) 1 1) (hm:(m+1)*bytes≤140737488355328) (h63:m+1≤maxLen) (hbase:base≤w.heap.size)
 (h:∀ A' c' w',w'.ownsRow base e sz (.slice A' (m+1) c') (m+1) (au enc (l ++ [b]))→bZ w w' (.slice A m c) (.slice A' (m+1) c')→wpList P ops Q rest (a.put o.dst (.slice A' (m+1) c')) w') :
 wpList P ops Q (o :: rest) a (w.alloc (.cells cs e)):=by
 subst hg
 obtain⟨i0,hi,hz0,hz1,hz2⟩:=info_parts hinfo
 have hcs:cs.size=1*sz:=by rw [← Array.length_toList,hu,henc,Nat.one_mul]
 refine tO hgd s x t ho base e i0 z sz bytes ht hi hz0 hz1 hz2 hzs hsz _ m _ hs hown cs 1 (by omega) hx hcs (fun u hu'=>?_) h63 hm hbase (fun v' w' o' g' b' _=>?_)
 · rw [hu] at hu'
   exact h1 _ _ hu'
 · have e1:au enc l ++ cs.toList=au enc (l ++ [b]):=by rw [hu,bU,pB]
   rw [e1] at o'
   obtain⟨g,cap,hv,_⟩:=o'.form (by omega)
   subst hv
   exact h _ _ _ o' ⟨g',b'⟩
end
end Go.Proofs.YtbllgmociapjeaaGreatDoor
/- Blocks that are known whole; worlds that keep all blocks but one. -/
namespace Go.Proofs.YtbllgmociapjeaaGreatDoor
open Go.Lib (hid)
open Go.RowKit
def Blk (w:World) (g:Nat) (t:TypeId) (cs:Array Value):Prop:=w.heap[g]? = some (.cells cs t (0,0))
theorem Blk.below {w w':World} {g B:Nat} {t:TypeId} {cs:Array Value} (h:Blk w g t cs) (hb:Below B w w') (hg:g<B):Blk w' g t cs:=(hb.block g hg).trans h
theorem Blk.lt {w:World} {g:Nat} {t:TypeId} {cs:Array Value} (h:Blk w g t cs):g<w.heap.size:=by
 rcases Nat.lt_or_ge g w.heap.size with h1 | h1
 · exact h1
 · unfold Blk at h; rw [Array.getElem?_eq_none h1] at h; cases h
theorem Blk.cell {w:World} {g:Nat} {t:TypeId} {cs:Array Value} (h:Blk w g t cs) (i:Nat):w.cell? ⟨g,i,none⟩=cs[i]?:=cell_of_row w g i cs t (0,0) h
theorem Blk.thaw {w:World} {g:Nat} {t:TypeId} {cs:Array Value} (h:Blk w g t cs) (i:Nat):w.frozen? ⟨g,i,none⟩=false:=by unfold Blk at h; simp [World.frozen?,h]
theorem Blk.set {w:World} {g:Nat} {t:TypeId} {cs:Array Value} (h:Blk w g t cs) (i:Nat) (v:Value):Blk (w.setCell ⟨g,i,none⟩ v) g t (cs.setIfInBounds i v):=by
 unfold Blk at h ⊢
 simp [World.setCell,Array.getElem?_modify,h]
theorem Blk.alloc {w:World} {g:Nat} {t:TypeId} {cs:Array Value} (h:Blk w g t cs) (o:Obj):Blk (w.alloc o) g t cs:=h.below ((Below.refl w.heap.size w).alloc (Nat.le_refl _) o) h.lt
theorem Blk.eq {w:World} {g:Nat} {t:TypeId} {cs cs':Array Value} (h:Blk w g t cs) (e:cs=cs'):Blk w g t cs':=e ▸ h
section
variable {w a b:World} {g:Nat}
theorem gH (h:w.grownBy a (some g)) (hb:Below a.heap.size a b):w.grownBy b (some g):=
 ⟨hb.os.trans h.os,hb.tape.trans h.tape,hb.output.trans h.output,Nat.le_trans h.size hb.size,fun k hk hne=>(hb.block k (Nat.lt_of_lt_of_le hk h.size)).trans (h.block k hk hne)⟩
theorem aQ (h:w.grownBy a (some g)) (i:Nat) (v:Value):w.grownBy (a.setCell ⟨g,i,none⟩ v) (some g):=
 ⟨h.os,h.tape,h.output,by have:=h.size; simp [World.setCell]; omega,fun k hk hne=>(Below.heap_setCell a ⟨g,i,none⟩ v k (fun e=>hne (by rw [e]))).trans (h.block k hk hne)⟩
theorem GD {v v':Value} (h:w.grownBy a (some g)) (hg:bZ a b v v') (hv:∀ k,v.ownBlock=some k→w.heap.size≤k):w.grownBy b (some g):=
 ⟨hg.grown.os.trans h.os,hg.grown.tape.trans h.tape,hg.grown.output.trans h.output,Nat.le_trans h.size hg.grown.size,fun k hk hne=>
  (hg.grown.block k (Nat.lt_of_lt_of_le hk h.size) (fun e=>by have:=hv k e.symm; omega)).trans (h.block k hk hne)⟩
theorem Blk.grew {v v':Value} {t:TypeId} {cs:Array Value} (h:Blk a g t cs) (hg:bZ a b v v') (hv:∀ k,v.ownBlock=some k→g<k):Blk b g t cs:=
 (hg.grown.block g h.lt (fun e=>by have:=hv g e.symm; omega)).trans h
end
end Go.Proofs.YtbllgmociapjeaaGreatDoor
/- Cells of a block, several at a time. -/
namespace Go.Proofs.YtbllgmociapjeaaGreatDoor
open Go.Lib (hid)
section
variable {w:World} {g:Nat} {t:TypeId} {l r:List Value} {a0 a1 a2 a3 a4 a5 a6 a7 a8 a9 b0 b1 b2 b3:Value}
theorem Blk.g0 (w:World) (g:Nat):w.grownBy w (some g):=⟨rfl,rfl,rfl,Nat.le_refl _,fun _ _ _=>rfl⟩
theorem Blk.ci (h:Blk w g t (List.toArray l)) (i:Nat):w.cell? ⟨g,i,none⟩=l[i]?:=by rw [h.cell i]; simp
theorem Blk.c2 (h:Blk w g t (List.toArray (a0 :: a1 :: r))):w.cell? ⟨g,0,none⟩=some a0∧w.cell? ⟨g,1,none⟩=some a1:=⟨h.ci 0,h.ci 1⟩
theorem Blk.c4 (h:Blk w g t (List.toArray (a0 :: a1 :: a2 :: a3 :: r))):w.cell? ⟨g,0,none⟩=some a0∧w.cell? ⟨g,1,none⟩=some a1∧w.cell? ⟨g,2,none⟩=some a2∧w.cell? ⟨g,3,none⟩=some a3:=⟨h.ci 0,h.ci 1,h.ci 2,h.ci 3⟩
theorem Blk.c5 (h:Blk w g t (List.toArray (a0 :: a1 :: a2 :: a3 :: a4 :: r))):w.cell? ⟨g,0,none⟩=some a0∧w.cell? ⟨g,1,none⟩=some a1∧w.cell? ⟨g,2,none⟩=some a2∧w.cell? ⟨g,3,none⟩=some a3∧w.cell? ⟨g,4,none⟩=some a4:=⟨h.ci 0,h.ci 1,h.ci 2,h.ci 3,h.ci 4⟩
theorem Blk.c8 (h:Blk w g t (List.toArray (a0 :: a1 :: a2 :: a3 :: a4 :: a5 :: a6 :: a7 :: r))):w.cell? ⟨g,0,none⟩=some a0∧w.cell? ⟨g,1,none⟩=some a1∧w.cell? ⟨g,2,none⟩=some a2∧w.cell? ⟨g,3,none⟩=some a3∧w.cell? ⟨g,4,none⟩=some a4∧w.cell? ⟨g,5,none⟩=some a5∧w.cell? ⟨g,6,none⟩=some a6∧w.cell? ⟨g,7,none⟩=some a7:=⟨h.ci 0,h.ci 1,h.ci 2,h.ci 3,h.ci 4,h.ci 5,h.ci 6,h.ci 7⟩
theorem Blk.c14 (h:Blk w g t (List.toArray (a0 :: a1 :: a2 :: a3 :: a4 :: a5 :: a6 :: a7 :: a8 :: a9 :: b0 :: b1 :: b2 :: b3 :: r))):w.cell? ⟨g,0,none⟩=some a0∧w.cell? ⟨g,1,none⟩=some a1∧w.cell? ⟨g,2,none⟩=some a2∧w.cell? ⟨g,3,none⟩=some a3∧w.cell? ⟨g,4,none⟩=some a4∧w.cell? ⟨g,5,none⟩=some a5∧w.cell? ⟨g,6,none⟩=some a6∧w.cell? ⟨g,7,none⟩=some a7 ∧
 w.cell? ⟨g,8,none⟩=some a8∧w.cell? ⟨g,9,none⟩=some a9∧w.cell? ⟨g,10,none⟩=some b0∧w.cell? ⟨g,11,none⟩=some b1∧w.cell? ⟨g,12,none⟩=some b2∧w.cell? ⟨g,13,none⟩=some b3:=⟨h.ci 0,h.ci 1,h.ci 2,h.ci 3,h.ci 4,h.ci 5,h.ci 6,h.ci 7,h.ci 8,h.ci 9,h.ci 10,h.ci 11,h.ci 12,h.ci 13⟩
theorem Blk.z2 (h:Blk w g t (List.toArray l)):w.frozen? ⟨g,0,none⟩=false∧w.frozen? ⟨g,1,none⟩=false:=⟨h.thaw 0,h.thaw 1⟩
theorem Blk.z4 (h:Blk w g t (List.toArray l)):w.frozen? ⟨g,0,none⟩=false∧w.frozen? ⟨g,1,none⟩=false∧w.frozen? ⟨g,2,none⟩=false∧w.frozen? ⟨g,3,none⟩=false:=⟨h.thaw 0,h.thaw 1,h.thaw 2,h.thaw 3⟩
theorem Blk.z8 (h:Blk w g t (List.toArray l)):w.frozen? ⟨g,0,none⟩=false∧w.frozen? ⟨g,1,none⟩=false∧w.frozen? ⟨g,2,none⟩=false∧w.frozen? ⟨g,3,none⟩=false∧w.frozen? ⟨g,4,none⟩=false∧w.frozen? ⟨g,5,none⟩=false∧w.frozen? ⟨g,6,none⟩=false∧w.frozen? ⟨g,7,none⟩=false:=⟨h.thaw 0,h.thaw 1,h.thaw 2,h.thaw 3,h.thaw 4,h.thaw 5,h.thaw 6,h.thaw 7⟩
theorem Blk.z14 (h:Blk w g t (List.toArray l)):w.frozen? ⟨g,0,none⟩=false∧w.frozen? ⟨g,1,none⟩=false∧w.frozen? ⟨g,2,none⟩=false∧w.frozen? ⟨g,3,none⟩=false∧w.frozen? ⟨g,4,none⟩=false∧w.frozen? ⟨g,5,none⟩=false∧w.frozen? ⟨g,6,none⟩=false∧w.frozen? ⟨g,7,none⟩=false∧w.frozen? ⟨g,8,none⟩=false∧w.frozen? ⟨g,9,none⟩=false∧w.frozen? ⟨g,10,none⟩=false∧w.frozen? ⟨g,11,none⟩=false∧w.frozen? ⟨g,12,none⟩=false∧w.frozen? ⟨g,13,none⟩=false:=⟨h.thaw 0,h.thaw 1,h.thaw 2,h.thaw 3,h.thaw 4,h.thaw 5,h.thaw 6,h.thaw 7,h.thaw 8,h.thaw 9,h.thaw 10,h.thaw 11,h.thaw 12,h.thaw 13⟩
theorem Blk.r4 (h:Blk w g t (List.toArray (a0 :: a1 :: a2 :: a3 :: r))):(∀ d os,(Sort.grow (redrawn w d) os).cell? ⟨g,0,none⟩=some a0)∧(∀ d os,(Sort.grow (redrawn w d) os).cell? ⟨g,1,none⟩=some a1)∧(∀ d os,(Sort.grow (redrawn w d) os).cell? ⟨g,2,none⟩=some a2)∧∀ d os,(Sort.grow (redrawn w d) os).cell? ⟨g,3,none⟩=some a3:=
 ⟨fun d os=>cell_regrown (h.ci 0) d os,fun d os=>cell_regrown (h.ci 1) d os,fun d os=>cell_regrown (h.ci 2) d os,fun d os=>cell_regrown (h.ci 3) d os⟩
theorem Blk.r5 (h:Blk w g t (List.toArray (a0 :: a1 :: a2 :: a3 :: a4 :: r))):(∀ d os,(Sort.grow (redrawn w d) os).cell? ⟨g,0,none⟩=some a0)∧(∀ d os,(Sort.grow (redrawn w d) os).cell? ⟨g,1,none⟩=some a1)∧(∀ d os,(Sort.grow (redrawn w d) os).cell? ⟨g,2,none⟩=some a2)∧(∀ d os,(Sort.grow (redrawn w d) os).cell? ⟨g,3,none⟩=some a3)∧∀ d os,(Sort.grow (redrawn w d) os).cell? ⟨g,4,none⟩=some a4:=
 ⟨fun d os=>cell_regrown (h.ci 0) d os,fun d os=>cell_regrown (h.ci 1) d os,fun d os=>cell_regrown (h.ci 2) d os,fun d os=>cell_regrown (h.ci 3) d os,fun d os=>cell_regrown (h.ci 4) d os⟩
theorem Blk.S2 (h:Blk w g t (List.toArray (a0 :: a1 :: r))) (v0 v1:Value):Blk ((w.setCell ⟨g,0,none⟩ v0).setCell ⟨g,1,none⟩ v1) g t (List.toArray (v0 :: v1 :: r))∧w.grownBy ((w.setCell ⟨g,0,none⟩ v0).setCell ⟨g,1,none⟩ v1) (some g):=
 ⟨Blk.eq ((h.set 0 v0).set 1 v1) (by simp),aQ (aQ (Blk.g0 w g) 0 v0) 1 v1⟩
theorem Blk.S4 (h:Blk w g t (List.toArray (a0 :: a1 :: a2 :: a3 :: r))) (v0 v1 v2 v3:Value):Blk ((((w.setCell ⟨g,0,none⟩ v0).setCell ⟨g,1,none⟩ v1).setCell ⟨g,2,none⟩ v2).setCell ⟨g,3,none⟩ v3) g t (List.toArray (v0 :: v1 :: v2 :: v3 :: r))∧w.grownBy ((((w.setCell ⟨g,0,none⟩ v0).setCell ⟨g,1,none⟩ v1).setCell ⟨g,2,none⟩ v2).setCell ⟨g,3,none⟩ v3) (some g):=
 ⟨Blk.eq ((((h.set 0 v0).set 1 v1).set 2 v2).set 3 v3) (by simp),aQ (aQ (aQ (aQ (Blk.g0 w g) 0 v0) 1 v1) 2 v2) 3 v3⟩
theorem Blk.S8 (h:Blk w g t (List.toArray (a0 :: a1 :: a2 :: a3 :: a4 :: a5 :: a6 :: a7 :: r))) (v0 v1 v2 v3 v4 v5 v6 v7:Value):Blk ((((((((w.setCell ⟨g,0,none⟩ v0).setCell ⟨g,1,none⟩ v1).setCell ⟨g,2,none⟩ v2).setCell ⟨g,3,none⟩ v3).setCell ⟨g,4,none⟩ v4).setCell ⟨g,5,none⟩ v5).setCell ⟨g,6,none⟩ v6).setCell ⟨g,7,none⟩ v7) g t (List.toArray (v0 :: v1 :: v2 :: v3 :: v4 :: v5 :: v6 :: v7 :: r))∧w.grownBy ((((((((w.setCell ⟨g,0,none⟩ v0).setCell ⟨g,1,none⟩ v1).setCell ⟨g,2,none⟩ v2).setCell ⟨g,3,none⟩ v3).setCell ⟨g,4,none⟩ v4).setCell ⟨g,5,none⟩ v5).setCell ⟨g,6,none⟩ v6).setCell ⟨g,7,none⟩ v7) (some g):=by
 obtain⟨h1,g1⟩:=h.S4 v0 v1 v2 v3
 exact⟨Blk.eq ((((h1.set 4 v4).set 5 v5).set 6 v6).set 7 v7) (by simp),aQ (aQ (aQ (aQ g1 4 v4) 5 v5) 6 v6) 7 v7⟩
theorem rc3 {b o:Nat} (h:∀ j u,(a0 :: a1 :: a2 :: r)[j]? = some u→w.cell? ⟨b,o+j,none⟩=some u):w.cell? ⟨b,o,none⟩=some a0∧w.cell? ⟨b,o+1,none⟩=some a1∧w.cell? ⟨b,o+2,none⟩=some a2:=⟨h 0 _ rfl,h 1 _ rfl,h 2 _ rfl⟩
theorem rc5 {b o:Nat} (h:∀ j u,(a0 :: a1 :: a2 :: a3 :: a4 :: r)[j]? = some u→w.cell? ⟨b,o+j,none⟩=some u):w.cell? ⟨b,o,none⟩=some a0∧w.cell? ⟨b,o+1,none⟩=some a1∧w.cell? ⟨b,o+2,none⟩=some a2∧w.cell? ⟨b,o+3,none⟩=some a3∧w.cell? ⟨b,o+4,none⟩=some a4:=⟨h 0 _ rfl,h 1 _ rfl,h 2 _ rfl,h 3 _ rfl,h 4 _ rfl⟩
theorem rc14 {b o:Nat} (h:∀ j u,(a0 :: a1 :: a2 :: a3 :: a4 :: a5 :: a6 :: a7 :: a8 :: a9 :: b0 :: b1 :: b2 :: b3 :: r)[j]? = some u→w.cell? ⟨b,o+j,none⟩=some u):w.cell? ⟨b,o,none⟩=some a0∧w.cell? ⟨b,o+1,none⟩=some a1∧w.cell? ⟨b,o+2,none⟩=some a2∧w.cell? ⟨b,o+3,none⟩=some a3∧w.cell? ⟨b,o+4,none⟩=some a4∧w.cell? ⟨b,o+5,none⟩=some a5∧w.cell? ⟨b,o+6,none⟩=some a6∧w.cell? ⟨b,o+7,none⟩=some a7 ∧
 w.cell? ⟨b,o+8,none⟩=some a8∧w.cell? ⟨b,o+9,none⟩=some a9∧w.cell? ⟨b,o+10,none⟩=some b0∧w.cell? ⟨b,o+11,none⟩=some b1∧w.cell? ⟨b,o+12,none⟩=some b2∧w.cell? ⟨b,o+13,none⟩=some b3:=⟨h 0 _ rfl,h 1 _ rfl,h 2 _ rfl,h 3 _ rfl,h 4 _ rfl,h 5 _ rfl,h 6 _ rfl,h 7 _ rfl,h 8 _ rfl,h 9 _ rfl,h 10 _ rfl,h 11 _ rfl,h 12 _ rfl,h 13 _ rfl⟩
end
abbrev fE:Array Value:=#[.int .i64 0,.int .i64 0,.slice none 0 0,.slice none 0 0,.slice none 0 0,.slice none 0 0,.slice none 0 0,.slice none 0 0]
abbrev rW:Array Value:=#[.int .i64 0,.slice none 0 0,.slice none 0 0,.slice none 0 0]
end Go.Proofs.YtbllgmociapjeaaGreatDoor
/- What the checks of rows say: plain. -/
namespace Go.Proofs.YtbllgmociapjeaaGreatDoor
open Go.Lib (hid)
open Go.Lib (validD)
def iy (s:ByteArray):Bool:=decide (s.size≤16) && validD s.data.toList
def bF (s:ByteArray):Bool:=decide (s.size≠0) && iy s
def ranged (n lo hi:Int):Bool:=decide (lo≤n) && decide (n≤hi)
structure aC where
 name:ByteArray
 prio:Int
 need:Int
 tries:Int
 tag:ByteArray
structure aA where
 name:ByteArray
 room:Int
 zone:ByteArray
structure ak where
 job:ByteArray
 node:ByteArray
 till:Int
def aI (j:aC):List Value:=[.string j.name,.int .i64 j.prio,.int .i64 j.need,.int .i64 j.tries,.string j.tag]
def aB (n:aA):List Value:=[.string n.name,.int .i64 n.room,.string n.zone]
def av (l:ak):List Value:=[.string l.job,.string l.node,.int .i64 l.till]
def fB (j:aC):Int:=if bF j.name && iy j.tag then (if ranged j.prio (-1000) 1000 && ranged j.need 0 1000000 && ranged j.tries 0 100 then 0 else 1) else 4
def dO (n:aA):Int:=if bF n.name && iy n.zone then (if ranged n.room 0 1000000 then 0 else 1) else 4
theorem qM {s:ByteArray} (h:s.size=0):s=⟨#[]⟩:=ByteArray.ext (Array.eq_empty_of_size_eq_zero h)
theorem oX {s:ByteArray} (h:s.size≠0):(s.toList == [])=false:=by
 rw [beq_eq_false_iff_ne,ByteArray.toList_eq]
 intro e
 have:=congrArg List.length e
 rw [Array.length_toList] at this
 exact h this
theorem oY {s:ByteArray} (h:s.size≠0):(s.toList == ByteArray.toList ⟨#[]⟩)=false:=by
 rw [show ByteArray.toList ⟨#[]⟩=[] from by rw [ByteArray.toList_eq]]; exact oX h
theorem yU {s:ByteArray} (h:s.size=0):bF s=false:=by unfold bF; rw [decide_eq_false (by omega)]; rfl
theorem AL {s:ByteArray} (h:s.size≠0):bF s=iy s:=by unfold bF; rw [decide_eq_true h]; rfl
theorem qp {s:ByteArray} (h:¬ s.size≤16):iy s=false:=by unfold iy; rw [decide_eq_false h]; rfl
theorem AM {s:ByteArray} (h:s.size≤16):iy s=validD s.data.toList:=by unfold iy; rw [decide_eq_true h]; rfl
theorem aL {n lo hi:Int}:ranged n lo hi=true↔lo≤n∧n≤hi:=by unfold ranged; simp
theorem gT {n lo hi:Int}:ranged n lo hi=false↔n<lo∨hi<n:=by
 rw [← Bool.not_eq_true,aL]; omega
end Go.Proofs.YtbllgmociapjeaaGreatDoor
/- Rows of a table, each as it should be and in order: plain. -/
namespace Go.Proofs.YtbllgmociapjeaaGreatDoor
open Go.Lib (hid)
open Go.Op (bytesLess)
theorem dW:∀ a b:List UInt8,(!bytesLess a b)=(bytesLess b a || b == a)
 | [],[]=>by simp [bytesLess]
 | [],_ :: _=>by simp [bytesLess]
 | _ :: _,[]=>by simp [bytesLess]
 | x :: a,y :: b=>by
  have ih:=dW a b
  simp only [bytesLess]
  by_cases h1:x<y
  · have h2:¬ y<x:=fun h=>absurd (UInt8.lt_trans h1 h) (UInt8.lt_irrefl _)
    have h3:¬ y=x:=fun h=>by subst h; exact absurd h1 (UInt8.lt_irrefl _)
    simp [h1,h2,h3]
  · by_cases h2:y<x
    · have h3:¬ x=y:=fun h=>by subst h; exact absurd h2 (UInt8.lt_irrefl _)
      simp [h1,h2,h3]
    · have h3:x=y:=UInt8.le_antisymm (UInt8.not_lt.1 h2) (UInt8.not_lt.1 h1)
      subst h3
      simpa [h1] using ih
section
variable {α:Type} (E:α→Int) (key:α→ByteArray)
def before (p:Option ByteArray) (s:ByteArray):Bool:=match p with
 | none=>true
 | some q=>bytesLess q.toList s.toList
def dP:Option ByteArray→List α→Int
 | _,[]=>0
 | p,x :: l=>if E x=0 then (if before p (key x)=true then dP (some (key x)) l else 8) else E x
def bT (l:List α):Int:=dP E key none l
def prevK (l:List α) (k:Nat):Option ByteArray:=if k=0 then none else l[k - 1]?.map key
variable {E key} {l:List α} {k:Nat} {x:α}
theorem drop_cons (h:l[k]? = some x):l.drop k=x :: l.drop (k+1):=by
 obtain⟨hlt,rfl⟩:=List.getElem?_eq_some_iff.1 h
 exact List.drop_eq_getElem_cons hlt
theorem rE (h:l[k]? = some x) (he:E x≠0):dP E key (prevK key l k) (l.drop k)=E x:=by
 rw [drop_cons h,dP,if_neg he]
theorem nC {y:α} (h:l[k]? = some x) (he:E x=0) (hk:k≠0) (hy:l[k - 1]? = some y) (hl:bytesLess (key y).toList (key x).toList=false):dP E key (prevK key l k) (l.drop k)=8:=by
 rw [drop_cons h,dP,if_pos he,if_neg]
 unfold prevK before
 rw [if_neg hk,hy]
 simp [hl]
theorem jm (h:l[k]? = some x) (he:E x=0) (hb:k=0∨∃ y,l[k - 1]? = some y∧bytesLess (key y).toList (key x).toList=true) :
 dP E key (prevK key l k) (l.drop k)=dP E key (prevK key l (k+1)) (l.drop (k+1)):=by
 have e1:prevK key l (k+1)=some (key x):=by unfold prevK; rw [if_neg (by omega),Nat.add_sub_cancel,h]; rfl
 rw [drop_cons h,dP,if_pos he,e1,if_pos]
 unfold prevK before
 rcases hb with rfl | ⟨y,hy,hl⟩
 · rfl
 · by_cases hk:k=0
   · rw [if_pos hk]
   · rw [if_neg hk,hy]; exact hl
theorem rF (h:l.length≤k) (p:Option ByteArray):dP E key p (l.drop k)=0:=by
 rw [List.drop_of_length_le h]; rfl
end
theorem aV (j:aC):(aI j).length=5:=rfl
theorem aJ (n:aA):(aB n).length=3:=rfl
theorem aG (l:ak):(av l).length=3:=rfl
end Go.Proofs.YtbllgmociapjeaaGreatDoor
/- What the check of a state says: plain. -/
namespace Go.Proofs.YtbllgmociapjeaaGreatDoor
open Go.Lib (hid)
open Go.Op (bytesLess)
structure ah where
 rev:Int
 jobs:List aC
 nodes:List aA
 leases:List ak
def dA (l:List aC) (s:ByteArray):Option aC:=l.find? fun j=>decide (j.name=s)
def dh (l:List aA) (s:ByteArray):Option aA:=l.find? fun n=>decide (n.name=s)
def fC (st:ah) (l:ak):Int:=if (dA st.jobs l.job).isSome && (dh st.nodes l.node).isSome then (if ranged l.till 0 1099511627776 then 0 else 1) else 6
def gu (st:ah) (l:ak) (s:ByteArray):Int:=if l.node=s then (match dA st.jobs l.job with | some j=>j.need | none=>0) else 0
def fU (st:ah) (s:ByteArray):List ak→Int
 | []=>0
 | l :: r=>gu st l s+fU st s r
def rB (st:ah) (s:ByteArray):Int:=fU st s st.leases
def eC (st:ah):Bool:=decide (st.jobs.length≤40) && decide (st.leases.length≤40) && decide (st.nodes.length≤20)
def mF (st:ah):Bool:=st.nodes.all fun n=>decide (rB st n.name≤n.room)
def aE (st:ah):Int:=
 if ranged st.rev 0 1099511627776=false then 1
 else if eC st=false then 2
 else if bT fB aC.name st.jobs≠0 then bT fB aC.name st.jobs
 else if bT dO aA.name st.nodes≠0 then bT dO aA.name st.nodes
 else if bT (fC st) ak.job st.leases≠0 then bT (fC st) ak.job st.leases
 else if mF st=true then 0 else 9
theorem mg:∀ a:List UInt8,bytesLess a a=false
 | []=>rfl
 | a :: r=>by simp [bytesLess,mg r]
theorem qw:∀ a b c:List UInt8,bytesLess a b=true→bytesLess b c=true→bytesLess a c=true
 | _,[],_,h,_=>by simp [bytesLess] at h
 | _,_ :: _,[],_,h=>by simp [bytesLess] at h
 | [],_ :: _,_ :: _,_,_=>rfl
 | a :: x,b :: y,c :: z,h1,h2=>by
  simp only [bytesLess,Bool.or_eq_true,decide_eq_true_eq,Bool.and_eq_true,beq_iff_eq] at h1 h2 ⊢
  rcases h1 with h1 | ⟨rfl,h1⟩
  · rcases h2 with h2 | ⟨rfl,h2⟩
    · exact .inl (UInt8.lt_trans h1 h2)
    · exact .inl h1
  · rcases h2 with h2 | ⟨rfl,h2⟩
    · exact .inl h2
    · exact .inr ⟨rfl,qw x y z h1 h2⟩
section
variable {α:Type} {E:α→Int} {key:α→ByteArray}
theorem lM:∀ (p:Option ByteArray) (l:List α),dP E key p l=0→(∀ x ∈ l,E x=0∧before p (key x)=true)∧l.Pairwise (fun a b=>bytesLess (key a).toList (key b).toList=true)
 | _,[],_=>⟨by simp,List.Pairwise.nil⟩
 | p,x :: l,h=>by
  unfold dP at h
  by_cases h1:E x=0
  · rw [if_pos h1] at h
    by_cases h2:before p (key x)=true
    · rw [if_pos h2] at h
      obtain⟨i1,i2⟩:=lM (some (key x)) l h
      refine⟨fun y hy=>?_,List.pairwise_cons.2 ⟨fun y hy=>(i1 y hy).2,i2⟩⟩
      rcases List.mem_cons.1 hy with rfl | hy
      · exact⟨h1,h2⟩
      · refine⟨(i1 y hy).1,?_⟩
        have h3:=(i1 y hy).2
        unfold before at h2 h3 ⊢
        cases p with
        | none=>rfl
        | some q=>exact qw _ _ _ h2 h3
    · rw [if_neg h2] at h; omega
  · rw [if_neg h1] at h; exact absurd h h1
theorem dX {l:List α} (h:bT E key l=0) {x:α} (hx:x ∈ l):E x=0:=((lM none l h).1 x hx).1
theorem vN {l:List α} (h:bT E key l=0):l.Pairwise (fun a b=>key a≠key b):=
 (lM none l h).2.imp fun {a b} hlt e=>by rw [e,mg] at hlt; cases hlt
end
theorem Em {j:aC} (h:fB j=0):0≤j.need∧j.need≤1000000:=by
 unfold fB at h
 split at h
 · split at h
   · rename_i h2
     simp only [Bool.and_eq_true] at h2
     exact aL.1 h2.1.2
   · omega
 · omega
theorem xU {α:Type} (key:α→ByteArray) {l:List α} (hp:l.Pairwise (fun a b=>key a≠key b)) {k:Nat} {x:α} (hx:l[k]? = some x) (s:ByteArray) :
 (l.take (k+1)).find? (fun a=>decide (key a=s))=if s=key x then some x else (l.take k).find? (fun a=>decide (key a=s)):=by
 have e:l.take (k+1)=l.take k ++ [x]:=by
  obtain⟨hlt,rfl⟩:=List.getElem?_eq_some_iff.1 hx
  exact (List.take_append_getElem hlt).symm
 rw [e,List.find?_append]
 by_cases hs:s=key x
 · rw [if_pos hs]
   have hnone:(l.take k).find? (fun a=>decide (key a=s))=none:=by
    rw [List.find?_eq_none]
    intro a ha hd
    have hk:key a=s:=by simpa using hd
    obtain⟨hlt,rfl⟩:=List.getElem?_eq_some_iff.1 hx
    obtain⟨i,hi,rfl⟩:=List.mem_iff_getElem.1 ha
    rw [List.length_take] at hi
    rw [List.getElem_take] at hk
    exact List.pairwise_iff_getElem.1 hp i k (by omega) hlt (by omega) (hk.trans hs)
   rw [hnone]
   simp [hs]
 · rw [if_neg hs]
   have:[x].find? (fun a=>decide (key a=s))=none:=by simpa using fun e=>hs (Eq.symm e)
   rw [this]
   simp
theorem rG (st:ah) (s:ByteArray):∀ a b:List ak,fU st s (a ++ b)=fU st s a+fU st s b
 | [],b=>by simp [fU]
 | x :: a,b=>by
  have ih:=rG st s a b
  simp only [List.cons_append,fU,ih]; omega
theorem Cb (st:ah) (s:ByteArray) {l:List ak} {k:Nat} {x:ak} (h:l[k]? = some x):fU st s (l.take (k+1))=fU st s (l.take k)+gu st x s:=by
 have e:l.take (k+1)=l.take k ++ [x]:=by
  obtain⟨hlt,rfl⟩:=List.getElem?_eq_some_iff.1 h
  exact (List.take_append_getElem hlt).symm
 rw [e,rG]; simp [fU]
def rD (st:ah):Prop:=∀ j ∈ st.jobs,0≤j.need∧j.need≤1000000
theorem rH {st:ah} (h:rD st) (x:ak) (s:ByteArray):0≤gu st x s∧gu st x s≤1000000:=by
 unfold gu
 split
 · cases hx:dA st.jobs x.job with
   | none=>simp
   | some j=>exact h j (List.mem_of_find?_eq_some hx)
 · omega
theorem tN {st:ah} (h:rD st) (s:ByteArray):∀ l:List ak,0≤fU st s l∧fU st s l≤(l.length:Int)*1000000
 | []=>by simp [fU]
 | x :: l=>by
  have h1:=rH h x s
  have h2:=tN h s l
  simp only [fU,List.length_cons]
  omega
theorem AN {st:ah} (h:bT fB aC.name st.jobs=0):rD st:=fun _ hj=>Em (dX h hj)
end Go.Proofs.YtbllgmociapjeaaGreatDoor
/- The walks of Zig and Zag, in the program and in the reference. -/
namespace Go.Proofs.YtbllgmociapjeaaGreatDoor
open Go.Lib (hid)
open Go.RowKit
theorem Jm (n:Int) (h : -9223372036854775808≤n) (h':n≤9223372036854775807) (w:World) :
 Calls Tryz.prog 242 #[.int .i64 n] w fun e w'=>e = .returned (.int .u64 (mT n))∧w=w':=by
 have hx:=hid (Jn n h h')
 go_enter Tryz.func242,Tryz.ntmps242
 go_wp2
 go_ret
 exact⟨bg hx.out,rfl⟩
theorem Jo (n:Int) (h:0≤n) (h':n<18446744073709551616) (w:World) :
 Calls Tryz.prog 278 #[.int .u64 n] w fun e w'=>e = .returned (.int .i64 (qx n))∧w=w':=by
 have hx:=hid (Jp n h h')
 go_enter Tryz.func278,Tryz.ntmps278
 go_wp2
 go_ret
 exact⟨bg hx.out,rfl⟩
end Go.Proofs.YtbllgmociapjeaaGreatDoor
/- Names that are to go: in order, and none that is set: plain. -/
namespace Go.Proofs.YtbllgmociapjeaaGreatDoor
open Go.Lib (hid)
open Go.Op (bytesLess)
def eB (l:List ak) (s:ByteArray):Option ak:=l.find? fun x=>decide (x.job=s)
def eZ (has:ByteArray→Bool):Option ByteArray→List ByteArray→Int
 | _,[]=>0
 | p,s :: l=>if bF s=true then (if before p s=true then (if has s=true then 7 else eZ has (some s) l) else 8) else 4
def nJ (has:ByteArray→Bool) (l:List ByteArray):Int:=eZ has none l
def om (s:ByteArray):ByteArray:=s
section
variable {has:ByteArray→Bool} {l:List ByteArray} {k:Nat} {s:ByteArray}
theorem sI (h:l[k]? = some s) (hn:bF s=false):eZ has (prevK om l k) (l.drop k)=4:=by
 rw [drop_cons h,eZ,if_neg (by rw [hn]; simp)]
theorem qh {y:ByteArray} (h:l[k]? = some s) (hn:bF s=true) (hk:k≠0) (hy:l[k - 1]? = some y) (hl:bytesLess y.toList s.toList=false):eZ has (prevK om l k) (l.drop k)=8:=by
 rw [drop_cons h,eZ,if_pos hn,if_neg]
 unfold prevK before
 rw [if_neg hk,hy]
 simp [om,hl]
theorem tP (hb:k=0∨∃ y,l[k - 1]? = some y∧bytesLess y.toList s.toList=true):before (prevK om l k) s=true:=by
 unfold prevK before
 rcases hb with rfl | ⟨y,hy,hl⟩
 · rfl
 · by_cases hk:k=0
   · rw [if_pos hk]
   · rw [if_neg hk,hy]; exact hl
theorem jK (h:l[k]? = some s) (hn:bF s=true) (hb:k=0∨∃ y,l[k - 1]? = some y∧bytesLess y.toList s.toList=true) (hh:has s=true):eZ has (prevK om l k) (l.drop k)=7:=by
 rw [drop_cons h,eZ,if_pos hn,if_pos (tP hb),if_pos hh]
theorem kW (h:l[k]? = some s) (hn:bF s=true) (hb:k=0∨∃ y,l[k - 1]? = some y∧bytesLess y.toList s.toList=true) (hh:has s=false) :
 eZ has (prevK om l k) (l.drop k)=eZ has (prevK om l (k+1)) (l.drop (k+1)):=by
 have e1:prevK om l (k+1)=some s:=by unfold prevK; rw [if_neg (by omega),Nat.add_sub_cancel,h]; rfl
 rw [drop_cons h,eZ,if_pos hn,if_pos (tP hb),if_neg (by rw [hh]; simp),e1]
theorem vE (h:l.length≤k) (p:Option ByteArray):eZ has p (l.drop k)=0:=by
 rw [List.drop_of_length_le h]; rfl
end
def mD (s:ByteArray):List Value:=[.string s]
theorem fQ (s:ByteArray):(mD s).length=1:=rfl
def lsE (l:ak):Int:=if bF l.job && bF l.node then (if ranged l.till 0 1099511627776 then 0 else 1) else 4
structure aW where
 from_:Int
 to_:Int
 jobs:List aC
 nodes:List aA
 leases:List ak
 gj:List ByteArray
 gn:List ByteArray
 gl:List ByteArray
def mE (d:aW):Bool:=decide (d.jobs.length≤40) && decide (d.leases.length≤40) && decide (d.gj.length≤40) && decide (d.gl.length≤40) && decide (d.nodes.length≤20) && decide (d.gn.length≤20)
def lI (d:aW):Bool:=ranged d.from_ 0 1099511627776 && decide (d.from_<d.to_) && decide (d.to_≤1099511627776)
def iO:List Int→Int
 | []=>0
 | e :: l=>if e=0 then iO l else e
def xM (d:aW):List Int:=
 [bT fB aC.name d.jobs,bT dO aA.name d.nodes,bT lsE ak.job d.leases,
  nJ (fun s=>(dA d.jobs s).isSome) d.gj,nJ (fun s=>(dh d.nodes s).isSome) d.gn,nJ (fun s=>(eB d.leases s).isSome) d.gl]
def gJ (d:aW):Int:=if lI d=false then 1 else if mE d=false then 2 else iO (xM d)
theorem tI {e:Int} {l:List Int} (h:e=0):iO (e :: l)=iO l:=by unfold iO; rw [if_pos h]; cases l <;> rfl
theorem tJ {e:Int} {l:List Int} (h:e≠0):iO (e :: l)=e:=by unfold iO; rw [if_neg h]
end Go.Proofs.YtbllgmociapjeaaGreatDoor
/- What the loops over rows hold. -/
namespace Go.Proofs.YtbllgmociapjeaaGreatDoor
open Go.Lib (hid)
open Go.RowKit
def mB (xs:List aC):Prop:=∀ x ∈ xs,x.name.size≤9223372036854775807∧x.tag.size≤9223372036854775807
def K7 (xs:List aC) (n:Nat) (R:Int) (w:World) (i:Value) (wr:World):Prop:=∃ k:Nat,k≤n∧i = .int .i64 k∧dP fB aC.name (prevK aC.name xs k) (xs.drop k)=R∧Below w.heap.size w wr
def kN (xs:List aA):Prop:=∀ x ∈ xs,x.name.size≤9223372036854775807∧x.zone.size≤9223372036854775807
def Jq (xs:List aA) (n:Nat) (R:Int) (w:World) (i:Value) (wr:World):Prop:=∃ k:Nat,k≤n∧i = .int .i64 k∧dP dO aA.name (prevK aA.name xs k) (xs.drop k)=R∧Below w.heap.size w wr
end Go.Proofs.YtbllgmociapjeaaGreatDoor
