/- Of the proof of a statement: Recs, Pk, PlGone. -/
import Derived.Deep.AppendLies
import Derived.Lib.QuietBelow
import Derived.Test.YtoeejfhdjmkpcaaGreatDoorTPlRows
set_option linter.unusedVariables false
set_option linter.unusedSimpArgs false
set_option maxRecDepth 100000
set_option maxHeartbeats 8000000
/- Rows of records: lists of elements of several cells each. -/
namespace Go.Proofs.YtoeejfhdjmkpcaaGreatDoor
open Go.Lib (hid)
open Go.RowKit
def au {α:Type} (enc:α→List Value) (l:List α):List Value:=l.flatMap enc
section
variable {α:Type} {enc:α→List Value} {sz:Nat}
theorem cC (l k:List α):au enc (l ++ k)=au enc l ++ au enc k:=List.flatMap_append
theorem vY (a:α):au enc [a]=enc a:=by simp [au]
theorem jO (h:∀ a,(enc a).length=sz):∀ l:List α,(au enc l).length=l.length*sz
 | []=>by simp [au]
 | a :: l=>by
  have:=jO h l
  unfold au at this ⊢
  rw [List.flatMap_cons,List.length_append,this,h,List.length_cons,Nat.add_mul]; omega
theorem qK (h:∀ a,(enc a).length=sz):∀ (l:List α) (i j:Nat) (a:α),l[i]? = some a→j<sz→(au enc l)[i*sz+j]? = (enc a)[j]?
 | [],i,j,a,hi,_=>by simp at hi
 | b :: l,0,j,a,hi,hj=>by
  simp only [List.getElem?_cons_zero,Option.some.injEq] at hi
  subst hi
  unfold au
  rw [List.flatMap_cons,Nat.zero_mul,Nat.zero_add,List.getElem?_append_left (by rw [h]; exact hj)]
 | b :: l,i+1,j,a,hi,hj=>by
  have:=qK h l i j a (by simpa using hi) hj
  unfold au at this ⊢
  rw [List.flatMap_cons,List.getElem?_append_right (by rw [h,Nat.add_mul]; omega),h,show (i+1)*sz+j - sz=i*sz+j from by rw [Nat.add_mul]; omega]
  exact this
theorem aW.cV {w:World} {B n:Nat} {A:Option Addr} {l:List α} (hz:∀ a,(enc a).length=sz) (h:aW w B sz A n (au enc l)) (hl:l.length=n) {i:Nat} {a:α} (hi:l[i]? = some a) :
 ∃ b off,A=some ⟨b,off,none⟩∧b<B∧∀ j u,(enc a)[j]? = some u→w.cell? ⟨b,off+i*sz+j,none⟩=some u:=by
 have hin:i<n:=by
  rw [← hl]
  rcases Nat.lt_or_ge i l.length with h1 | h1
  · exact h1
  · rw [List.getElem?_eq_none h1] at hi; cases hi
 obtain⟨b,off,e,hB,hr⟩:=h.at_ (by omega)
 refine⟨b,off,e,hB,fun j u hu=>?_⟩
 rw [Nat.add_assoc]
 refine hr _ _ ?_
 have hj:j<sz:=by
  rw [← hz a]
  rcases Nat.lt_or_ge j (enc a).length with h1 | h1
  · exact h1
  · rw [List.getElem?_eq_none h1] at hu; cases hu
 rw [qK hz l i j a hi hj]; exact hu
end
theorem cS {w:World} {base:Nat} {e:TypeId} {sz n c:Nat} {A:Option Addr} {xs:List Value} (h:w.ownsRow base e sz (.slice A n c) n xs):aW w w.heap.size sz A n xs:=
 ⟨h.1,fun hn=>by
  obtain⟨g,cap,hv,hb,hg⟩:=h.form hn
  injection hv with hA _ hc
  subst hA; subst hc
  refine⟨g,0,rfl,hg,fun j u hu=>?_⟩
  have hj:j<n*sz:=by
   rw [← h.1]
   rcases Nat.lt_or_ge j xs.length with h1 | h1
   · exact h1
   · rw [List.getElem?_eq_none h1] at hu; cases hu
  rw [Nat.zero_add,h.cellAt j hj]; exact hu⟩
section
variable {P:Program} {w:World} {ops:Array Oper} {rest:List Oper} {o:Oper} {a:Act} {Q:Exit→Act→World→Prop}
theorem ko {α:Type} (enc:α→List Value) (hgd:o.guard=none) (s x:Operand) (t e:TypeId) (z:Value) (sz bytes:Nat) (ho:o.op = .call { callee:=.builtin .append,args:=#[s,x],argTypes:=#[t,t] })
 (ht:P.underlying t=some (.slice e)) (hinfo:(P.info? e).map (fun i=>(i.zero,i.size,i.bytes))=some (some z,sz,bytes)) (hzs:z.cells.size=sz) (hsz:0<sz)
 (henc:∀ a,(enc a).length=sz) (h1:∀ a,∀ u ∈ enc a,u.oneCell'=true)
 (base:Nat) (A:Option Addr) (m c:Nat) (l:List α) (hs:a.eval s = .slice A m c) (hown:w.ownsRow base e sz (.slice A m c) m (au enc l))
 (cs:Array Value) (b:α) (hu:cs.toList=enc b) (g:Nat) (hg:w.heap.size=g) (hx:a.eval x = .slice (some ⟨g,0,none⟩) 1 1) (hm:(m+1)*bytes≤140737488355328) (h63:m+1≤maxLen) (hbase:base≤w.heap.size)
 (h:∀ A' c' w',w'.ownsRow base e sz (.slice A' (m+1) c') (m+1) (au enc (l ++ [b]))→cu w w' (.slice A m c) (.slice A' (m+1) c')→wpList P ops Q rest (a.put o.dst (.slice A' (m+1) c')) w') :
 wpList P ops Q (o :: rest) a (w.alloc (.cells cs e)):=by
 subst hg
 obtain⟨i0,hi,hz0,hz1,hz2⟩:=info_parts hinfo
 have hcs:cs.size=1*sz:=by rw [← Array.length_toList,hu,henc,Nat.one_mul]
 refine rX hgd s x t ho base e i0 z sz bytes ht hi hz0 hz1 hz2 hzs hsz _ m _ hs hown cs 1 (by omega) hx hcs (fun u hu'=>?_) h63 hm hbase (fun v' w' o' g' b' _=>?_)
 · rw [hu] at hu'
   exact h1 _ _ hu'
 · have e1:au enc l ++ cs.toList=au enc (l ++ [b]):=by rw [hu,cC,vY]
   rw [e1] at o'
   obtain⟨g,cap,hv,_⟩:=o'.form (by omega)
   subst hv
   exact h _ _ _ o' ⟨g',b'⟩
end
end Go.Proofs.YtoeejfhdjmkpcaaGreatDoor
/- Cells of a block, several at a time. -/
namespace Go.Proofs.YtoeejfhdjmkpcaaGreatDoor
open Go.Lib (hid)
section
variable {w:World} {g:Nat} {t:TypeId} {l r:List Value} {a0 a1 a2 a3 a4 a5 a6 a7 a8 a9 b0 b1 b2 b3:Value}
theorem Blk.g0 (w:World) (g:Nat):w.grownBy w (some g):=⟨rfl,rfl,rfl,Nat.le_refl _,fun _ _ _=>rfl⟩
theorem Blk.ci (h:Blk w g t (List.toArray l)) (i:Nat):w.cell? ⟨g,i,none⟩=l[i]?:=by rw [h.cell i]; simp
theorem Blk.c2 (h:Blk w g t (List.toArray (a0 :: a1 :: r))):w.cell? ⟨g,0,none⟩=some a0∧w.cell? ⟨g,1,none⟩=some a1:=⟨h.ci 0,h.ci 1⟩
theorem Blk.c4 (h:Blk w g t (List.toArray (a0 :: a1 :: a2 :: a3 :: r))):w.cell? ⟨g,0,none⟩=some a0∧w.cell? ⟨g,1,none⟩=some a1∧w.cell? ⟨g,2,none⟩=some a2∧w.cell? ⟨g,3,none⟩=some a3:=⟨h.ci 0,h.ci 1,h.ci 2,h.ci 3⟩
theorem Blk.c5 (h:Blk w g t (List.toArray (a0 :: a1 :: a2 :: a3 :: a4 :: r))):w.cell? ⟨g,0,none⟩=some a0∧w.cell? ⟨g,1,none⟩=some a1∧w.cell? ⟨g,2,none⟩=some a2∧w.cell? ⟨g,3,none⟩=some a3∧w.cell? ⟨g,4,none⟩=some a4:=⟨h.ci 0,h.ci 1,h.ci 2,h.ci 3,h.ci 4⟩
theorem Blk.c8 (h:Blk w g t (List.toArray (a0 :: a1 :: a2 :: a3 :: a4 :: a5 :: a6 :: a7 :: r))):w.cell? ⟨g,0,none⟩=some a0∧w.cell? ⟨g,1,none⟩=some a1∧w.cell? ⟨g,2,none⟩=some a2∧w.cell? ⟨g,3,none⟩=some a3∧w.cell? ⟨g,4,none⟩=some a4∧w.cell? ⟨g,5,none⟩=some a5∧w.cell? ⟨g,6,none⟩=some a6∧w.cell? ⟨g,7,none⟩=some a7:=⟨h.ci 0,h.ci 1,h.ci 2,h.ci 3,h.ci 4,h.ci 5,h.ci 6,h.ci 7⟩
theorem Blk.c14 (h:Blk w g t (List.toArray (a0 :: a1 :: a2 :: a3 :: a4 :: a5 :: a6 :: a7 :: a8 :: a9 :: b0 :: b1 :: b2 :: b3 :: r))):w.cell? ⟨g,0,none⟩=some a0∧w.cell? ⟨g,1,none⟩=some a1∧w.cell? ⟨g,2,none⟩=some a2∧w.cell? ⟨g,3,none⟩=some a3∧w.cell? ⟨g,4,none⟩=some a4∧w.cell? ⟨g,5,none⟩=some a5∧w.cell? ⟨g,6,none⟩=some a6∧w.cell? ⟨g,7,none⟩=some a7 ∧
 w.cell? ⟨g,8,none⟩=some a8∧w.cell? ⟨g,9,none⟩=some a9∧w.cell? ⟨g,10,none⟩=some b0∧w.cell? ⟨g,11,none⟩=some b1∧w.cell? ⟨g,12,none⟩=some b2∧w.cell? ⟨g,13,none⟩=some b3:=⟨h.ci 0,h.ci 1,h.ci 2,h.ci 3,h.ci 4,h.ci 5,h.ci 6,h.ci 7,h.ci 8,h.ci 9,h.ci 10,h.ci 11,h.ci 12,h.ci 13⟩
theorem Blk.z2 (h:Blk w g t (List.toArray l)):w.frozen? ⟨g,0,none⟩=false∧w.frozen? ⟨g,1,none⟩=false:=⟨h.thaw 0,h.thaw 1⟩
theorem Blk.z4 (h:Blk w g t (List.toArray l)):w.frozen? ⟨g,0,none⟩=false∧w.frozen? ⟨g,1,none⟩=false∧w.frozen? ⟨g,2,none⟩=false∧w.frozen? ⟨g,3,none⟩=false:=⟨h.thaw 0,h.thaw 1,h.thaw 2,h.thaw 3⟩
theorem Blk.z8 (h:Blk w g t (List.toArray l)):w.frozen? ⟨g,0,none⟩=false∧w.frozen? ⟨g,1,none⟩=false∧w.frozen? ⟨g,2,none⟩=false∧w.frozen? ⟨g,3,none⟩=false∧w.frozen? ⟨g,4,none⟩=false∧w.frozen? ⟨g,5,none⟩=false∧w.frozen? ⟨g,6,none⟩=false∧w.frozen? ⟨g,7,none⟩=false:=⟨h.thaw 0,h.thaw 1,h.thaw 2,h.thaw 3,h.thaw 4,h.thaw 5,h.thaw 6,h.thaw 7⟩
theorem Blk.z14 (h:Blk w g t (List.toArray l)):w.frozen? ⟨g,0,none⟩=false∧w.frozen? ⟨g,1,none⟩=false∧w.frozen? ⟨g,2,none⟩=false∧w.frozen? ⟨g,3,none⟩=false∧w.frozen? ⟨g,4,none⟩=false∧w.frozen? ⟨g,5,none⟩=false∧w.frozen? ⟨g,6,none⟩=false∧w.frozen? ⟨g,7,none⟩=false∧w.frozen? ⟨g,8,none⟩=false∧w.frozen? ⟨g,9,none⟩=false∧w.frozen? ⟨g,10,none⟩=false∧w.frozen? ⟨g,11,none⟩=false∧w.frozen? ⟨g,12,none⟩=false∧w.frozen? ⟨g,13,none⟩=false:=⟨h.thaw 0,h.thaw 1,h.thaw 2,h.thaw 3,h.thaw 4,h.thaw 5,h.thaw 6,h.thaw 7,h.thaw 8,h.thaw 9,h.thaw 10,h.thaw 11,h.thaw 12,h.thaw 13⟩
theorem Blk.r4 (h:Blk w g t (List.toArray (a0 :: a1 :: a2 :: a3 :: r))):(∀ d os,(Sort.grow (redrawn w d) os).cell? ⟨g,0,none⟩=some a0)∧(∀ d os,(Sort.grow (redrawn w d) os).cell? ⟨g,1,none⟩=some a1)∧(∀ d os,(Sort.grow (redrawn w d) os).cell? ⟨g,2,none⟩=some a2)∧∀ d os,(Sort.grow (redrawn w d) os).cell? ⟨g,3,none⟩=some a3:=
 ⟨fun d os=>cell_regrown (h.ci 0) d os,fun d os=>cell_regrown (h.ci 1) d os,fun d os=>cell_regrown (h.ci 2) d os,fun d os=>cell_regrown (h.ci 3) d os⟩
theorem Blk.r5 (h:Blk w g t (List.toArray (a0 :: a1 :: a2 :: a3 :: a4 :: r))):(∀ d os,(Sort.grow (redrawn w d) os).cell? ⟨g,0,none⟩=some a0)∧(∀ d os,(Sort.grow (redrawn w d) os).cell? ⟨g,1,none⟩=some a1)∧(∀ d os,(Sort.grow (redrawn w d) os).cell? ⟨g,2,none⟩=some a2)∧(∀ d os,(Sort.grow (redrawn w d) os).cell? ⟨g,3,none⟩=some a3)∧∀ d os,(Sort.grow (redrawn w d) os).cell? ⟨g,4,none⟩=some a4:=
 ⟨fun d os=>cell_regrown (h.ci 0) d os,fun d os=>cell_regrown (h.ci 1) d os,fun d os=>cell_regrown (h.ci 2) d os,fun d os=>cell_regrown (h.ci 3) d os,fun d os=>cell_regrown (h.ci 4) d os⟩
theorem Blk.S2 (h:Blk w g t (List.toArray (a0 :: a1 :: r))) (v0 v1:Value):Blk ((w.setCell ⟨g,0,none⟩ v0).setCell ⟨g,1,none⟩ v1) g t (List.toArray (v0 :: v1 :: r))∧w.grownBy ((w.setCell ⟨g,0,none⟩ v0).setCell ⟨g,1,none⟩ v1) (some g):=
 ⟨Blk.eq ((h.set 0 v0).set 1 v1) (by simp),aK (aK (Blk.g0 w g) 0 v0) 1 v1⟩
theorem Blk.S4 (h:Blk w g t (List.toArray (a0 :: a1 :: a2 :: a3 :: r))) (v0 v1 v2 v3:Value):Blk ((((w.setCell ⟨g,0,none⟩ v0).setCell ⟨g,1,none⟩ v1).setCell ⟨g,2,none⟩ v2).setCell ⟨g,3,none⟩ v3) g t (List.toArray (v0 :: v1 :: v2 :: v3 :: r))∧w.grownBy ((((w.setCell ⟨g,0,none⟩ v0).setCell ⟨g,1,none⟩ v1).setCell ⟨g,2,none⟩ v2).setCell ⟨g,3,none⟩ v3) (some g):=
 ⟨Blk.eq ((((h.set 0 v0).set 1 v1).set 2 v2).set 3 v3) (by simp),aK (aK (aK (aK (Blk.g0 w g) 0 v0) 1 v1) 2 v2) 3 v3⟩
theorem Blk.S8 (h:Blk w g t (List.toArray (a0 :: a1 :: a2 :: a3 :: a4 :: a5 :: a6 :: a7 :: r))) (v0 v1 v2 v3 v4 v5 v6 v7:Value):Blk ((((((((w.setCell ⟨g,0,none⟩ v0).setCell ⟨g,1,none⟩ v1).setCell ⟨g,2,none⟩ v2).setCell ⟨g,3,none⟩ v3).setCell ⟨g,4,none⟩ v4).setCell ⟨g,5,none⟩ v5).setCell ⟨g,6,none⟩ v6).setCell ⟨g,7,none⟩ v7) g t (List.toArray (v0 :: v1 :: v2 :: v3 :: v4 :: v5 :: v6 :: v7 :: r))∧w.grownBy ((((((((w.setCell ⟨g,0,none⟩ v0).setCell ⟨g,1,none⟩ v1).setCell ⟨g,2,none⟩ v2).setCell ⟨g,3,none⟩ v3).setCell ⟨g,4,none⟩ v4).setCell ⟨g,5,none⟩ v5).setCell ⟨g,6,none⟩ v6).setCell ⟨g,7,none⟩ v7) (some g):=by
 obtain⟨h1,g1⟩:=h.S4 v0 v1 v2 v3
 exact⟨Blk.eq ((((h1.set 4 v4).set 5 v5).set 6 v6).set 7 v7) (by simp),aK (aK (aK (aK g1 4 v4) 5 v5) 6 v6) 7 v7⟩
theorem rc3 {b o:Nat} (h:∀ j u,(a0 :: a1 :: a2 :: r)[j]? = some u→w.cell? ⟨b,o+j,none⟩=some u):w.cell? ⟨b,o,none⟩=some a0∧w.cell? ⟨b,o+1,none⟩=some a1∧w.cell? ⟨b,o+2,none⟩=some a2:=⟨h 0 _ rfl,h 1 _ rfl,h 2 _ rfl⟩
theorem rc5 {b o:Nat} (h:∀ j u,(a0 :: a1 :: a2 :: a3 :: a4 :: r)[j]? = some u→w.cell? ⟨b,o+j,none⟩=some u):w.cell? ⟨b,o,none⟩=some a0∧w.cell? ⟨b,o+1,none⟩=some a1∧w.cell? ⟨b,o+2,none⟩=some a2∧w.cell? ⟨b,o+3,none⟩=some a3∧w.cell? ⟨b,o+4,none⟩=some a4:=⟨h 0 _ rfl,h 1 _ rfl,h 2 _ rfl,h 3 _ rfl,h 4 _ rfl⟩
theorem rc14 {b o:Nat} (h:∀ j u,(a0 :: a1 :: a2 :: a3 :: a4 :: a5 :: a6 :: a7 :: a8 :: a9 :: b0 :: b1 :: b2 :: b3 :: r)[j]? = some u→w.cell? ⟨b,o+j,none⟩=some u):w.cell? ⟨b,o,none⟩=some a0∧w.cell? ⟨b,o+1,none⟩=some a1∧w.cell? ⟨b,o+2,none⟩=some a2∧w.cell? ⟨b,o+3,none⟩=some a3∧w.cell? ⟨b,o+4,none⟩=some a4∧w.cell? ⟨b,o+5,none⟩=some a5∧w.cell? ⟨b,o+6,none⟩=some a6∧w.cell? ⟨b,o+7,none⟩=some a7 ∧
 w.cell? ⟨b,o+8,none⟩=some a8∧w.cell? ⟨b,o+9,none⟩=some a9∧w.cell? ⟨b,o+10,none⟩=some b0∧w.cell? ⟨b,o+11,none⟩=some b1∧w.cell? ⟨b,o+12,none⟩=some b2∧w.cell? ⟨b,o+13,none⟩=some b3:=⟨h 0 _ rfl,h 1 _ rfl,h 2 _ rfl,h 3 _ rfl,h 4 _ rfl,h 5 _ rfl,h 6 _ rfl,h 7 _ rfl,h 8 _ rfl,h 9 _ rfl,h 10 _ rfl,h 11 _ rfl,h 12 _ rfl,h 13 _ rfl⟩
end
abbrev eS:Array Value:=#[.int .i64 0,.int .i64 0,.slice none 0 0,.slice none 0 0,.slice none 0 0,.slice none 0 0,.slice none 0 0,.slice none 0 0]
abbrev uY:Array Value:=#[.int .i64 0,.slice none 0 0,.slice none 0 0,.slice none 0 0]
end Go.Proofs.YtoeejfhdjmkpcaaGreatDoor
/- Names that are to go: in order, and none that is set: plain. -/
namespace Go.Proofs.YtoeejfhdjmkpcaaGreatDoor
open Go.Lib (hid)
open Go.Op (bytesLess)
def cU (l:List ak) (s:ByteArray):Option ak:=l.find? fun x=>decide (x.job=s)
def eO (has:ByteArray→Bool):Option ByteArray→List ByteArray→Int
 | _,[]=>0
 | p,s :: l=>if bQ s=true then (if before p s=true then (if has s=true then 7 else eO has (some s) l) else 8) else 4
def mI (has:ByteArray→Bool) (l:List ByteArray):Int:=eO has none l
def nu (s:ByteArray):ByteArray:=s
section
variable {has:ByteArray→Bool} {l:List ByteArray} {k:Nat} {s:ByteArray}
theorem ru (h:l[k]? = some s) (hn:bQ s=false):eO has (prevK nu l k) (l.drop k)=4:=by
 rw [drop_cons h,eO,if_neg (by rw [hn]; simp)]
theorem o9 {y:ByteArray} (h:l[k]? = some s) (hn:bQ s=true) (hk:k≠0) (hy:l[k - 1]? = some y) (hl:bytesLess y.toList s.toList=false):eO has (prevK nu l k) (l.drop k)=8:=by
 rw [drop_cons h,eO,if_pos hn,if_neg]
 unfold prevK before
 rw [if_neg hk,hy]
 simp [nu,hl]
theorem rY (hb:k=0∨∃ y,l[k - 1]? = some y∧bytesLess y.toList s.toList=true):before (prevK nu l k) s=true:=by
 unfold prevK before
 rcases hb with rfl | ⟨y,hy,hl⟩
 · rfl
 · by_cases hk:k=0
   · rw [if_pos hk]
   · rw [if_neg hk,hy]; exact hl
theorem jl (h:l[k]? = some s) (hn:bQ s=true) (hb:k=0∨∃ y,l[k - 1]? = some y∧bytesLess y.toList s.toList=true) (hh:has s=true):eO has (prevK nu l k) (l.drop k)=7:=by
 rw [drop_cons h,eO,if_pos hn,if_pos (rY hb),if_pos hh]
theorem j6 (h:l[k]? = some s) (hn:bQ s=true) (hb:k=0∨∃ y,l[k - 1]? = some y∧bytesLess y.toList s.toList=true) (hh:has s=false) :
 eO has (prevK nu l k) (l.drop k)=eO has (prevK nu l (k+1)) (l.drop (k+1)):=by
 have e1:prevK nu l (k+1)=some s:=by unfold prevK; rw [if_neg (by omega),Nat.add_sub_cancel,h]; rfl
 rw [drop_cons h,eO,if_pos hn,if_pos (rY hb),if_neg (by rw [hh]; simp),e1]
theorem uj (h:l.length≤k) (p:Option ByteArray):eO has p (l.drop k)=0:=by
 rw [List.drop_of_length_le h]; rfl
end
def lC (s:ByteArray):List Value:=[.string s]
theorem fL (s:ByteArray):(lC s).length=1:=rfl
def lsE (l:ak):Int:=if bQ l.job && bQ l.node then (if ranged l.till 0 1099511627776 then 0 else 1) else 4
structure aX where
 from_:Int
 to_:Int
 jobs:List aD
 nodes:List aA
 leases:List ak
 gj:List ByteArray
 gn:List ByteArray
 gl:List ByteArray
def lD (d:aX):Bool:=decide (d.jobs.length≤40) && decide (d.leases.length≤40) && decide (d.gj.length≤40) && decide (d.gl.length≤40) && decide (d.nodes.length≤20) && decide (d.gn.length≤20)
def kF (d:aX):Bool:=ranged d.from_ 0 1099511627776 && decide (d.from_<d.to_) && decide (d.to_≤1099511627776)
def iy:List Int→Int
 | []=>0
 | e :: l=>if e=0 then iy l else e
def vN (d:aX):List Int:=
 [cE fF aD.name d.jobs,cE eP aA.name d.nodes,cE lsE ak.job d.leases,
  mI (fun s=>(cP d.jobs s).isSome) d.gj,mI (fun s=>(cL d.nodes s).isSome) d.gn,mI (fun s=>(cU d.leases s).isSome) d.gl]
def gA (d:aX):Int:=if kF d=false then 1 else if lD d=false then 2 else iy (vN d)
theorem rQ {e:Int} {l:List Int} (h:e=0):iy (e :: l)=iy l:=by unfold iy; rw [if_pos h]; cases l <;> rfl
theorem rR {e:Int} {l:List Int} (h:e≠0):iy (e :: l)=e:=by unfold iy; rw [if_neg h]
end Go.Proofs.YtoeejfhdjmkpcaaGreatDoor
