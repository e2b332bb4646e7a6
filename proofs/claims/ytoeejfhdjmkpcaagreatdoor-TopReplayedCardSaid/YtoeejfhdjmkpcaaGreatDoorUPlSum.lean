/- Of the proof of a statement: Blk, Pk, PlChk, PlRows, PlSt, Zig, TabM, RowsDef, PlSum. -/
import Derived.Lib.QuietBelow
import Derived.Lib.ValidLaws
import Derived.Test.YtoeejfhdjmkpcaaGreatDoorRows
import Derived.Maps.OwnSet
import Derived.StringKeys
import Derived.Test.YtoeejfhdjmkpcaaGreatDoorUPush
set_option linter.unusedVariables false
set_option linter.unusedSimpArgs false
set_option maxRecDepth 100000
set_option maxHeartbeats 8000000
/- Blocks that are known whole; worlds that keep all blocks but one. -/
namespace Go.Proofs.YtoeejfhdjmkpcaaGreatDoor
open Go.Lib (hid)
open Go.RowKit
def Blk (w:World) (g:Nat) (t:TypeId) (cs:Array Value):Prop:=w.heap[g]? = some (.cells cs t (0,0))
theorem Blk.below {w w':World} {g B:Nat} {t:TypeId} {cs:Array Value} (h:Blk w g t cs) (hb:Below B w w') (hg:g<B):Blk w' g t cs:=(hb.block g hg).trans h
theorem Blk.lt {w:World} {g:Nat} {t:TypeId} {cs:Array Value} (h:Blk w g t cs):g<w.heap.size:=by
 rcases Nat.lt_or_ge g w.heap.size with h1 | h1
 · exact h1
 · unfold Blk at h; rw [Array.getElem?_eq_none h1] at h; cases h
theorem Blk.cell {w:World} {g:Nat} {t:TypeId} {cs:Array Value} (h:Blk w g t cs) (i:Nat):w.cell? ⟨g,i,none⟩=cs[i]?:=cell_of_row w g i cs t (0,0) h
theorem Blk.thaw {w:World} {g:Nat} {t:TypeId} {cs:Array Value} (h:Blk w g t cs) (i:Nat):w.frozen? ⟨g,i,none⟩=false:=by unfold Blk at h; simp [World.frozen?,h]
theorem Blk.set {w:World} {g:Nat} {t:TypeId} {cs:Array Value} (h:Blk w g t cs) (i:Nat) (v:Value):Blk (w.setCell ⟨g,i,none⟩ v) g t (cs.setIfInBounds i v):=by
 unfold Blk at h ⊢
 simp [World.setCell,Array.getElem?_modify,h]
theorem Blk.alloc {w:World} {g:Nat} {t:TypeId} {cs:Array Value} (h:Blk w g t cs) (o:Obj):Blk (w.alloc o) g t cs:=h.below ((Below.refl w.heap.size w).alloc (Nat.le_refl _) o) h.lt
theorem Blk.eq {w:World} {g:Nat} {t:TypeId} {cs cs':Array Value} (h:Blk w g t cs) (e:cs=cs'):Blk w g t cs':=e ▸ h
section
variable {w a b:World} {g:Nat}
theorem gQ (h:w.grownBy a (some g)) (hb:Below a.heap.size a b):w.grownBy b (some g):=
 ⟨hb.os.trans h.os,hb.tape.trans h.tape,hb.output.trans h.output,Nat.le_trans h.size hb.size,fun k hk hne=>(hb.block k (Nat.lt_of_lt_of_le hk h.size)).trans (h.block k hk hne)⟩
theorem aF (h:w.grownBy a (some g)) (i:Nat) (v:Value):w.grownBy (a.setCell ⟨g,i,none⟩ v) (some g):=
 ⟨h.os,h.tape,h.output,by have:=h.size; simp [World.setCell]; omega,fun k hk hne=>(Below.heap_setCell a ⟨g,i,none⟩ v k (fun e=>hne (by rw [e]))).trans (h.block k hk hne)⟩
theorem pz {v v':Value} (h:w.grownBy a (some g)) (hg:cE a b v v') (hv:∀ k,v.ownBlock=some k→w.heap.size≤k):w.grownBy b (some g):=
 ⟨hg.grown.os.trans h.os,hg.grown.tape.trans h.tape,hg.grown.output.trans h.output,Nat.le_trans h.size hg.grown.size,fun k hk hne=>
  (hg.grown.block k (Nat.lt_of_lt_of_le hk h.size) (fun e=>by have:=hv k e.symm; omega)).trans (h.block k hk hne)⟩
theorem Blk.grew {v v':Value} {t:TypeId} {cs:Array Value} (h:Blk a g t cs) (hg:cE a b v v') (hv:∀ k,v.ownBlock=some k→g<k):Blk b g t cs:=
 (hg.grown.block g h.lt (fun e=>by have:=hv g e.symm; omega)).trans h
end
end Go.Proofs.YtoeejfhdjmkpcaaGreatDoor
/- Cells of a block, several at a time. -/
namespace Go.Proofs.YtoeejfhdjmkpcaaGreatDoor
open Go.Lib (hid)
section
variable {w:World} {g:Nat} {t:TypeId} {l r:List Value} {a0 a1 a2 a3 a4 a5 a6 a7 a8 a9 b0 b1 b2 b3:Value}
theorem Blk.g0 (w:World) (g:Nat):w.grownBy w (some g):=⟨rfl,rfl,rfl,Nat.le_refl _,fun _ _ _=>rfl⟩
theorem Blk.ci (h:Blk w g t (List.toArray l)) (i:Nat):w.cell? ⟨g,i,none⟩=l[i]?:=by rw [h.cell i]; simp
theorem Blk.c2 (h:Blk w g t (List.toArray (a0 :: a1 :: r))):w.cell? ⟨g,0,none⟩=some a0∧w.cell? ⟨g,1,none⟩=some a1:=⟨h.ci 0,h.ci 1⟩
theorem Blk.c4 (h:Blk w g t (List.toArray (a0 :: a1 :: a2 :: a3 :: r))):w.cell? ⟨g,0,none⟩=some a0∧w.cell? ⟨g,1,none⟩=some a1∧w.cell? ⟨g,2,none⟩=some a2∧w.cell? ⟨g,3,none⟩=some a3:=⟨h.ci 0,h.ci 1,h.ci 2,h.ci 3⟩
theorem Blk.c5 (h:Blk w g t (List.toArray (a0 :: a1 :: a2 :: a3 :: a4 :: r))):w.cell? ⟨g,0,none⟩=some a0∧w.cell? ⟨g,1,none⟩=some a1∧w.cell? ⟨g,2,none⟩=some a2∧w.cell? ⟨g,3,none⟩=some a3∧w.cell? ⟨g,4,none⟩=some a4:=⟨h.ci 0,h.ci 1,h.ci 2,h.ci 3,h.ci 4⟩
theorem Blk.c8 (h:Blk w g t (List.toArray (a0 :: a1 :: a2 :: a3 :: a4 :: a5 :: a6 :: a7 :: r))):w.cell? ⟨g,0,none⟩=some a0∧w.cell? ⟨g,1,none⟩=some a1∧w.cell? ⟨g,2,none⟩=some a2∧w.cell? ⟨g,3,none⟩=some a3∧w.cell? ⟨g,4,none⟩=some a4∧w.cell? ⟨g,5,none⟩=some a5∧w.cell? ⟨g,6,none⟩=some a6∧w.cell? ⟨g,7,none⟩=some a7:=⟨h.ci 0,h.ci 1,h.ci 2,h.ci 3,h.ci 4,h.ci 5,h.ci 6,h.ci 7⟩
theorem Blk.c14 (h:Blk w g t (List.toArray (a0 :: a1 :: a2 :: a3 :: a4 :: a5 :: a6 :: a7 :: a8 :: a9 :: b0 :: b1 :: b2 :: b3 :: r))):w.cell? ⟨g,0,none⟩=some a0∧w.cell? ⟨g,1,none⟩=some a1∧w.cell? ⟨g,2,none⟩=some a2∧w.cell? ⟨g,3,none⟩=some a3∧w.cell? ⟨g,4,none⟩=some a4∧w.cell? ⟨g,5,none⟩=some a5∧w.cell? ⟨g,6,none⟩=some a6∧w.cell? ⟨g,7,none⟩=some a7 ∧
 w.cell? ⟨g,8,none⟩=some a8∧w.cell? ⟨g,9,none⟩=some a9∧w.cell? ⟨g,10,none⟩=some b0∧w.cell? ⟨g,11,none⟩=some b1∧w.cell? ⟨g,12,none⟩=some b2∧w.cell? ⟨g,13,none⟩=some b3:=⟨h.ci 0,h.ci 1,h.ci 2,h.ci 3,h.ci 4,h.ci 5,h.ci 6,h.ci 7,h.ci 8,h.ci 9,h.ci 10,h.ci 11,h.ci 12,h.ci 13⟩
theorem Blk.z2 (h:Blk w g t (List.toArray l)):w.frozen? ⟨g,0,none⟩=false∧w.frozen? ⟨g,1,none⟩=false:=⟨h.thaw 0,h.thaw 1⟩
theorem Blk.z4 (h:Blk w g t (List.toArray l)):w.frozen? ⟨g,0,none⟩=false∧w.frozen? ⟨g,1,none⟩=false∧w.frozen? ⟨g,2,none⟩=false∧w.frozen? ⟨g,3,none⟩=false:=⟨h.thaw 0,h.thaw 1,h.thaw 2,h.thaw 3⟩
theorem Blk.z8 (h:Blk w g t (List.toArray l)):w.frozen? ⟨g,0,none⟩=false∧w.frozen? ⟨g,1,none⟩=false∧w.frozen? ⟨g,2,none⟩=false∧w.frozen? ⟨g,3,none⟩=false∧w.frozen? ⟨g,4,none⟩=false∧w.frozen? ⟨g,5,none⟩=false∧w.frozen? ⟨g,6,none⟩=false∧w.frozen? ⟨g,7,none⟩=false:=⟨h.thaw 0,h.thaw 1,h.thaw 2,h.thaw 3,h.thaw 4,h.thaw 5,h.thaw 6,h.thaw 7⟩
theorem Blk.z14 (h:Blk w g t (List.toArray l)):w.frozen? ⟨g,0,none⟩=false∧w.frozen? ⟨g,1,none⟩=false∧w.frozen? ⟨g,2,none⟩=false∧w.frozen? ⟨g,3,none⟩=false∧w.frozen? ⟨g,4,none⟩=false∧w.frozen? ⟨g,5,none⟩=false∧w.frozen? ⟨g,6,none⟩=false∧w.frozen? ⟨g,7,none⟩=false∧w.frozen? ⟨g,8,none⟩=false∧w.frozen? ⟨g,9,none⟩=false∧w.frozen? ⟨g,10,none⟩=false∧w.frozen? ⟨g,11,none⟩=false∧w.frozen? ⟨g,12,none⟩=false∧w.frozen? ⟨g,13,none⟩=false:=⟨h.thaw 0,h.thaw 1,h.thaw 2,h.thaw 3,h.thaw 4,h.thaw 5,h.thaw 6,h.thaw 7,h.thaw 8,h.thaw 9,h.thaw 10,h.thaw 11,h.thaw 12,h.thaw 13⟩
theorem Blk.r4 (h:Blk w g t (List.toArray (a0 :: a1 :: a2 :: a3 :: r))):(∀ d os,(Sort.grow (redrawn w d) os).cell? ⟨g,0,none⟩=some a0)∧(∀ d os,(Sort.grow (redrawn w d) os).cell? ⟨g,1,none⟩=some a1)∧(∀ d os,(Sort.grow (redrawn w d) os).cell? ⟨g,2,none⟩=some a2)∧∀ d os,(Sort.grow (redrawn w d) os).cell? ⟨g,3,none⟩=some a3:=
 ⟨fun d os=>cell_regrown (h.ci 0) d os,fun d os=>cell_regrown (h.ci 1) d os,fun d os=>cell_regrown (h.ci 2) d os,fun d os=>cell_regrown (h.ci 3) d os⟩
theorem Blk.r5 (h:Blk w g t (List.toArray (a0 :: a1 :: a2 :: a3 :: a4 :: r))):(∀ d os,(Sort.grow (redrawn w d) os).cell? ⟨g,0,none⟩=some a0)∧(∀ d os,(Sort.grow (redrawn w d) os).cell? ⟨g,1,none⟩=some a1)∧(∀ d os,(Sort.grow (redrawn w d) os).cell? ⟨g,2,none⟩=some a2)∧(∀ d os,(Sort.grow (redrawn w d) os).cell? ⟨g,3,none⟩=some a3)∧∀ d os,(Sort.grow (redrawn w d) os).cell? ⟨g,4,none⟩=some a4:=
 ⟨fun d os=>cell_regrown (h.ci 0) d os,fun d os=>cell_regrown (h.ci 1) d os,fun d os=>cell_regrown (h.ci 2) d os,fun d os=>cell_regrown (h.ci 3) d os,fun d os=>cell_regrown (h.ci 4) d os⟩
theorem Blk.S2 (h:Blk w g t (List.toArray (a0 :: a1 :: r))) (v0 v1:Value):Blk ((w.setCell ⟨g,0,none⟩ v0).setCell ⟨g,1,none⟩ v1) g t (List.toArray (v0 :: v1 :: r))∧w.grownBy ((w.setCell ⟨g,0,none⟩ v0).setCell ⟨g,1,none⟩ v1) (some g):=
 ⟨Blk.eq ((h.set 0 v0).set 1 v1) (by simp),aF (aF (Blk.g0 w g) 0 v0) 1 v1⟩
theorem Blk.S4 (h:Blk w g t (List.toArray (a0 :: a1 :: a2 :: a3 :: r))) (v0 v1 v2 v3:Value):Blk ((((w.setCell ⟨g,0,none⟩ v0).setCell ⟨g,1,none⟩ v1).setCell ⟨g,2,none⟩ v2).setCell ⟨g,3,none⟩ v3) g t (List.toArray (v0 :: v1 :: v2 :: v3 :: r))∧w.grownBy ((((w.setCell ⟨g,0,none⟩ v0).setCell ⟨g,1,none⟩ v1).setCell ⟨g,2,none⟩ v2).setCell ⟨g,3,none⟩ v3) (some g):=
 ⟨Blk.eq ((((h.set 0 v0).set 1 v1).set 2 v2).set 3 v3) (by simp),aF (aF (aF (aF (Blk.g0 w g) 0 v0) 1 v1) 2 v2) 3 v3⟩
theorem Blk.S8 (h:Blk w g t (List.toArray (a0 :: a1 :: a2 :: a3 :: a4 :: a5 :: a6 :: a7 :: r))) (v0 v1 v2 v3 v4 v5 v6 v7:Value):Blk ((((((((w.setCell ⟨g,0,none⟩ v0).setCell ⟨g,1,none⟩ v1).setCell ⟨g,2,none⟩ v2).setCell ⟨g,3,none⟩ v3).setCell ⟨g,4,none⟩ v4).setCell ⟨g,5,none⟩ v5).setCell ⟨g,6,none⟩ v6).setCell ⟨g,7,none⟩ v7) g t (List.toArray (v0 :: v1 :: v2 :: v3 :: v4 :: v5 :: v6 :: v7 :: r))∧w.grownBy ((((((((w.setCell ⟨g,0,none⟩ v0).setCell ⟨g,1,none⟩ v1).setCell ⟨g,2,none⟩ v2).setCell ⟨g,3,none⟩ v3).setCell ⟨g,4,none⟩ v4).setCell ⟨g,5,none⟩ v5).setCell ⟨g,6,none⟩ v6).setCell ⟨g,7,none⟩ v7) (some g):=by
 obtain⟨h1,g1⟩:=h.S4 v0 v1 v2 v3
 exact⟨Blk.eq ((((h1.set 4 v4).set 5 v5).set 6 v6).set 7 v7) (by simp),aF (aF (aF (aF g1 4 v4) 5 v5) 6 v6) 7 v7⟩
theorem rc3 {b o:Nat} (h:∀ j u,(a0 :: a1 :: a2 :: r)[j]? = some u→w.cell? ⟨b,o+j,none⟩=some u):w.cell? ⟨b,o,none⟩=some a0∧w.cell? ⟨b,o+1,none⟩=some a1∧w.cell? ⟨b,o+2,none⟩=some a2:=⟨h 0 _ rfl,h 1 _ rfl,h 2 _ rfl⟩
theorem rc5 {b o:Nat} (h:∀ j u,(a0 :: a1 :: a2 :: a3 :: a4 :: r)[j]? = some u→w.cell? ⟨b,o+j,none⟩=some u):w.cell? ⟨b,o,none⟩=some a0∧w.cell? ⟨b,o+1,none⟩=some a1∧w.cell? ⟨b,o+2,none⟩=some a2∧w.cell? ⟨b,o+3,none⟩=some a3∧w.cell? ⟨b,o+4,none⟩=some a4:=⟨h 0 _ rfl,h 1 _ rfl,h 2 _ rfl,h 3 _ rfl,h 4 _ rfl⟩
theorem rc14 {b o:Nat} (h:∀ j u,(a0 :: a1 :: a2 :: a3 :: a4 :: a5 :: a6 :: a7 :: a8 :: a9 :: b0 :: b1 :: b2 :: b3 :: r)[j]? = some u→w.cell? ⟨b,o+j,none⟩=some u):w.cell? ⟨b,o,none⟩=some a0∧w.cell? ⟨b,o+1,none⟩=some a1∧w.cell? ⟨b,o+2,none⟩=some a2∧w.cell? ⟨b,o+3,none⟩=some a3∧w.cell? ⟨b,o+4,none⟩=some a4∧w.cell? ⟨b,o+5,none⟩=some a5∧w.cell? ⟨b,o+6,none⟩=some a6∧w.cell? ⟨b,o+7,none⟩=some a7 ∧
 w.cell? ⟨b,o+8,none⟩=some a8∧w.cell? ⟨b,o+9,none⟩=some a9∧w.cell? ⟨b,o+10,none⟩=some b0∧w.cell? ⟨b,o+11,none⟩=some b1∧w.cell? ⟨b,o+12,none⟩=some b2∧w.cell? ⟨b,o+13,none⟩=some b3:=⟨h 0 _ rfl,h 1 _ rfl,h 2 _ rfl,h 3 _ rfl,h 4 _ rfl,h 5 _ rfl,h 6 _ rfl,h 7 _ rfl,h 8 _ rfl,h 9 _ rfl,h 10 _ rfl,h 11 _ rfl,h 12 _ rfl,h 13 _ rfl⟩
end
abbrev cI:Array Value:=#[.int .i64 0,.int .i64 0,.slice none 0 0,.slice none 0 0,.slice none 0 0,.slice none 0 0,.slice none 0 0,.slice none 0 0]
abbrev rB:Array Value:=#[.int .i64 0,.slice none 0 0,.slice none 0 0,.slice none 0 0]
end Go.Proofs.YtoeejfhdjmkpcaaGreatDoor
/- What the checks of rows say: plain. -/
namespace Go.Proofs.YtoeejfhdjmkpcaaGreatDoor
open Go.Lib (hid)
open Go.Lib (validD)
def iT (s:ByteArray):Bool:=decide (s.size≤16) && validD s.data.toList
def bR (s:ByteArray):Bool:=decide (s.size≠0) && iT s
def ranged (n lo hi:Int):Bool:=decide (lo≤n) && decide (n≤hi)
structure aA where
 name:ByteArray
 prio:Int
 need:Int
 tries:Int
 tag:ByteArray
structure av where
 name:ByteArray
 room:Int
 zone:ByteArray
structure ah where
 job:ByteArray
 node:ByteArray
 till:Int
def aJ (j:aA):List Value:=[.string j.name,.int .i64 j.prio,.int .i64 j.need,.int .i64 j.tries,.string j.tag]
def aB (n:av):List Value:=[.string n.name,.int .i64 n.room,.string n.zone]
def ay (l:ah):List Value:=[.string l.job,.string l.node,.int .i64 l.till]
def fE (j:aA):Int:=if bR j.name && iT j.tag then (if ranged j.prio (-1000) 1000 && ranged j.need 0 1000000 && ranged j.tries 0 100 then 0 else 1) else 4
def eH (n:av):Int:=if bR n.name && iT n.zone then (if ranged n.room 0 1000000 then 0 else 1) else 4
theorem wV {s:ByteArray} (h:s.size=0):s=⟨#[]⟩:=ByteArray.ext (Array.eq_empty_of_size_eq_zero h)
theorem sC {s:ByteArray} (h:s.size≠0):(s.toList == [])=false:=by
 rw [beq_eq_false_iff_ne,ByteArray.toList_eq]
 intro e
 have:=congrArg List.length e
 rw [Array.length_toList] at this
 exact h this
theorem uj {s:ByteArray} (h:s.size≠0):(s.toList == ByteArray.toList ⟨#[]⟩)=false:=by
 rw [show ByteArray.toList ⟨#[]⟩=[] from by rw [ByteArray.toList_eq]]; exact sC h
theorem AH {s:ByteArray} (h:s.size=0):bR s=false:=by unfold bR; rw [decide_eq_false (by omega)]; rfl
theorem B9 {s:ByteArray} (h:s.size≠0):bR s=iT s:=by unfold bR; rw [decide_eq_true h]; rfl
theorem rT {s:ByteArray} (h:¬ s.size≤16):iT s=false:=by unfold iT; rw [decide_eq_false h]; rfl
theorem Ca {s:ByteArray} (h:s.size≤16):iT s=validD s.data.toList:=by unfold iT; rw [decide_eq_true h]; rfl
theorem aZ {n lo hi:Int}:ranged n lo hi=true↔lo≤n∧n≤hi:=by unfold ranged; simp
theorem iw {n lo hi:Int}:ranged n lo hi=false↔n<lo∨hi<n:=by
 rw [← Bool.not_eq_true,aZ]; omega
end Go.Proofs.YtoeejfhdjmkpcaaGreatDoor
/- Rows of a table, each as it should be and in order: plain. -/
namespace Go.Proofs.YtoeejfhdjmkpcaaGreatDoor
open Go.Lib (hid)
open Go.Op (bytesLess)
theorem dY:∀ a b:List UInt8,(!bytesLess a b)=(bytesLess b a || b == a)
 | [],[]=>by simp [bytesLess]
 | [],_ :: _=>by simp [bytesLess]
 | _ :: _,[]=>by simp [bytesLess]
 | x :: a,y :: b=>by
  have ih:=dY a b
  simp only [bytesLess]
  by_cases h1:x<y
  · have h2:¬ y<x:=fun h=>absurd (UInt8.lt_trans h1 h) (UInt8.lt_irrefl _)
    have h3:¬ y=x:=fun h=>by subst h; exact absurd h1 (UInt8.lt_irrefl _)
    simp [h1,h2,h3]
  · by_cases h2:y<x
    · have h3:¬ x=y:=fun h=>by subst h; exact absurd h2 (UInt8.lt_irrefl _)
      simp [h1,h2,h3]
    · have h3:x=y:=UInt8.le_antisymm (UInt8.not_lt.1 h2) (UInt8.not_lt.1 h1)
      subst h3
      simpa [h1] using ih
section
variable {α:Type} (E:α→Int) (key:α→ByteArray)
def before (p:Option ByteArray) (s:ByteArray):Bool:=match p with
 | none=>true
 | some q=>bytesLess q.toList s.toList
def dS:Option ByteArray→List α→Int
 | _,[]=>0
 | p,x :: l=>if E x=0 then (if before p (key x)=true then dS (some (key x)) l else 8) else E x
def bZ (l:List α):Int:=dS E key none l
def prevK (l:List α) (k:Nat):Option ByteArray:=if k=0 then none else l[k - 1]?.map key
variable {E key} {l:List α} {k:Nat} {x:α}
theorem drop_cons (h:l[k]? = some x):l.drop k=x :: l.drop (k+1):=by
 obtain⟨hlt,rfl⟩:=List.getElem?_eq_some_iff.1 h
 exact List.drop_eq_getElem_cons hlt
theorem tS (h:l[k]? = some x) (he:E x≠0):dS E key (prevK key l k) (l.drop k)=E x:=by
 rw [drop_cons h,dS,if_neg he]
theorem oz {y:α} (h:l[k]? = some x) (he:E x=0) (hk:k≠0) (hy:l[k - 1]? = some y) (hl:bytesLess (key y).toList (key x).toList=false):dS E key (prevK key l k) (l.drop k)=8:=by
 rw [drop_cons h,dS,if_pos he,if_neg]
 unfold prevK before
 rw [if_neg hk,hy]
 simp [hl]
theorem jG (h:l[k]? = some x) (he:E x=0) (hb:k=0∨∃ y,l[k - 1]? = some y∧bytesLess (key y).toList (key x).toList=true) :
 dS E key (prevK key l k) (l.drop k)=dS E key (prevK key l (k+1)) (l.drop (k+1)):=by
 have e1:prevK key l (k+1)=some (key x):=by unfold prevK; rw [if_neg (by omega),Nat.add_sub_cancel,h]; rfl
 rw [drop_cons h,dS,if_pos he,e1,if_pos]
 unfold prevK before
 rcases hb with rfl | ⟨y,hy,hl⟩
 · rfl
 · by_cases hk:k=0
   · rw [if_pos hk]
   · rw [if_neg hk,hy]; exact hl
theorem tT (h:l.length≤k) (p:Option ByteArray):dS E key p (l.drop k)=0:=by
 rw [List.drop_of_length_le h]; rfl
end
theorem aP (j:aA):(aJ j).length=5:=rfl
theorem aL (n:av):(aB n).length=3:=rfl
theorem aH (l:ah):(ay l).length=3:=rfl
end Go.Proofs.YtoeejfhdjmkpcaaGreatDoor
/- What the check of a state says: plain. -/
namespace Go.Proofs.YtoeejfhdjmkpcaaGreatDoor
open Go.Lib (hid)
open Go.Op (bytesLess)
structure ak where
 rev:Int
 jobs:List aA
 nodes:List av
 leases:List ah
def dA (l:List aA) (s:ByteArray):Option aA:=l.find? fun j=>decide (j.name=s)
def dh (l:List av) (s:ByteArray):Option av:=l.find? fun n=>decide (n.name=s)
def fN (st:ak) (l:ah):Int:=if (dA st.jobs l.job).isSome && (dh st.nodes l.node).isSome then (if ranged l.till 0 1099511627776 then 0 else 1) else 6
def gH (st:ak) (l:ah) (s:ByteArray):Int:=if l.node=s then (match dA st.jobs l.job with | some j=>j.need | none=>0) else 0
def gu (st:ak) (s:ByteArray):List ah→Int
 | []=>0
 | l :: r=>gH st l s+gu st s r
def tQ (st:ak) (s:ByteArray):Int:=gu st s st.leases
def dP (st:ak):Bool:=decide (st.jobs.length≤40) && decide (st.leases.length≤40) && decide (st.nodes.length≤20)
def ni (st:ak):Bool:=st.nodes.all fun n=>decide (tQ st n.name≤n.room)
def aG (st:ak):Int:=
 if ranged st.rev 0 1099511627776=false then 1
 else if dP st=false then 2
 else if bZ fE aA.name st.jobs≠0 then bZ fE aA.name st.jobs
 else if bZ eH av.name st.nodes≠0 then bZ eH av.name st.nodes
 else if bZ (fN st) ah.job st.leases≠0 then bZ (fN st) ah.job st.leases
 else if ni st=true then 0 else 9
theorem kG:∀ a:List UInt8,bytesLess a a=false
 | []=>rfl
 | a :: r=>by simp [bytesLess,kG r]
theorem nX:∀ a b c:List UInt8,bytesLess a b=true→bytesLess b c=true→bytesLess a c=true
 | _,[],_,h,_=>by simp [bytesLess] at h
 | _,_ :: _,[],_,h=>by simp [bytesLess] at h
 | [],_ :: _,_ :: _,_,_=>rfl
 | a :: x,b :: y,c :: z,h1,h2=>by
  simp only [bytesLess,Bool.or_eq_true,decide_eq_true_eq,Bool.and_eq_true,beq_iff_eq] at h1 h2 ⊢
  rcases h1 with h1 | ⟨rfl,h1⟩
  · rcases h2 with h2 | ⟨rfl,h2⟩
    · exact .inl (UInt8.lt_trans h1 h2)
    · exact .inl h1
  · rcases h2 with h2 | ⟨rfl,h2⟩
    · exact .inl h2
    · exact .inr ⟨rfl,nX x y z h1 h2⟩
section
variable {α:Type} {E:α→Int} {key:α→ByteArray}
theorem iG:∀ (p:Option ByteArray) (l:List α),dS E key p l=0→(∀ x ∈ l,E x=0∧before p (key x)=true)∧l.Pairwise (fun a b=>bytesLess (key a).toList (key b).toList=true)
 | _,[],_=>⟨by simp,List.Pairwise.nil⟩
 | p,x :: l,h=>by
  unfold dS at h
  by_cases h1:E x=0
  · rw [if_pos h1] at h
    by_cases h2:before p (key x)=true
    · rw [if_pos h2] at h
      obtain⟨i1,i2⟩:=iG (some (key x)) l h
      refine⟨fun y hy=>?_,List.pairwise_cons.2 ⟨fun y hy=>(i1 y hy).2,i2⟩⟩
      rcases List.mem_cons.1 hy with rfl | hy
      · exact⟨h1,h2⟩
      · refine⟨(i1 y hy).1,?_⟩
        have h3:=(i1 y hy).2
        unfold before at h2 h3 ⊢
        cases p with
        | none=>rfl
        | some q=>exact nX _ _ _ h2 h3
    · rw [if_neg h2] at h; omega
  · rw [if_neg h1] at h; exact absurd h h1
theorem eQ {l:List α} (h:bZ E key l=0) {x:α} (hx:x ∈ l):E x=0:=((iG none l h).1 x hx).1
theorem yj {l:List α} (h:bZ E key l=0):l.Pairwise (fun a b=>key a≠key b):=
 (iG none l h).2.imp fun {a b} hlt e=>by rw [e,kG] at hlt; cases hlt
end
theorem FR {j:aA} (h:fE j=0):0≤j.need∧j.need≤1000000:=by
 unfold fE at h
 split at h
 · split at h
   · rename_i h2
     simp only [Bool.and_eq_true] at h2
     exact aZ.1 h2.1.2
   · omega
 · omega
theorem qD {α:Type} (key:α→ByteArray) {l:List α} (hp:l.Pairwise (fun a b=>key a≠key b)) {k:Nat} {x:α} (hx:l[k]? = some x) (s:ByteArray) :
 (l.take (k+1)).find? (fun a=>decide (key a=s))=if s=key x then some x else (l.take k).find? (fun a=>decide (key a=s)):=by
 have e:l.take (k+1)=l.take k ++ [x]:=by
  obtain⟨hlt,rfl⟩:=List.getElem?_eq_some_iff.1 hx
  exact (List.take_append_getElem hlt).symm
 rw [e,List.find?_append]
 by_cases hs:s=key x
 · rw [if_pos hs]
   have hnone:(l.take k).find? (fun a=>decide (key a=s))=none:=by
    rw [List.find?_eq_none]
    intro a ha hd
    have hk:key a=s:=by simpa using hd
    obtain⟨hlt,rfl⟩:=List.getElem?_eq_some_iff.1 hx
    obtain⟨i,hi,rfl⟩:=List.mem_iff_getElem.1 ha
    rw [List.length_take] at hi
    rw [List.getElem_take] at hk
    exact List.pairwise_iff_getElem.1 hp i k (by omega) hlt (by omega) (hk.trans hs)
   rw [hnone]
   simp [hs]
 · rw [if_neg hs]
   have:[x].find? (fun a=>decide (key a=s))=none:=by simpa using fun e=>hs (Eq.symm e)
   rw [this]
   simp
theorem tU (st:ak) (s:ByteArray):∀ a b:List ah,gu st s (a ++ b)=gu st s a+gu st s b
 | [],b=>by simp [gu]
 | x :: a,b=>by
  have ih:=tU st s a b
  simp only [List.cons_append,gu,ih]; omega
theorem DF (st:ak) (s:ByteArray) {l:List ah} {k:Nat} {x:ah} (h:l[k]? = some x):gu st s (l.take (k+1))=gu st s (l.take k)+gH st x s:=by
 have e:l.take (k+1)=l.take k ++ [x]:=by
  obtain⟨hlt,rfl⟩:=List.getElem?_eq_some_iff.1 h
  exact (List.take_append_getElem hlt).symm
 rw [e,tU]; simp [gu]
def tO (st:ak):Prop:=∀ j ∈ st.jobs,0≤j.need∧j.need≤1000000
theorem tP {st:ak} (h:tO st) (x:ah) (s:ByteArray):0≤gH st x s∧gH st x s≤1000000:=by
 unfold gH
 split
 · cases hx:dA st.jobs x.job with
   | none=>simp
   | some j=>exact h j (List.mem_of_find?_eq_some hx)
 · omega
theorem vV {st:ak} (h:tO st) (s:ByteArray):∀ l:List ah,0≤gu st s l∧gu st s l≤(l.length:Int)*1000000
 | []=>by simp [gu]
 | x :: l=>by
  have h1:=tP h x s
  have h2:=vV h s l
  simp only [gu,List.length_cons]
  omega
theorem B6 {st:ak} (h:bZ fE aA.name st.jobs=0):tO st:=fun _ hj=>FR (eQ h hj)
end Go.Proofs.YtoeejfhdjmkpcaaGreatDoor
/- The walks of Zig and Zag, in the program and in the reference. -/
namespace Go.Proofs.YtoeejfhdjmkpcaaGreatDoor
open Go.Lib (hid)
open Go.RowKit
theorem Kv (n:Int) (h : -9223372036854775808≤n) (h':n≤9223372036854775807) (w:World) :
 Calls Tryz.prog 261 #[.int .i64 n] w fun e w'=>e = .returned (.int .u64 (oN n))∧w=w':=by
 have hx:=hid (Kw n h h')
 go_enter Tryz.func261,Tryz.ntmps261
 go_wp2
 go_ret
 exact⟨bA hx.out,rfl⟩
theorem Kx (n:Int) (h:0≤n) (h':n<18446744073709551616) (w:World) :
 Calls Tryz.prog 263 #[.int .u64 n] w fun e w'=>e = .returned (.int .i64 (rO n))∧w=w':=by
 have hx:=hid (Ky n h h')
 go_enter Tryz.func263,Tryz.ntmps263
 go_wp2
 go_ret
 exact⟨bA hx.out,rfl⟩
end Go.Proofs.YtoeejfhdjmkpcaaGreatDoor
/- Maps keyed by texts that the call itself has made: what they hold, as a function. -/
namespace Go.Proofs.YtoeejfhdjmkpcaaGreatDoor
open Go.Lib (hid)
open Go.RowKit Go.Maps
def jH:Value→Option (DataW Value × List MemPlace):=fun v=>some (.held v,[])
def bX (w:World) (b n:Nat) (g:ByteArray→Option Value):Prop:=
 ∃ D:DataW Value,w.ownsMap Tryz.prog 9 jH b n D∧∀ (s:ByteArray) (z:DataW Value),D.atKey (.string s.data.toList) z=match g s with
  | none=>z
  | some v=>.held v
theorem yR:Keyed Tryz.prog 9:=string_keyed Tryz.underlying9
section
variable {w w':World} {b n:Nat} {g:ByteArray→Option Value}
theorem bX.made (w:World):bX (w.alloc (.map #[] 0)) w.heap.size 0 (fun _=>none):=⟨.map [],World.ownsMap_made w _ _ _,fun _ _=>rfl⟩
theorem bX.lt (h:bX w b n g):b<w.heap.size:=h.choose_spec.1.lt
theorem bX.same (h:bX w b n g) (e:w'.heap[b]? = w.heap[b]?):bX w' b n g:=by
 obtain⟨D,⟨es,clock,hb,r⟩,hD⟩:=h
 exact⟨D,⟨es,clock,e.trans hb,r⟩,hD⟩
theorem bX.below {B:Nat} (h:bX w b n g) (hb:Below B w w') (hB:b<B):bX w' b n g:=h.same (hb.block b hB)
theorem bX.but {c:Nat} (h:bX w b n g) (hg:w.grownBy w' (some c)) (hne:b≠c):bX w' b n g:=h.same (hg.block b h.lt (by simp [hne]))
theorem bX.congr {g':ByteArray→Option Value} (h:bX w b n g) (e:∀ s,g s=g' s):bX w b n g':=by
 obtain⟨D,ho,hD⟩:=h
 exact⟨D,ho,fun s z=>by rw [hD,e]⟩
theorem bX.mono {m:Nat} (h:bX w b n g) (hm:n≤m):bX w b m g:=by
 obtain⟨D,ho,hD⟩:=h
 exact⟨D,ho.mono hm,hD⟩
theorem data_inj {s t:ByteArray} (h:(Lit.string s.data.toList) = .string t.data.toList):s=t:=by
 injection h with h
 exact ByteArray.ext (Array.toList_inj.1 h)
theorem bX.put {t e:TypeId} (h:bX w b n g) (ht : Tryz.prog.underlying t=some (.map 9 e)) (hn:n<maxLen) (s:ByteArray) (hs:s.size≤maxLen) (v:Value) :
 ∃ w',(Instr.mapUpdate t (.map (some b)) (.string s) v).run Tryz.prog w = .ok () w'∧bX w' b (n+1) (fun x=>if x=s then some v else g x)∧w.grownBy w' (some b):=by
 obtain⟨D,ho,hD⟩:=h
 obtain⟨w',hr,ho',hg⟩:=ho.update yR ht hn (Go.WideMaps.keyOf_string_mk Tryz.underlying9 hs) (val:=v) (d:=.held v) (ps:=[]) rfl
 refine⟨w',hr,⟨_,ho',fun x z=>?_⟩,hg⟩
 by_cases hx:x=s
 · subst hx
   rw [atKey_put_same ho.isMap (by simp [WideAt.IsKeyLit])]
   simp
 · rw [atKey_put_other (fun e=>hx (data_inj e)),hD x z]
   simp [hx]
theorem bX.look {t e:TypeId} (h:bX w b n g) (ht : Tryz.prog.underlying t=some (.map 9 e)) {z:Value} (hz:(zeroValue e).run Tryz.prog w = .ok z w) (s:ByteArray) (hs:s.size≤maxLen) :
 (Instr.lookup t (.map (some b)) (.string s) false).run Tryz.prog w = .ok ((g s).getD z) w:=by
 obtain⟨D,ho,hD⟩:=h
 obtain⟨v,ps,hr,hv⟩:=ho.lookup yR ht hz (zd:=.held z) (zp:=[]) rfl (Go.WideMaps.keyOf_string_mk Tryz.underlying9 hs)
 rw [hD] at hv
 have hv1:(DataW.held v:DataW Value)=match g s with | none=>.held z | some v=>.held v:=by
  have:=congrArg (fun o=>o.map Prod.fst) hv
  simpa [jH] using this
 have e:v=(g s).getD z:=by
  cases hg:g s with
  | none=>rw [hg] at hv1; injection hv1
  | some u=>rw [hg] at hv1; injection hv1
 rw [hr,e]
theorem bX.look_ok {t e:TypeId} (h:bX w b n g) (ht : Tryz.prog.underlying t=some (.map 9 e)) {z:Value} (hz:(zeroValue e).run Tryz.prog w = .ok z w) (s:ByteArray) (hs:s.size≤maxLen) :
 (Instr.lookup t (.map (some b)) (.string s) true).run Tryz.prog w = .ok (.tuple #[(g s).getD z,.bool (g s).isSome]) w:=by
 obtain⟨D,ho,hD⟩:=h
 obtain⟨v,ps,hr,hv⟩:=ho.look_ok yR ht hz (zd:=.held z) (zp:=[]) rfl (Go.WideMaps.keyOf_string_mk Tryz.underlying9 hs)
 rw [hD] at hv
 have hv1:(DataW.held v:DataW Value)=match g s with | none=>.held z | some v=>.held v:=by
  have:=congrArg (fun o=>o.map Prod.fst) hv
  simpa [jH] using this
 cases hg:g s with
 | none=>
  rw [hg] at hv1
  have e:v=z:=by injection hv1
  have hh:Maps.has D (.string s.data.toList)=false:=Maps.has_false_of_atKey (fun x=>by rw [hD,hg])
  rw [hr,e,hh]; rfl
 | some u=>
  rw [hg] at hv1
  have e:v=u:=by injection hv1
  have hh:Maps.has D (.string s.data.toList)=true:=Maps.has_true_of_atKey (y:=.held u) (fun x=>by rw [hD,hg])
  rw [hr,e,hh]; rfl
end
end Go.Proofs.YtoeejfhdjmkpcaaGreatDoor
/- What the loops over rows hold. -/
namespace Go.Proofs.YtoeejfhdjmkpcaaGreatDoor
open Go.Lib (hid)
open Go.RowKit
def mU (xs:List aA):Prop:=∀ x ∈ xs,x.name.size≤9223372036854775807∧x.tag.size≤9223372036854775807
def Me (xs:List aA) (n:Nat) (R:Int) (w:World) (i:Value) (wr:World):Prop:=∃ k:Nat,k≤n∧i = .int .i64 k∧dS fE aA.name (prevK aA.name xs k) (xs.drop k)=R∧Below w.heap.size w wr
def lB (xs:List av):Prop:=∀ x ∈ xs,x.name.size≤9223372036854775807∧x.zone.size≤9223372036854775807
def Kz (xs:List av) (n:Nat) (R:Int) (w:World) (i:Value) (wr:World):Prop:=∃ k:Nat,k≤n∧i = .int .i64 k∧dS eH av.name (prevK av.name xs k) (xs.drop k)=R∧Below w.heap.size w wr
end Go.Proofs.YtoeejfhdjmkpcaaGreatDoor
/- The sum of bytes: plain. -/
namespace Go.Proofs.YtoeejfhdjmkpcaaGreatDoor
open Go.Lib (hid)
def AI (x:Nat):Nat:=(x / 2) ^^^ (x % 2*3988292384)
def nk:Nat→Nat→Nat
 | 0,x=>x
 | n+1,x=>AI (nk n x)
theorem KA {x:Nat} (h:x<4294967296):AI x<4294967296:=by
 unfold AI
 exact Nat.xor_lt_two_pow (n:=32) (by omega) (by have:x % 2<2:=Nat.mod_lt _ (by omega); omega)
theorem wT {x:Nat} (h:x<4294967296):∀ n,nk n x<4294967296
 | 0=>h
 | n+1=>KA (wT h n)
theorem IQ (a b:Nat):(a ^^^ b) / 2=(a / 2) ^^^ (b / 2):=by
 have:=Nat.shiftRight_xor_distrib (a:=a) (b:=b) (i:=1)
 simpa [Nat.shiftRight_eq_div_pow] using this
theorem IR (a b:Nat):(a ^^^ b) % 2=(a % 2) ^^^ (b % 2):=by
 have:=Nat.xor_mod_two_pow (a:=a) (b:=b) (n:=1)
 simpa using this
theorem IS (a b:Nat):AI (a ^^^ b)=AI a ^^^ AI b:=by
 unfold AI
 rw [IQ,IR]
 have ha:a % 2=0∨a % 2=1:=by omega
 have hb:b % 2=0∨b % 2=1:=by omega
 rcases ha with ha | ha <;> rcases hb with hb | hb <;> rw [ha,hb]
 · simp
 · simp [Nat.xor_assoc]
 · simp only [Nat.zero_xor,Nat.xor_zero,Nat.one_mul,Nat.zero_mul]
   rw [Nat.xor_assoc,Nat.xor_assoc,Nat.xor_comm (b / 2)]
 · simp only [Nat.xor_self,Nat.one_mul,Nat.zero_mul,Nat.xor_zero]
   rw [show a / 2 ^^^ 3988292384 ^^^ (b / 2 ^^^ 3988292384)=a / 2 ^^^ b / 2 ^^^ (3988292384 ^^^ 3988292384) from by ac_rfl]
   simp
theorem Cb (a b:Nat):∀ n,nk n (a ^^^ b)=nk n a ^^^ nk n b
 | 0=>rfl
 | n+1=>by rw [nk,Cb a b n,IS]; rfl
theorem zQ:∀ n h,nk n (2 ^ n*h)=h
 | 0,h=>by simp [nk]
 | n+1,h=>by
  have e:2 ^ (n+1)*h=2 ^ n*(2*h):=by rw [Nat.pow_succ,Nat.mul_assoc]
  rw [nk,e,zQ n (2*h)]
  unfold AI
  simp
theorem FS (y:Nat):nk 8 y=(y / 256) ^^^ nk 8 (y % 256):=by
 have e:y=(256*(y / 256)) ^^^ (y % 256):=by
  have h:=Nat.two_pow_add_eq_or_of_lt (i:=8) (b:=y % 256) (by omega) (y / 256)
  have h2:2 ^ 8*(y / 256) &&& y % 256=0:=by
   apply Nat.eq_of_testBit_eq
   intro i
   rw [Nat.testBit_and,Nat.zero_testBit,Nat.testBit_two_pow_mul]
   by_cases hi:8≤i
   · have:(y % 256).testBit i=false:=Nat.testBit_lt_two_pow (Nat.lt_of_lt_of_le (show y % 256<2 ^ 8 by omega) (Nat.pow_le_pow_right (by omega) hi))
     simp [this]
   · simp [hi]
  have h3:(256*(y / 256)) ^^^ (y % 256)=256*(y / 256) ||| y % 256:=by
   apply Nat.eq_of_testBit_eq
   intro i
   have h4:=congrArg (fun z=>z.testBit i) h2
   simp only [Nat.testBit_and,Nat.zero_testBit] at h4
   rw [Nat.testBit_xor,Nat.testBit_or]
   have h5:(256*(y / 256))=2 ^ 8*(y / 256):=rfl
   rw [h5]
   revert h4
   cases (2 ^ 8*(y / 256)).testBit i <;> cases (y % 256).testBit i <;> simp
  rw [h3]
  have h5:(256*(y / 256))=2 ^ 8*(y / 256):=rfl
  rw [h5,← h]
  omega
 have h1:nk 8 (256*(y / 256))=y / 256:=zQ 8 (y / 256)
 conv=>lhs; rw [e,Cb,h1]
def IT (x c:Nat):Nat:=(x / 256) ^^^ nk 8 ((x % 256) ^^^ c)
theorem KB {x c:Nat} (hc:c<256):IT x c=nk 8 (x ^^^ c):=by
 rw [FS (x ^^^ c)]
 have e1:(x ^^^ c) / 256=x / 256:=by
  have:=Nat.shiftRight_xor_distrib (a:=x) (b:=c) (i:=8)
  simp only [Nat.shiftRight_eq_div_pow] at this
  rw [show (256:Nat)=2 ^ 8 from rfl,this,show c / 2 ^ 8=0 from by omega,Nat.xor_zero]
 have e2:(x ^^^ c) % 256=(x % 256) ^^^ c:=by
  have:=Nat.xor_mod_two_pow (a:=x) (b:=c) (n:=8)
  rw [show (256:Nat)=2 ^ 8 from rfl,this,show c % 2 ^ 8=c from by omega]
 rw [e1,e2]; rfl
theorem KC {x c:Nat} (hx:x<4294967296) (hc:c<256):IT x c<4294967296:=by
 rw [KB hc]
 exact wT (Nat.xor_lt_two_pow (n:=32) hx (by omega)) 8
def Cc (l:List UInt8):Nat:=l.foldl (fun x c=>IT x c.toNat) 4294967295
theorem KE (l:List UInt8):Cc l<4294967296:=by
 unfold Cc
 have:∀ (l:List UInt8) (x:Nat),x<4294967296→l.foldl (fun x c=>IT x c.toNat) x<4294967296:=by
  intro l
  induction l with
  | nil=>intro x h; exact h
  | cons c l ih=>intro x h; exact ih _ (KC h c.toNat_lt)
 exact this l _ (by omega)
def jO (l:List UInt8):Nat:=4294967295 - Cc l
theorem yZ (x:Nat) (hx:x<4294967296):bits .xor .u32 ((x:Int) / 2) (bits .and .u32 (x:Int) 1*3988292384)=((AI x:Nat):Int)∧0≤bits .and .u32 (x:Int) 1∧bits .and .u32 (x:Int) 1≤1:=by
 have e1:bits .and .u32 (x:Int) 1=((x % 2:Nat):Int):=by
  rw [show (1:Int)=((1:Nat):Int) from rfl,u32_and_nat x 1 hx (by omega),nat_mask1]
 rw [e1]
 refine⟨?_,by omega,by omega⟩
 have e2:((x % 2:Nat):Int)*3988292384=((x % 2*3988292384:Nat):Int):=by rw [Int.natCast_mul]; rfl
 have e3:(x:Int) / 2=((x / 2:Nat):Int):=by omega
 rw [e2,e3,u32_xor_nat _ _ (by omega) (by have:x % 2<2:=Nat.mod_lt _ (by omega); omega)]
 rfl
theorem KF (x c:Nat) (hc:c<256):bits .xor .u8 ((x:Int) % 256) (c:Int)=(((x % 256) ^^^ c:Nat):Int)∧(x % 256) ^^^ c<256:=by
 have e:(x:Int) % 256=((x % 256:Nat):Int):=by omega
 rw [e,u8_xor_nat _ _ (by omega) hc]
 exact⟨rfl,Nat.xor_lt_two_pow (n:=8) (by omega) (by omega)⟩
theorem AJ (x y:Nat) (hx:x<4294967296) (hy:y<256):bits .xor .u32 ((x:Int) / 256) ((nk 8 y:Nat):Int)=((x / 256 ^^^ nk 8 y:Nat):Int):=by
 have e:(x:Int) / 256=((x / 256:Nat):Int):=by omega
 rw [e,u32_xor_nat _ _ (by omega) (wT (by omega) 8)]
theorem FT (l:List UInt8) (c:UInt8):Cc (l ++ [c])=IT (Cc l) c.toNat:=by simp [Cc]
theorem yt (a:Nat) (h:a<4294967296):a ^^^ 4294967295=4294967295 - a:=by
 have e:BitVec.ofNat 32 a ^^^ BitVec.allOnes 32 = ~~~ BitVec.ofNat 32 a:=BitVec.xor_allOnes
 have e2:=congrArg BitVec.toNat e
 simp only [BitVec.toNat_xor,BitVec.toNat_not,BitVec.toNat_ofNat,BitVec.toNat_allOnes] at e2
 rw [Nat.mod_eq_of_lt (by omega)] at e2
 simpa using e2
theorem KG (x:Nat) (hx:x<4294967296):bits .xor .u32 IntKind.u32.max (x:Int)=((4294967295 - x:Nat):Int):=by
 have e:IntKind.u32.max=((4294967295:Nat):Int):=rfl
 rw [e,u32_xor_nat _ _ (by omega) hx,Nat.xor_comm,yt x hx]
end Go.Proofs.YtoeejfhdjmkpcaaGreatDoor
