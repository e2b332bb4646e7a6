/- Of the proof of a statement: Tabs, Blk, PlRead, PlRdF, PlTextR, PlChk, PlRows, PlSt, Zig, RowsDef. -/
import Derived.Shelf.Unicode.ValidAny
import Derived.Lib.LaidU8T
import Derived.Laws.Bits64b
import Derived.Lib.ValidLaws
import Derived.Test.YtoeejfhdjmkpcaaGreatDoorRows
import Derived.Test.YtoeejfhdjmkpcaaGreatDoorTPush
set_option linter.unusedVariables false
set_option linter.unusedSimpArgs false
set_option maxRecDepth 100000
set_option maxHeartbeats 8000000
/- The contract of utf8.ValidString, laid at this program: numbers only. -/
namespace Go.Proofs.YtoeejfhdjmkpcaaGreatDoor
open Go.Lib (hid)
open Go.RowKit Go.Shelf Go.Lib
def ren:Ren:={
 f:=fun x=>match x with
  | 196=>262
  | 259=>352
  | n=>n
 t:=fun x=>match x with
  | 0=>0
  | 3=>3
  | 4=>4
  | 5=>5
  | 9=>9
  | 12=>12
  | 46=>243
  | 53=>121
  | 119=>411
  | 138=>413
  | 139=>414
  | n=>n
 g:=fun x=>match x with
  | 3=>0
  | 4=>1
  | n=>n }
theorem G5:Lays.n196 Tryz.prog ren:={
 mixed:=by kernel_rfl
 f196:=Tryz.func262.trans (congrArg some (by kernel_rfl))
 f259:=Tryz.func352.trans (congrArg some (by kernel_rfl))
 t0:=Tryz.underlying0
 a0:=Tryz.isAgg0
 z0:=Tryz.sizeOf0
 v0:=Tryz.zeroValue0
 t3:=Tryz.underlying3
 a3:=Tryz.isAgg3
 z3:=Tryz.sizeOf3
 v3:=Tryz.zeroValue3
 t4:=Tryz.underlying4
 a4:=Tryz.isAgg4
 z4:=Tryz.sizeOf4
 v4:=Tryz.zeroValue4
 t5:=Tryz.underlying5
 a5:=Tryz.isAgg5
 z5:=Tryz.sizeOf5
 v5:=Tryz.zeroValue5
 t9:=Tryz.underlying9
 a9:=Tryz.isAgg9
 z9:=Tryz.sizeOf9
 v9:=Tryz.zeroValue9
 t12:=Tryz.underlying12
 a12:=Tryz.isAgg12
 z12:=Tryz.sizeOf12
 v12:=Tryz.zeroValue12
 t46:=Tryz.underlying243
 a46:=Tryz.isAgg243
 z46:=Tryz.sizeOf243
 v46:=Tryz.zeroValue243
 t53:=Tryz.underlying121
 a53:=Tryz.isAgg121
 z53:=Tryz.sizeOf121
 v53:=Tryz.zeroValue121
 t119:=Tryz.underlying411
 a119:=Tryz.isAgg411
 z119:=Tryz.sizeOf411
 t138:=Tryz.underlying413
 a138:=Tryz.isAgg413
 z138:=Tryz.sizeOf413
 v138:=Tryz.zeroValue413
 t139:=Tryz.underlying414
 a139:=Tryz.isAgg414
 z139:=Tryz.sizeOf414
 v139:=Tryz.zeroValue414
 g3:=by kernel_rfl
 g4:=by kernel_rfl }
def Tabs (w:World):Prop:=Utf8Tabs (ren.g 3) (ren.g 4) w
theorem Tabs.below {w w':World} (h:Tabs w) (hb:Below w.heap.size w w'):Tabs w':=Utf8Tabs_below h hb
theorem Gf {w : World} {l : List (String × DataW Unit)} (hL : laidMet Tryz.prog l w) (h1 : ("unicode/utf8.first", firstData) ∈ l) (h2 : ("unicode/utf8.acceptRanges", acceptData) ∈ l) : Tabs w :=
 utf8Tabs_of_readsT (U8Types.of196 G5) ⟨by kernel_rfl,by kernel_rfl,by kernel_rfl,by kernel_rfl,by kernel_rfl,by kernel_rfl,by kernel_rfl⟩ (laidMet.reads hL h1) (laidMet.reads hL h2)
theorem qQ (s:ByteArray) (w:World) (hs:s.size≤9223372036854775807) (hT:Tabs w) :
 Calls Tryz.prog 262 #[.string s] w fun e w'=>e = .returned (.bool (validD s.data.toList))∧Below w.heap.size w w':=
 Any.utf8_ValidString G5 s w hs hT
end Go.Proofs.YtoeejfhdjmkpcaaGreatDoor
/- Blocks that are known whole; worlds that keep all blocks but one. -/
namespace Go.Proofs.YtoeejfhdjmkpcaaGreatDoor
open Go.Lib (hid)
open Go.RowKit
def Blk (w:World) (g:Nat) (t:TypeId) (cs:Array Value):Prop:=w.heap[g]? = some (.cells cs t (0,0))
theorem Blk.below {w w':World} {g B:Nat} {t:TypeId} {cs:Array Value} (h:Blk w g t cs) (hb:Below B w w') (hg:g<B):Blk w' g t cs:=(hb.block g hg).trans h
theorem Blk.lt {w:World} {g:Nat} {t:TypeId} {cs:Array Value} (h:Blk w g t cs):g<w.heap.size:=by
 rcases Nat.lt_or_ge g w.heap.size with h1 | h1
 · exact h1
 · unfold Blk at h; rw [Array.getElem?_eq_none h1] at h; cases h
theorem Blk.cell {w:World} {g:Nat} {t:TypeId} {cs:Array Value} (h:Blk w g t cs) (i:Nat):w.cell? ⟨g,i,none⟩=cs[i]?:=cell_of_row w g i cs t (0,0) h
theorem Blk.thaw {w:World} {g:Nat} {t:TypeId} {cs:Array Value} (h:Blk w g t cs) (i:Nat):w.frozen? ⟨g,i,none⟩=false:=by unfold Blk at h; simp [World.frozen?,h]
theorem Blk.set {w:World} {g:Nat} {t:TypeId} {cs:Array Value} (h:Blk w g t cs) (i:Nat) (v:Value):Blk (w.setCell ⟨g,i,none⟩ v) g t (cs.setIfInBounds i v):=by
 unfold Blk at h ⊢
 simp [World.setCell,Array.getElem?_modify,h]
theorem Blk.alloc {w:World} {g:Nat} {t:TypeId} {cs:Array Value} (h:Blk w g t cs) (o:Obj):Blk (w.alloc o) g t cs:=h.below ((Below.refl w.heap.size w).alloc (Nat.le_refl _) o) h.lt
theorem Blk.eq {w:World} {g:Nat} {t:TypeId} {cs cs':Array Value} (h:Blk w g t cs) (e:cs=cs'):Blk w g t cs':=e ▸ h
section
variable {w a b:World} {g:Nat}
theorem fY (h:w.grownBy a (some g)) (hb:Below a.heap.size a b):w.grownBy b (some g):=
 ⟨hb.os.trans h.os,hb.tape.trans h.tape,hb.output.trans h.output,Nat.le_trans h.size hb.size,fun k hk hne=>(hb.block k (Nat.lt_of_lt_of_le hk h.size)).trans (h.block k hk hne)⟩
theorem aK (h:w.grownBy a (some g)) (i:Nat) (v:Value):w.grownBy (a.setCell ⟨g,i,none⟩ v) (some g):=
 ⟨h.os,h.tape,h.output,by have:=h.size; simp [World.setCell]; omega,fun k hk hne=>(Below.heap_setCell a ⟨g,i,none⟩ v k (fun e=>hne (by rw [e]))).trans (h.block k hk hne)⟩
theorem Df {v v':Value} (h:w.grownBy a (some g)) (hg:cu a b v v') (hv:∀ k,v.ownBlock=some k→w.heap.size≤k):w.grownBy b (some g):=
 ⟨hg.grown.os.trans h.os,hg.grown.tape.trans h.tape,hg.grown.output.trans h.output,Nat.le_trans h.size hg.grown.size,fun k hk hne=>
  (hg.grown.block k (Nat.lt_of_lt_of_le hk h.size) (fun e=>by have:=hv k e.symm; omega)).trans (h.block k hk hne)⟩
theorem Blk.grew {v v':Value} {t:TypeId} {cs:Array Value} (h:Blk a g t cs) (hg:cu a b v v') (hv:∀ k,v.ownBlock=some k→g<k):Blk b g t cs:=
 (hg.grown.block g h.lt (fun e=>by have:=hv g e.symm; omega)).trans h
end
end Go.Proofs.YtoeejfhdjmkpcaaGreatDoor
/- Reading a number: plain. -/
namespace Go.Proofs.YtoeejfhdjmkpcaaGreatDoor
open Go.Lib (hid)
def rdB (s:ByteArray):Nat→Nat→Nat→Nat × Nat × Nat
 | 0,_,_=>(0,0,4)
 | f+1,i,acc=>
  if h:i<s.size then
   if (i=9∧1<s[i].toNat)∨(0<i∧s[i].toNat=0) then (0,0,4)
   else if s[i].toNat<128 then (acc+s[i].toNat % 128*128 ^ i,i+1,0)
   else rdB s f (i+1) (acc+s[i].toNat % 128*128 ^ i)
  else (0,0,3)
def rdNum (s:ByteArray):Nat × Nat × Nat:=rdB s 10 0 0
def rdV (s:ByteArray):Value:=.tuple #[.int .u64 ((rdNum s).1:Int),.int .i64 ((rdNum s).2.1:Int),.int .i64 ((rdNum s).2.2:Int)]
theorem ED {s:ByteArray} {a k e:Nat} (h:rdNum s=(a,k,e)):rdV s = .tuple #[.int .u64 (a:Int),.int .i64 (k:Int),.int .i64 (e:Int)]:=by unfold rdV; rw [h]
section
variable {s:ByteArray} {k acc c:Nat}
theorem CJ (hk:k<10) (h:s.size≤k):rdB s (10 - k) k acc=(0,0,3):=by
 rw [show 10 - k=(9 - k)+1 from by omega,rdB,dif_neg (by omega)]
theorem EE (hk:k<10) (h:k<s.size) (hc:s[k].toNat=c) (hb:(k=9∧1<c)∨(0<k∧c=0)):rdB s (10 - k) k acc=(0,0,4):=by
 rw [show 10 - k=(9 - k)+1 from by omega,rdB,dif_pos h,hc,if_pos hb]
theorem EF (hk:k<10) (h:k<s.size) (hc:s[k].toNat=c) (hb:¬ ((k=9∧1<c)∨(0<k∧c=0))) (h1:c<128):rdB s (10 - k) k acc=(acc+c % 128*128 ^ k,k+1,0):=by
 rw [show 10 - k=(9 - k)+1 from by omega,rdB,dif_pos h,hc,if_neg hb,if_pos h1]
theorem EG (hk:k<10) (h:k<s.size) (hc:s[k].toNat=c) (hb:¬ ((k=9∧1<c)∨(0<k∧c=0))) (h1:¬ c<128):rdB s (10 - k) k acc=rdB s (10 - (k+1)) (k+1) (acc+c % 128*128 ^ k):=by
 rw [show 10 - k=(9 - k)+1 from by omega,rdB,dif_pos h,hc,if_neg hb,if_neg h1,show 10 - (k+1)=9 - k from by omega]
theorem Gq (k:Nat):128 ^ k=2 ^ (7*k):=by rw [Nat.pow_mul]
theorem BE (hk:k<10) (hc:c<256) (h9:k=9→c≤1) (ha:acc<128 ^ k) :
 bits .or .u64 (acc:Int) (IntKind.u64.wrap (IntKind.u64.wrap (bits .and .u8 (c:Int) 127)*2 ^ (7*k)))=((acc+c % 128*128 ^ k:Nat):Int)∧acc+c % 128*128 ^ k<128 ^ (k+1)∧acc+c % 128*128 ^ k<18446744073709551616:=by
 have e1:bits .and .u8 (c:Int) 127=((c % 128:Nat):Int):=by
  rw [show (127:Int)=((127:Nat):Int) from rfl,u8_and_nat c 127 hc (by omega),nat_mask7]
 have e2:IntKind.u64.wrap ((c % 128:Nat):Int)=((c % 128:Nat):Int):=by rw [IntKind.wrap_u64]; omega
 have hp:c % 128*128 ^ k<18446744073709551616∧acc+c % 128*128 ^ k<18446744073709551616∧acc+c % 128*128 ^ k<128 ^ (k+1):=by
  have h3:acc+c % 128*128 ^ k<128 ^ (k+1):=by
   have:c % 128*128 ^ k≤127*128 ^ k:=Nat.mul_le_mul_right _ (by omega)
   rw [Nat.pow_succ]; omega
  have h4:acc+c % 128*128 ^ k<18446744073709551616:=by
   by_cases h:k=9
   · have:=h9 h
     subst h
     have:c % 128*128 ^ 9≤1*128 ^ 9:=Nat.mul_le_mul_right _ (by omega)
     omega
   · have:(128:Nat) ^ (k+1)≤128 ^ 9:=Nat.pow_le_pow_right (by omega) (by omega)
     omega
  exact⟨by omega,h4,h3⟩
 have e3:IntKind.u64.wrap (((c % 128:Nat):Int)*2 ^ (7*k))=((c % 128*128 ^ k:Nat):Int):=by
  rw [IntKind.wrap_u64,Gq]
  have e4:((c % 128:Nat):Int)*2 ^ (7*k)=((c % 128*2 ^ (7*k):Nat):Int):=by
   rw [Int.natCast_mul,Int.natCast_pow]; rfl
  have:=hp.1
  rw [Gq] at this
  rw [e4]; omega
 refine⟨?_,hp.2.2,hp.2.1⟩
 rw [e1,e2,e3,bits_or_u64_nat _ _ (by omega) hp.1,Nat.or_comm,nat_join (7*k) _ _ (by rw [Gq]; exact Nat.mul_mod_left _ _) (by rw [← Gq]; exact ha),Nat.add_comm]
end
end Go.Proofs.YtoeejfhdjmkpcaaGreatDoor
/- What reading a number gives: its bounds. -/
namespace Go.Proofs.YtoeejfhdjmkpcaaGreatDoor
open Go.Lib (hid)
theorem wo (s:ByteArray):∀ (f k acc:Nat),f+k=10→k≤s.size→acc<128 ^ k→∀ a n e,rdB s f k acc=(a,n,e)→a<18446744073709551616∧n≤10∧e≤4∧(e=0→1≤n∧n≤s.size)
 | 0,k,acc,_,_,_,a,n,e,h=>by
  simp only [rdB,Prod.mk.injEq] at h
  omega
 | f+1,k,acc,hf,hk,ha,a,n,e,h=>by
  rw [rdB] at h
  by_cases hs:k<s.size
  · rw [dif_pos hs] at h
    have hc:s[k].toNat<256:=s[k].toNat_lt
    by_cases hb:(k=9∧1<s[k].toNat)∨(0<k∧s[k].toNat=0)
    · rw [if_pos hb] at h
      simp only [Prod.mk.injEq] at h
      omega
    · rw [if_neg hb] at h
      obtain⟨_,h2,h3⟩:=BE (k:=k) (acc:=acc) (c:=s[k].toNat) (by omega) hc (by omega) ha
      by_cases h1:s[k].toNat<128
      · rw [if_pos h1] at h
        simp only [Prod.mk.injEq] at h
        obtain⟨rfl,rfl,rfl⟩:=h
        exact⟨h3,by omega,by omega,fun _=>⟨by omega,by omega⟩⟩
      · rw [if_neg h1] at h
        exact wo s f (k+1) _ (by omega) (by omega) h2 a n e h
  · rw [dif_neg hs] at h
    simp only [Prod.mk.injEq] at h
    omega
theorem iH {s:ByteArray} {a n e:Nat} (h:rdNum s=(a,n,e)):a<18446744073709551616∧n≤10∧e≤4∧(e=0→1≤n∧n≤s.size):=
 wo s 10 0 0 rfl (Nat.zero_le _) (by decide) a n e h
end Go.Proofs.YtoeejfhdjmkpcaaGreatDoor
/- What ReadText gives: plain. -/
namespace Go.Proofs.YtoeejfhdjmkpcaaGreatDoor
open Go.Lib (hid)
open Go.Lib (validD)
def kE (s:ByteArray):ByteArray × Nat × Nat:=
 match rdNum s with
 | (n,k,e)=>
  if e=0 then
   if 16<n then (⟨#[]⟩,0,2)
   else if s.size<k+n then (⟨#[]⟩,0,3)
   else if validD (s.extract k (k+n)).data.toList=true then (s.extract k (k+n),k+n,0)
   else (⟨#[]⟩,0,4)
  else (⟨#[]⟩,0,e)
variable {s:ByteArray} {n k e:Nat}
theorem yt (h:rdNum s=(n,k,e)) (he:e≠0):kE s=(⟨#[]⟩,0,e):=by unfold kE; rw [h]; simp only; rw [if_neg he]
theorem tA (h:rdNum s=(n,k,0)) (hn:16<n):kE s=(⟨#[]⟩,0,2):=by unfold kE; rw [h]; simp only; rw [if_pos trivial,if_pos hn]
theorem tB (h:rdNum s=(n,k,0)) (hn:¬ 16<n) (hl:s.size<k+n):kE s=(⟨#[]⟩,0,3):=by unfold kE; rw [h]; simp only; rw [if_pos trivial,if_neg hn,if_pos hl]
theorem wP (h:rdNum s=(n,k,0)) (hn:¬ 16<n) (hl:¬ s.size<k+n) (hv:validD (s.extract k (k+n)).data.toList=true):kE s=(s.extract k (k+n),k+n,0):=by unfold kE; rw [h]; simp only; rw [if_pos trivial,if_neg hn,if_neg hl,if_pos hv]
theorem vJ (h:rdNum s=(n,k,0)) (hn:¬ 16<n) (hl:¬ s.size<k+n) (hv:validD (s.extract k (k+n)).data.toList=false):kE s=(⟨#[]⟩,0,4):=by unfold kE; rw [h]; simp only; rw [if_pos trivial,if_neg hn,if_neg hl,if_neg (by rw [hv]; simp)]
end Go.Proofs.YtoeejfhdjmkpcaaGreatDoor
/- What the checks of rows say: plain. -/
namespace Go.Proofs.YtoeejfhdjmkpcaaGreatDoor
open Go.Lib (hid)
open Go.Lib (validD)
def gU (s:ByteArray):Bool:=decide (s.size≤16) && validD s.data.toList
def bQ (s:ByteArray):Bool:=decide (s.size≠0) && gU s
def ranged (n lo hi:Int):Bool:=decide (lo≤n) && decide (n≤hi)
structure aD where
 name:ByteArray
 prio:Int
 need:Int
 tries:Int
 tag:ByteArray
structure aA where
 name:ByteArray
 room:Int
 zone:ByteArray
structure ak where
 job:ByteArray
 node:ByteArray
 till:Int
def aL (j:aD):List Value:=[.string j.name,.int .i64 j.prio,.int .i64 j.need,.int .i64 j.tries,.string j.tag]
def aC (n:aA):List Value:=[.string n.name,.int .i64 n.room,.string n.zone]
def av (l:ak):List Value:=[.string l.job,.string l.node,.int .i64 l.till]
def fF (j:aD):Int:=if bQ j.name && gU j.tag then (if ranged j.prio (-1000) 1000 && ranged j.need 0 1000000 && ranged j.tries 0 100 then 0 else 1) else 4
def eP (n:aA):Int:=if bQ n.name && gU n.zone then (if ranged n.room 0 1000000 then 0 else 1) else 4
theorem yw {s:ByteArray} (h:s.size=0):s=⟨#[]⟩:=ByteArray.ext (Array.eq_empty_of_size_eq_zero h)
theorem sL {s:ByteArray} (h:s.size≠0):(s.toList == [])=false:=by
 rw [beq_eq_false_iff_ne,ByteArray.toList_eq]
 intro e
 have:=congrArg List.length e
 rw [Array.length_toList] at this
 exact h this
theorem vK {s:ByteArray} (h:s.size≠0):(s.toList == ByteArray.toList ⟨#[]⟩)=false:=by
 rw [show ByteArray.toList ⟨#[]⟩=[] from by rw [ByteArray.toList_eq]]; exact sL h
theorem wQ {s:ByteArray} (h:s.size=0):bQ s=false:=by unfold bQ; rw [decide_eq_false (by omega)]; rfl
theorem yx {s:ByteArray} (h:s.size≠0):bQ s=gU s:=by unfold bQ; rw [decide_eq_true h]; rfl
theorem oO {s:ByteArray} (h:¬ s.size≤16):gU s=false:=by unfold gU; rw [decide_eq_false h]; rfl
theorem yu {s:ByteArray} (h:s.size≤16):gU s=validD s.data.toList:=by unfold gU; rw [decide_eq_true h]; rfl
theorem bB {n lo hi:Int}:ranged n lo hi=true↔lo≤n∧n≤hi:=by unfold ranged; simp
theorem gK {n lo hi:Int}:ranged n lo hi=false↔n<lo∨hi<n:=by
 rw [← Bool.not_eq_true,bB]; omega
end Go.Proofs.YtoeejfhdjmkpcaaGreatDoor
/- Rows of a table, each as it should be and in order: plain. -/
namespace Go.Proofs.YtoeejfhdjmkpcaaGreatDoor
open Go.Lib (hid)
open Go.Op (bytesLess)
theorem dL:∀ a b:List UInt8,(!bytesLess a b)=(bytesLess b a || b == a)
 | [],[]=>by simp [bytesLess]
 | [],_ :: _=>by simp [bytesLess]
 | _ :: _,[]=>by simp [bytesLess]
 | x :: a,y :: b=>by
  have ih:=dL a b
  simp only [bytesLess]
  by_cases h1:x<y
  · have h2:¬ y<x:=fun h=>absurd (UInt8.lt_trans h1 h) (UInt8.lt_irrefl _)
    have h3:¬ y=x:=fun h=>by subst h; exact absurd h1 (UInt8.lt_irrefl _)
    simp [h1,h2,h3]
  · by_cases h2:y<x
    · have h3:¬ x=y:=fun h=>by subst h; exact absurd h2 (UInt8.lt_irrefl _)
      simp [h1,h2,h3]
    · have h3:x=y:=UInt8.le_antisymm (UInt8.not_lt.1 h2) (UInt8.not_lt.1 h1)
      subst h3
      simpa [h1] using ih
section
variable {α:Type} (E:α→Int) (key:α→ByteArray)
def before (p:Option ByteArray) (s:ByteArray):Bool:=match p with
 | none=>true
 | some q=>bytesLess q.toList s.toList
def dI:Option ByteArray→List α→Int
 | _,[]=>0
 | p,x :: l=>if E x=0 then (if before p (key x)=true then dI (some (key x)) l else 8) else E x
def cE (l:List α):Int:=dI E key none l
def prevK (l:List α) (k:Nat):Option ByteArray:=if k=0 then none else l[k - 1]?.map key
variable {E key} {l:List α} {k:Nat} {x:α}
theorem drop_cons (h:l[k]? = some x):l.drop k=x :: l.drop (k+1):=by
 obtain⟨hlt,rfl⟩:=List.getElem?_eq_some_iff.1 h
 exact List.drop_eq_getElem_cons hlt
theorem qp (h:l[k]? = some x) (he:E x≠0):dI E key (prevK key l k) (l.drop k)=E x:=by
 rw [drop_cons h,dI,if_neg he]
theorem mE {y:α} (h:l[k]? = some x) (he:E x=0) (hk:k≠0) (hy:l[k - 1]? = some y) (hl:bytesLess (key y).toList (key x).toList=false):dI E key (prevK key l k) (l.drop k)=8:=by
 rw [drop_cons h,dI,if_pos he,if_neg]
 unfold prevK before
 rw [if_neg hk,hy]
 simp [hl]
theorem iN (h:l[k]? = some x) (he:E x=0) (hb:k=0∨∃ y,l[k - 1]? = some y∧bytesLess (key y).toList (key x).toList=true) :
 dI E key (prevK key l k) (l.drop k)=dI E key (prevK key l (k+1)) (l.drop (k+1)):=by
 have e1:prevK key l (k+1)=some (key x):=by unfold prevK; rw [if_neg (by omega),Nat.add_sub_cancel,h]; rfl
 rw [drop_cons h,dI,if_pos he,e1,if_pos]
 unfold prevK before
 rcases hb with rfl | ⟨y,hy,hl⟩
 · rfl
 · by_cases hk:k=0
   · rw [if_pos hk]
   · rw [if_neg hk,hy]; exact hl
theorem qw (h:l.length≤k) (p:Option ByteArray):dI E key p (l.drop k)=0:=by
 rw [List.drop_of_length_le h]; rfl
end
theorem aT (j:aD):(aL j).length=5:=rfl
theorem aM (n:aA):(aC n).length=3:=rfl
theorem aE (l:ak):(av l).length=3:=rfl
end Go.Proofs.YtoeejfhdjmkpcaaGreatDoor
/- What the check of a state says: plain. -/
namespace Go.Proofs.YtoeejfhdjmkpcaaGreatDoor
open Go.Lib (hid)
open Go.Op (bytesLess)
structure ah where
 rev:Int
 jobs:List aD
 nodes:List aA
 leases:List ak
def cP (l:List aD) (s:ByteArray):Option aD:=l.find? fun j=>decide (j.name=s)
def cL (l:List aA) (s:ByteArray):Option aA:=l.find? fun n=>decide (n.name=s)
def gC (st:ah) (l:ak):Int:=if (cP st.jobs l.job).isSome && (cL st.nodes l.node).isSome then (if ranged l.till 0 1099511627776 then 0 else 1) else 6
def fU (st:ah) (l:ak) (s:ByteArray):Int:=if l.node=s then (match cP st.jobs l.job with | some j=>j.need | none=>0) else 0
def fO (st:ah) (s:ByteArray):List ak→Int
 | []=>0
 | l :: r=>fU st l s+fO st s r
def qm (st:ah) (s:ByteArray):Int:=fO st s st.leases
def dW (st:ah):Bool:=decide (st.jobs.length≤40) && decide (st.leases.length≤40) && decide (st.nodes.length≤20)
def lI (st:ah):Bool:=st.nodes.all fun n=>decide (qm st n.name≤n.room)
def aG (st:ah):Int:=
 if ranged st.rev 0 1099511627776=false then 1
 else if dW st=false then 2
 else if cE fF aD.name st.jobs≠0 then cE fF aD.name st.jobs
 else if cE eP aA.name st.nodes≠0 then cE eP aA.name st.nodes
 else if cE (gC st) ak.job st.leases≠0 then cE (gC st) ak.job st.leases
 else if lI st=true then 0 else 9
theorem lu:∀ a:List UInt8,bytesLess a a=false
 | []=>rfl
 | a :: r=>by simp [bytesLess,lu r]
theorem pD:∀ a b c:List UInt8,bytesLess a b=true→bytesLess b c=true→bytesLess a c=true
 | _,[],_,h,_=>by simp [bytesLess] at h
 | _,_ :: _,[],_,h=>by simp [bytesLess] at h
 | [],_ :: _,_ :: _,_,_=>rfl
 | a :: x,b :: y,c :: z,h1,h2=>by
  simp only [bytesLess,Bool.or_eq_true,decide_eq_true_eq,Bool.and_eq_true,beq_iff_eq] at h1 h2 ⊢
  rcases h1 with h1 | ⟨rfl,h1⟩
  · rcases h2 with h2 | ⟨rfl,h2⟩
    · exact .inl (UInt8.lt_trans h1 h2)
    · exact .inl h1
  · rcases h2 with h2 | ⟨rfl,h2⟩
    · exact .inl h2
    · exact .inr ⟨rfl,pD x y z h1 h2⟩
section
variable {α:Type} {E:α→Int} {key:α→ByteArray}
theorem kM:∀ (p:Option ByteArray) (l:List α),dI E key p l=0→(∀ x ∈ l,E x=0∧before p (key x)=true)∧l.Pairwise (fun a b=>bytesLess (key a).toList (key b).toList=true)
 | _,[],_=>⟨by simp,List.Pairwise.nil⟩
 | p,x :: l,h=>by
  unfold dI at h
  by_cases h1:E x=0
  · rw [if_pos h1] at h
    by_cases h2:before p (key x)=true
    · rw [if_pos h2] at h
      obtain⟨i1,i2⟩:=kM (some (key x)) l h
      refine⟨fun y hy=>?_,List.pairwise_cons.2 ⟨fun y hy=>(i1 y hy).2,i2⟩⟩
      rcases List.mem_cons.1 hy with rfl | hy
      · exact⟨h1,h2⟩
      · refine⟨(i1 y hy).1,?_⟩
        have h3:=(i1 y hy).2
        unfold before at h2 h3 ⊢
        cases p with
        | none=>rfl
        | some q=>exact pD _ _ _ h2 h3
    · rw [if_neg h2] at h; omega
  · rw [if_neg h1] at h; exact absurd h h1
theorem iO {l:List α} (h:cE E key l=0) {x:α} (hx:x ∈ l):E x=0:=((kM none l h).1 x hx).1
theorem uA {l:List α} (h:cE E key l=0):l.Pairwise (fun a b=>key a≠key b):=
 (kM none l h).2.imp fun {a b} hlt e=>by rw [e,lu] at hlt; cases hlt
end
theorem CK {j:aD} (h:fF j=0):0≤j.need∧j.need≤1000000:=by
 unfold fF at h
 split at h
 · split at h
   · rename_i h2
     simp only [Bool.and_eq_true] at h2
     exact bB.1 h2.1.2
   · omega
 · omega
theorem vZ {α:Type} (key:α→ByteArray) {l:List α} (hp:l.Pairwise (fun a b=>key a≠key b)) {k:Nat} {x:α} (hx:l[k]? = some x) (s:ByteArray) :
 (l.take (k+1)).find? (fun a=>decide (key a=s))=if s=key x then some x else (l.take k).find? (fun a=>decide (key a=s)):=by
 have e:l.take (k+1)=l.take k ++ [x]:=by
  obtain⟨hlt,rfl⟩:=List.getElem?_eq_some_iff.1 hx
  exact (List.take_append_getElem hlt).symm
 rw [e,List.find?_append]
 by_cases hs:s=key x
 · rw [if_pos hs]
   have hnone:(l.take k).find? (fun a=>decide (key a=s))=none:=by
    rw [List.find?_eq_none]
    intro a ha hd
    have hk:key a=s:=by simpa using hd
    obtain⟨hlt,rfl⟩:=List.getElem?_eq_some_iff.1 hx
    obtain⟨i,hi,rfl⟩:=List.mem_iff_getElem.1 ha
    rw [List.length_take] at hi
    rw [List.getElem_take] at hk
    exact List.pairwise_iff_getElem.1 hp i k (by omega) hlt (by omega) (hk.trans hs)
   rw [hnone]
   simp [hs]
 · rw [if_neg hs]
   have:[x].find? (fun a=>decide (key a=s))=none:=by simpa using fun e=>hs (Eq.symm e)
   rw [this]
   simp
theorem qx (st:ah) (s:ByteArray):∀ a b:List ak,fO st s (a ++ b)=fO st s a+fO st s b
 | [],b=>by simp [fO]
 | x :: a,b=>by
  have ih:=qx st s a b
  simp only [List.cons_append,fO,ih]; omega
theorem AY (st:ah) (s:ByteArray) {l:List ak} {k:Nat} {x:ak} (h:l[k]? = some x):fO st s (l.take (k+1))=fO st s (l.take k)+fU st x s:=by
 have e:l.take (k+1)=l.take k ++ [x]:=by
  obtain⟨hlt,rfl⟩:=List.getElem?_eq_some_iff.1 h
  exact (List.take_append_getElem hlt).symm
 rw [e,qx]; simp [fO]
def qy (st:ah):Prop:=∀ j ∈ st.jobs,0≤j.need∧j.need≤1000000
theorem qz {st:ah} (h:qy st) (x:ak) (s:ByteArray):0≤fU st x s∧fU st x s≤1000000:=by
 unfold fU
 split
 · cases hx:cP st.jobs x.job with
   | none=>simp
   | some j=>exact h j (List.mem_of_find?_eq_some hx)
 · omega
theorem rZ {st:ah} (h:qy st) (s:ByteArray):∀ l:List ak,0≤fO st s l∧fO st s l≤(l.length:Int)*1000000
 | []=>by simp [fO]
 | x :: l=>by
  have h1:=qz h x s
  have h2:=rZ h s l
  simp only [fO,List.length_cons]
  omega
theorem zB {st:ah} (h:cE fF aD.name st.jobs=0):qy st:=fun _ hj=>CK (iO h hj)
end Go.Proofs.YtoeejfhdjmkpcaaGreatDoor
/- The walks of Zig and Zag, in the program and in the reference. -/
namespace Go.Proofs.YtoeejfhdjmkpcaaGreatDoor
open Go.Lib (hid)
open Go.RowKit
theorem Gs (n:Int) (h : -9223372036854775808≤n) (h':n≤9223372036854775807) (w:World) :
 Calls Tryz.prog 261 #[.int .i64 n] w fun e w'=>e = .returned (.int .u64 (lV n))∧w=w':=by
 have hx:=hid (Gt n h h')
 go_enter Tryz.func261,Tryz.ntmps261
 go_wp2
 go_ret
 exact⟨bg hx.out,rfl⟩
theorem Gu (n:Int) (h:0≤n) (h':n<18446744073709551616) (w:World) :
 Calls Tryz.prog 263 #[.int .u64 n] w fun e w'=>e = .returned (.int .i64 (iT n))∧w=w':=by
 have hx:=hid (Gv n h h')
 go_enter Tryz.func263,Tryz.ntmps263
 go_wp2
 go_ret
 exact⟨bg hx.out,rfl⟩
end Go.Proofs.YtoeejfhdjmkpcaaGreatDoor
/- What the loops over rows hold. -/
namespace Go.Proofs.YtoeejfhdjmkpcaaGreatDoor
open Go.Lib (hid)
open Go.RowKit
def lB (xs:List aD):Prop:=∀ x ∈ xs,x.name.size≤9223372036854775807∧x.tag.size≤9223372036854775807
def IB (xs:List aD) (n:Nat) (R:Int) (w:World) (i:Value) (wr:World):Prop:=∃ k:Nat,k≤n∧i = .int .i64 k∧dI fF aD.name (prevK aD.name xs k) (xs.drop k)=R∧Below w.heap.size w wr
def jR (xs:List aA):Prop:=∀ x ∈ xs,x.name.size≤9223372036854775807∧x.zone.size≤9223372036854775807
def Gw (xs:List aA) (n:Nat) (R:Int) (w:World) (i:Value) (wr:World):Prop:=∃ k:Nat,k≤n∧i = .int .i64 k∧dI eP aA.name (prevK aA.name xs k) (xs.drop k)=R∧Below w.heap.size w wr
end Go.Proofs.YtoeejfhdjmkpcaaGreatDoor
