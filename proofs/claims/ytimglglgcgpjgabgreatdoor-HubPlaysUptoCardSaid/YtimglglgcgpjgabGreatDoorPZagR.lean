/- Of the proof of a statement: Kit, Mem, Push, Blk, Pl, PlNum, PlRead, PlRdF, PlTextR, PlChk, PlRows, Zig, Tabs, RowsDef, Put, Read, Outside, PlUtf, Reads, Pk, PlSum, PlFrame, ZagR. -/
import Derived.Test.YtimglglgcgpjgabGreatDoorPTg
import Derived.Lib.Hide
import Derived.Test.YtimglglgcgpjgabGreatDoorRows
import Derived.WalkKit
import Derived.Lib.Hide
import Derived.WalkSpells
import Derived.WalkLawsBesides
import Derived.Laws.OwnMore
import Derived.Laws.Rows
import Derived.Outline
import Derived.Maps.AppendAt
import Derived.Laws.IdiomStrings
import Derived.Lib.BufferRead
import Derived.Laws.BitsAllLaws
import Derived.Below
import Derived.Laws.Bits64b
import Derived.Lib.ValidLaws
import Derived.Shelf.Unicode.ValidAny
import Derived.Lib.LaidU8T
import Derived.Lib.QuietBelow
set_option linter.unusedVariables false
set_option linter.unusedSimpArgs false
set_option maxRecDepth 100000
set_option maxHeartbeats 8000000
namespace Go.Proofs.YtimglglgcgpjgabGreatDoor
open Go.RowKit
open Go.Lib (validD)
open Go.Op (bytesLess)
open Go.RowKit Go.Shelf Go.Lib
open Go.Lib
theorem aX {k:IntKind} {a b:Int} (h:a=b):Ending.returned (.int k a) = .returned (.int k b):=by rw [h]
theorem bA {a b:Bool} (h:a=b):Ending.returned (.bool a) = .returned (.bool b):=by rw [h]
theorem kW {a b:ByteArray} (h:a=b):Ending.returned (.string a) = .returned (.string b):=by rw [h]
def jk (w:World) (b off:Nat) (xs:List Value):Prop:=∀ j u,xs[j]? = some u->ζ w b (off+j) u
structure bg (w:World) (B sz:Nat) (A:Option Addr) (n:Nat) (xs:List Value):Prop where
 len:xs.length=n*sz
 at_:0<n->∃ b off,A=some ⟨b,off,none⟩/\b<B/\jk w b off xs
section
variable {w w':World} {B B' b off sz n:Nat} {A:Option Addr} {xs:List Value}
theorem jk.cell {j:Nat} {u:Value} (h:jk w b off xs) (d:xs[j]? = some u):ζ w b (off+j) u:=h j u d
theorem jk.below (h:jk w b off xs) (f:Below B w w') (d:b<B):jk w' b off xs:=fun j u i=>(f.cell (p:=⟨b,off+j,none⟩) d).trans (h j u i)
theorem jk.drop (h:jk w b off xs) (k:Nat):jk w b (off+k) (xs.drop k):=fun j u d=>by
 rw [Nat.add_assoc]; exact h (k+j) u (by rw [<- d,List.getElem?_drop])
theorem jk.take (h:jk w b off xs) (k:Nat):jk w b off (xs.take k):=fun j u d=>h j u (by
 rw [List.getElem?_take] at d; split at d
 · exact d
 · cases d)
theorem bg.below (h:bg w B sz A n xs) (f:Below B w w'):bg w' B sz A n xs:=
 ⟨h.len,fun i=>by obtain⟨b,off,e,d,j⟩:=h.at_ i; exact⟨b,off,e,d,j.below f d⟩⟩
theorem bg.more (h:bg w B sz A n xs) (i:B<=B'):bg w B' sz A n xs:=
 ⟨h.len,fun d=>by obtain⟨b,off,e,j,f⟩:=h.at_ d; exact⟨b,off,e,by omega,f⟩⟩
theorem bg.nil:bg w B sz A 0 []:=⟨by simp,fun h=>absurd h (by omega)⟩
theorem bg.cell (h:bg w B sz A n xs) {j:Nat} (m:j<n*sz):∃ b off u,A=some ⟨b,off,none⟩/\b<B/\xs[j]? = some u/\ζ w b (off+j) u:=by
 have p:0<n:=by
  rcases Nat.eq_zero_or_pos n with d | d
  · subst d; omega
  · exact d
 obtain⟨b,off,e,i,q⟩:=h.at_ p;have f:j<xs.length:=by rw [h.len]; exact m
 exact⟨b,off,xs[j],e,i,δ f,q j _ (δ f)⟩
theorem jk.new (w:World) (t:TypeId) (cs:Array Value):jk (χ w cs t) w 0 cs.toList:=fun j u d=>by
 rw [cell_of_row (χ w cs t) w (0+j) cs t (0,0) (heap_alloc_new w _),Nat.zero_add];simpa using d
theorem bg.new (w:World) (t:TypeId) (cs:Array Value) (h:cs.size=n*sz):bg (χ w cs t) (w.heap.size+1) sz (some ⟨w,0,none⟩) n cs.toList:=
 ⟨by simpa using h,fun _=>⟨_,_,rfl,by omega,jk.new w t cs⟩⟩
theorem bg.alloc (h:bg w B sz A n xs) (d:B<=w.heap.size) (o:Obj):bg (w.alloc o) B sz A n xs:=h.below ((Below.refl B w).alloc d o)
theorem bg.drew (h:bg w B sz A n xs):bg w.drew B sz A n xs:=⟨h.len,h.at_⟩
theorem jk.drew (h:jk w b off xs):jk w.drew b off xs:=h
end
theorem dP {B:Nat} {W d:World} (f:Below B W d):(∀ b o,b<B->d.cell? ⟨b,o,none⟩=W.cell? ⟨b,o,none⟩)/\(∀ b o,b<B->d.frozen? ⟨b,o,none⟩=W.frozen? ⟨b,o,none⟩):=
 ⟨fun b o h=>f.cell (p:=⟨b,o,none⟩) h,fun b o h=>f.frozen (p:=⟨b,o,none⟩) h⟩
structure cZ (w w':World) (v v':Value):Prop where
 grown:w.grownBy w' v.ownBlock
 own:v'.ownBlock=v.ownBlock\/∃ g,v'.ownBlock=some g/\w.heap.size<=g
theorem cZ.refl (w:World) (v:Value):cZ w w v v:=⟨World.grownBy.refl w _,.inl rfl⟩
theorem cZ.trans {a b c:World} {u v x:Value} (h:cZ a b u v) (k:cZ b c v x):cZ a c u x:=by
 refine⟨⟨k.grown.os.trans h.grown.os,k.grown.tape.trans h.grown.tape,k.grown.output.trans h.grown.output,v6 h.grown.size k.grown.size,fun m i j=>?_⟩,?_⟩
 · refine (k.grown.block m (uI i h.grown.size) ?_).trans (h.grown.block m i j);rcases h.own with e | ⟨g,e,f⟩
   · rw [e]; exact j
   · rw [e]; intro d; injection d with d; omega
 · rcases k.own with e | ⟨g,e,f⟩
   · rw [e]; exact h.own
   · exact .inr ⟨g,e,v6 h.grown.size f⟩
theorem cZ.below {w w':World} {v v':Value} {B:Nat} (h:cZ w w' v v') (f:B<=w.heap.size) (d:∀ g,v.ownBlock=some g->B<=g):Below B w w':=
 ⟨h.grown.os,h.grown.tape,h.grown.output,h.grown.size,fun k i=>h.grown.block k (by omega) (fun e=>by have:=d k e.symm; omega)⟩
section
variable {P:Program} {w:World} {ops:Array Oper} {rest:List Oper} {o:Oper} {a:Act} {Q:Exit->Act->World->Prop}
theorem zn (H:o.guard=none) (s x:Operand) (t:TypeId)
 (L:o.op = .call { callee:=.builtin .append,args:=#[s,x],argTypes:=#[t,t] })
 (base:Nat) (e:TypeId) (i:TypeInfo) (z:Value) (d m:Nat) (T:P.underlying t=some (.slice e)) (hi:P.info? e=some i) (W:i.zero=some z)
 (R:i.size=d) (F:i.bytes=m) (X:z.cells.size=d) (S:0<d)
 (v:Value) (n:Nat) (xs:List Value) (O:a.eval s=v) (M:w.ownsRow base e d v n xs)
 (cs:Array Value) (k:Nat) (j:0<k) (V:a.eval x = .slice (some ⟨w,0,none⟩) k k) (J:cs.size=k*d) (C:∀ u ∈ cs.toList,u.oneCell'=true)
 (D:n+k<=maxLen) (G:(n+k)*m<=140737488355328) (aa:base<=w.heap.size)
 (y:∀ v' w',w'.ownsRow base e d v' (n+k) (xs ++ cs.toList)->w.grownBy w' v.ownBlock->(v'.ownBlock=v.ownBlock\/∃ g,v'.ownBlock=some g/\w.heap.size<=g)->v' ≠ .slice none 0 0->wpList P ops Q rest (a.put o.dst v') w') :
 wpList P ops Q (o :: rest) a (χ w cs e):=by
 have N:=jk.new w e cs
 refine wpList_append_own_at _ H s x t L base e i z d m T hi W R F X S v n xs O (M.alloc _) ⟨w,0,none⟩ k k cs.toList V (by simpa using J)
  (fun Y u U=>?_) C D G (by simp; omega) (fun v' w' Z f K h=>y v' w' Z ?_ ?_ ?_)
 · have:=N Y u U;unfold Addr.add
   split
   · rename_i I; subst I; simpa using this
   · simpa using this
 · have g0:w.grownBy (χ w cs e) v.ownBlock:=⟨rfl,rfl,rfl,by simp,fun k j _=>Below.heap_alloc _ _ _ j⟩;exact⟨f.os.trans g0.os,f.tape.trans g0.tape,f.output.trans g0.output,v6 g0.size f.size,fun k j p=>(f.block k (by simp; omega) p).trans (g0.block k j p)⟩
 · rcases h with h | h
   · exact .inl h
   · exact .inr ⟨_,h,by simp⟩
 · intro q;have:=(K.1 q).2;omega
end
def bM (l:List UInt8):List Value:=l.map fun c=>.int .u8 (c.toNat:Int)
theorem iN (l k:List UInt8):bM (l ++ k)=bM l ++ bM k:=by simp [bM]
theorem fI (l:List UInt8):(bM l).length=l.length:=by simp [bM]
section
variable {w:World} {ops:Array Oper} {rest:List Oper} {o:Oper} {a:Act} {Q:Exit->Act->World->Prop}
theorem Tryz.infoU8:(Tryz.prog.info? 5).map (fun i=>(i.zero,i.size,i.bytes))=some (some (.int .u8 0),1,1):=by kernel_rfl
theorem GZ (C:o.guard=none) (s x:Operand) (G:o.op = .call { callee:=.builtin .append,args:=#[s,x],argTypes:=#[56,56] })
 (base:Nat) (A:Option Addr) (m c:Nat) (l:List UInt8) (I:a.eval s = .slice A m c) (H:w.ownsRow base 5 1 (.slice A m c) m (bM l))
 (cs:Array Value) (k:Nat) (F:0<k) (b:List UInt8) (h:cs.toList=bM b) (z:b.length=k) (K:a.eval x = .slice (some ⟨w,0,none⟩) k k) (V:m+k<=140737488355328) (y:base<=w.heap.size)
 (v:∀ d f w',w'.ownsRow base 5 1 (.slice d (m+k) f) (m+k) (bM (l ++ b))->cZ w w' (.slice A m c) (.slice d (m+k) f)->wpList Tryz.prog ops Q rest (a.put o.dst (.slice d (m+k) f)) w') :
 wpList Tryz.prog ops Q (o :: rest) a (χ w cs 5):=by
 obtain⟨O,D,L,M,N⟩:=info_parts Tryz.infoU8;have U:cs.size=k:=by rw [<- Array.length_toList,h,fI,z]
 refine zn C s x 56 G base 5 O (.int .u8 0) 1 1 Tryz.underlying56 D L M N rfl (by decide) _ m _ I H cs k F K (by omega) (fun W j=>?_) (by unfold maxLen; omega) (by omega) y (fun X w' i u p _=>?_)
 · rw [h] at j;obtain⟨c,_,rfl⟩:=List.mem_map.1 j;rfl
 · have q:bM l ++ cs.toList=bM (l ++ b):=by rw [h,iN]
   rw [q] at i;rcases i.2 with ⟨_,T⟩ | ⟨g,R,S,J,_⟩
   · omega
   · subst J;exact v _ _ _ i ⟨u,p⟩
theorem IC (j:o.guard=none) (s x:Operand) (q:o.op = .call { callee:=.builtin .append,args:=#[s,x],argTypes:=#[56,56] })
 (base:Nat) (A:Option Addr) (m c:Nat) (l:List UInt8) (y:a.eval s = .slice A m c) (v:w.ownsRow base 5 1 (.slice A m c) m (bM l))
 (u:Int) (b:UInt8) (z:u=(b.toNat:Int)) (C:a.eval x = .slice (some ⟨w,0,none⟩) 1 1) (p:m+1<=140737488355328) (i:base<=w.heap.size)
 (h:∀ d f w',w'.ownsRow base 5 1 (.slice d (m+1) f) (m+1) (bM (l ++ [b]))->cZ w w' (.slice A m c) (.slice d (m+1) f)->wpList Tryz.prog ops Q rest (a.put o.dst (.slice d (m+1) f)) w') :
 wpList Tryz.prog ops Q (o :: rest) a (χ w #[.int .u8 u] 5):=
 GZ j s x q base A m c l y v #[.int .u8 u] 1 (by decide) [b] (by subst z; rfl) rfl C p i h
end
theorem iX {P:Program} {w:World} {base:Nat} {f d e:TypeId} {A:Option Addr} {n c:Nat} {l:List UInt8} (v:P.underlying f=some (.slice e)) (q:P.underlying e=some (.int .u8)) (p:P.underlying d=some .string)
 (i:w.ownsRow base e 1 (.slice A n c) n (bM l)):(convert f d (.slice A n c)).run P w = .ok (.string ⟨l.toArray⟩) w:=by
 have u:l.length=n:=by have:=i.1; simpa [bM] using this
 rcases i.2 with ⟨y,I⟩ | ⟨g,G,H,D,_⟩
 · injection y with h j m;subst h; subst j; subst m;have C:l=[]:=List.eq_nil_of_length_eq_zero u;subst C;exact Lib.run_convert_nil_bytes w f d e 0 v q p
 · injection D with h j m;subst h;subst u;refine run_convert_bytes_back w f d e ⟨g,0,none⟩ c l v q p (fun F z=>?_);exact i.cells (g:=g) rfl F _ (by simp [bM,z])
theorem tK {P:Program} {w:World} {f d e:TypeId} {b off n c:Nat} {l:List UInt8} (y:P.underlying f=some (.slice e)) (p:P.underlying e=some (.int .u8)) (m:P.underlying d=some .string)
 (v:jk w b off (bM l)) (u:l.length=n):(convert f d (.slice (some ⟨b,off,none⟩) n c)).run P w = .ok (.string ⟨l.toArray⟩) w:=by
 subst u;refine run_convert_bytes_back w f d e ⟨b,off,none⟩ c l y p m (fun j q=>?_);have h:=v j _ (show (bM l)[j]? = some (.int .u8 (l[j].toNat:Int)) by simp [bM,q]);unfold Addr.add
 split
 · rename_i i; subst i; simpa using h
 · exact h
theorem sW {P:Program} {w:World} {f d e:TypeId} {n c:Nat} {cs:Array Value} {l:List UInt8} (p:P.underlying f=some (.slice e)) (i:P.underlying e=some (.int .u8)) (h:P.underlying d=some .string)
 (j:cs.toList=bM l) (m:l.length=n):(convert f d (.slice (some ⟨w,0,none⟩) n c)).run P (χ w cs e) = .ok (.string ⟨l.toArray⟩) (χ w cs e):=
 tK p i h (by rw [<- j]; exact jk.new w e cs) m
theorem Qo {a b:UInt8} (W:World) (g:Nat) (f:ζ W g 0 (.int .u8 (a.toNat:Int))) (h:ζ W g 1 (.int .u8 (b.toNat:Int))) :
 (convert 56 9 (.slice (some ⟨g,0,none⟩) 2 2)).run Tryz.prog W = .ok (.string ⟨#[a,b]⟩) W:=
 tK (l:=[a,b]) Tryz.underlying56 Tryz.underlying5 Tryz.underlying9 (fun j u d=>by
  match j,d with
  | 0,d=>simp [bM] at d; subst d; simpa using f
  | 1,d=>simp [bM] at d; subst d; simpa using h) rfl
def Blk (w:World) (g:Nat) (t:TypeId) (cs:Array Value):Prop:=w.heap[g]? = some (.cells cs t (0,0))
theorem Blk.below {w w':World} {g B:Nat} {t:TypeId} {cs:Array Value} (h:Blk w g t cs) (d:Below B w w') (f:g<B):Blk w' g t cs:=(d.block g f).trans h
theorem Blk.lt {w:World} {g:Nat} {t:TypeId} {cs:Array Value} (h:Blk w g t cs):g<w.heap.size:=by
 rcases Nat.lt_or_ge g w with d | d
 · exact d
 · unfold Blk at h; rw [Array.getElem?_eq_none d] at h; cases h
theorem Blk.cell {w:World} {g:Nat} {t:TypeId} {cs:Array Value} (h:Blk w g t cs) (i:Nat):w.cell? ⟨g,i,none⟩=cs[i]?:=cell_of_row w g i cs t (0,0) h
theorem Blk.thaw {w:World} {g:Nat} {t:TypeId} {cs:Array Value} (h:Blk w g t cs) (i:Nat):κ w g i:=by unfold Blk at h; simp [World.frozen?,h]
theorem Blk.set {w:World} {g:Nat} {t:TypeId} {cs:Array Value} (h:Blk w g t cs) (i:Nat) (v:Value):Blk (sQ w g i v) g t (cs.setIfInBounds i v):=by
 unfold Blk at h |-;simp [World.setCell,Array.getElem?_modify,h]
theorem Blk.alloc {w:World} {g:Nat} {t:TypeId} {cs:Array Value} (h:Blk w g t cs) (o:Obj):Blk (w.alloc o) g t cs:=h.below ((Below.refl w w).alloc lQ o) h.lt
theorem Blk.eq {w:World} {g:Nat} {t:TypeId} {cs d:Array Value} (h:Blk w g t cs) (e:cs=d):Blk w g t d:=e ▸ h
section
variable {w a b:World} {g:Nat}
theorem iW (h:w.grownBy a (some g)) (d:Below a a b):w.grownBy b (some g):=
 ⟨d.os.trans h.os,d.tape.trans h.tape,d.output.trans h.output,v6 h.size d.size,fun k f i=>(d.block k (uI f h.size)).trans (h.block k f i)⟩
theorem aK (h:w.grownBy a (some g)) (i:Nat) (v:Value):w.grownBy (sQ a g i v) (some g):=
 ⟨h.os,h.tape,h.output,by have:=h.size; simp [World.setCell]; omega,fun k f d=>(Below.heap_setCell a ⟨g,i,none⟩ v k (fun e=>d (by rw [e]))).trans (h.block k f d)⟩
theorem L9 {v v':Value} (h:w.grownBy a (some g)) (d:cZ a b v v') (j:∀ k,v.ownBlock=some k->w.heap.size<=k):w.grownBy b (some g):=
 ⟨d.grown.os.trans h.os,d.grown.tape.trans h.tape,d.grown.output.trans h.output,v6 h.size d.grown.size,fun k f i=>
  (d.grown.block k (uI f h.size) (fun e=>by have:=j k e.symm; omega)).trans (h.block k f i)⟩
theorem Blk.grew {v v':Value} {t:TypeId} {cs:Array Value} (h:Blk a g t cs) (d:cZ a b v v') (f:∀ k,v.ownBlock=some k->g<k):Blk b g t cs:=
 (d.grown.block g h.lt (fun e=>by have:=f g e.symm; omega)).trans h
end
def mU (n:Int):Int:=if 0<=n then 2*n else -2*n - 1
def lA (n:Int):Int:=if n % 2=0 then n / 2 else -(n / 2) - 1
theorem Dx (a:Nat) (h:a<18446744073709551616):a ^^^ 18446744073709551615=18446744073709551615 - a:=by
 have e:BitVec.ofNat 64 a ^^^ BitVec.allOnes 64 = ~~~ BitVec.ofNat 64 a:=BitVec.xor_allOnes;have d:=congrArg BitVec.toNat e;simp only [BitVec.toNat_xor,BitVec.toNat_not,BitVec.toNat_ofNat,BitVec.toNat_allOnes] at d;rw [Nat.mod_eq_of_lt (by omega)] at d;simpa using d
theorem NX (n:Int) (i : -9223372036854775808<=n) (j:n<=9223372036854775807) :
 bits .xor .u64 (IntKind.u64.wrap (IntKind.u64.wrap n*2)) (IntKind.u64.wrap (n / 9223372036854775808))=mU n:=by
 unfold mU;simp only [IntKind.wrap_u64];rw [u64_xor _ _ (by omega) (by omega) (by omega) (by omega)];by_cases f:0<=n
 · have d:n / 9223372036854775808=0:=by omega
   rw [if_pos f,d];simp;omega
 · have d:n / 9223372036854775808 = -1:=by omega
   rw [if_neg f,d];have h:(-1 % 18446744073709551616:Int).toNat=18446744073709551615:=by decide
   rw [h,Dx _ (by omega)];omega
theorem u64_and1 (n:Int) (h:0<=n) (d:n<18446744073709551616):bits .and .u64 n 1=n % 2:=by
 rw [u64_and _ _ h d (by omega) (by omega)];have e:(1:Int).toNat=1:=rfl;rw [e,nat_mask1];omega
theorem J6 (m:Int) (h:0<=m) (d:m<9223372036854775808):bits .xor .i64 m 0=m:=by
 have e:BitVec.ofInt 64 0=0#64:=by decide
 show IntKind.i64.wrap ((BitVec.ofInt 64 m ^^^ BitVec.ofInt 64 0).toNat:Nat)=m
 rw [e,BitVec.xor_zero,BitVec.toNat_ofInt,IntKind.wrap_i64];omega
theorem G3 (m:Int) (h:0<=m) (d:m<9223372036854775808):bits .xor .i64 m (-1) = -m - 1:=by
 have e:BitVec.ofInt 64 (-1)=BitVec.allOnes 64:=by decide
 show IntKind.i64.wrap ((BitVec.ofInt 64 m ^^^ BitVec.ofInt 64 (-1)).toNat:Nat) = -m - 1
 rw [e,BitVec.xor_allOnes,BitVec.toNat_not,BitVec.toNat_ofInt,IntKind.wrap_i64];omega
theorem NY (n:Int) (h:0<=n) (i:n<18446744073709551616) :
 bits .xor .i64 (n / 2) (RowKit.wrap64 (-RowKit.wrap64 (bits .and .u64 n 1)))=lA n:=by
 rw [u64_and1 n h i];unfold lA;by_cases e:n % 2=0
 · rw [if_pos e,e];have d:RowKit.wrap64 (-RowKit.wrap64 0)=0:=by unfold RowKit.wrap64; omega
   rw [d,J6 _ (by omega) (by omega)]
 · have f:n % 2=1:=by omega
   rw [if_neg e,f];have d:RowKit.wrap64 (-RowKit.wrap64 1) = -1:=by unfold RowKit.wrap64; omega
   rw [d,G3 _ (by omega) (by omega)]
def zH:Nat->Nat->List UInt8
 | 0,n=>[UInt8.ofNat n]
 | f+1,n=>if n<128 then [UInt8.ofNat n] else UInt8.ofNat (n % 128+128) :: zH f (n / 128)
def bf (n:Nat):List UInt8:=zH 10 n
theorem pQ {f n:Nat} (h:n<128):zH f n=[UInt8.ofNat n]:=by
 cases f with
 | zero=>rfl
 | succ f=>rw [zH,if_pos h]
theorem CB:∀ (f g n:Nat),n<128 ^ (f+1)->n<128 ^ (g+1)->zH f n=zH g n
 | 0,g,n,h,_=>by rw [pQ (by simpa using h),pQ (by simpa using h)]
 | f+1,0,n,_,d=>by rw [pQ (by simpa using d),pQ (by simpa using d)]
 | f+1,g+1,n,h,d=>by
  unfold zH
  split
  · rfl
  · rw [CB f g (n / 128) (Nat.div_lt_of_lt_mul (by rw [Nat.pow_succ,Nat.mul_comm] at h; exact h)) (Nat.div_lt_of_lt_mul (by rw [Nat.pow_succ,Nat.mul_comm] at d; exact d))]
theorem vN {n:Nat} (h:n<128):bf n=[UInt8.ofNat n]:=pQ h
theorem Cw {n:Nat} (h:128<=n) (d:n<18446744073709551616):bf n=UInt8.ofNat (n % 128+128) :: bf (n / 128):=by
 unfold bf;rw [zH,if_neg (by omega),CB 9 10 (n / 128) (by omega) (by omega)]
theorem zo:∀ f n,1<=(zH f n).length/\(zH f n).length<=f+1
 | 0,n=>by simp [zH]
 | f+1,n=>by
  unfold zH
  split
  · simp
  · have:=zo f (n / 128);simp; omega
theorem dR (n:Nat):1<=(bf n).length/\(bf n).length<=11:=zo 10 n
theorem Mx (n:Int) (i:0<=n) (j:n<18446744073709551616):bits .or .u8 (n % 256) 128=(((UInt8.ofNat (n.toNat % 128+128)).toNat:Nat):Int):=by
 obtain⟨m,rfl⟩:=Int.eq_ofNat_of_zero_le i;rw [u8_or _ _ (by omega) (by omega) (by omega) (by omega)];have d:(((m:Int) % 256).toNat:Nat)=m % 256:=by omega
 have f:(128:Int).toNat=128:=rfl
 have h:(UInt8.ofNat ((m:Int).toNat % 128+128)).toNat=m % 128+128:=by
  rw [UInt8.toNat_ofNat']; simp; omega
 rw [d,f,h];have key:∀ x:Fin 256,(x.val ||| 128)=x.val % 128+128:=by decide +kernel
 have:=key ⟨m % 256,by omega⟩;simp only at this;rw [this];omega
def rdB (s:ByteArray):Nat->Nat->Nat->Nat × Nat × Nat
 | 0,_,_=>(0,0,4)
 | f+1,i,acc=>
  if h:i<s.size then
   if (i=9/\1<s[i].toNat)\/(0<i/\s[i].toNat=0) then (0,0,4)
   else if s[i].toNat<128 then (acc+s[i].toNat % 128*128 ^ i,i+1,0)
   else rdB s f (i+1) (acc+s[i].toNat % 128*128 ^ i)
  else (0,0,3)
def rdNum (s:ByteArray):Nat × Nat × Nat:=rdB s 10 0 0
def rdV (s:ByteArray):Value:=.tuple #[.int .u64 ((rdNum s).1:Int),((rdNum s).2.1:Int),((rdNum s).2.2:Int)]
theorem GR {s:ByteArray} {a k e:Nat} (h:rdNum s=(a,k,e)):rdV s = .tuple #[.int .u64 (a:Int),(k:Int),(e:Int)]:=by unfold rdV; rw [h]
section
variable {s:ByteArray} {k acc c:Nat}
theorem Cz (d:k<10) (h:s.size<=k):rdB s (10 - k) k acc=(0,0,3):=by
 rw [show 10 - k=(9 - k)+1 from by omega,rdB,dif_neg (by omega)]
theorem Fh (i:k<10) (h:k<s.size) (f:s[k].toNat=c) (d:(k=9/\1<c)\/(0<k/\c=0)):rdB s (10 - k) k acc=(0,0,4):=by
 rw [show 10 - k=(9 - k)+1 from by omega,rdB,dif_pos h,f,if_pos d]
theorem Fi (j:k<10) (h:k<s.size) (i:s[k].toNat=c) (f:¬ ((k=9/\1<c)\/(0<k/\c=0))) (d:c<128):rdB s (10 - k) k acc=(acc+c % 128*128 ^ k,k+1,0):=by
 rw [show 10 - k=(9 - k)+1 from by omega,rdB,dif_pos h,i,if_neg f,if_pos d]
theorem Fj (j:k<10) (h:k<s.size) (i:s[k].toNat=c) (f:¬ ((k=9/\1<c)\/(0<k/\c=0))) (d:¬ c<128):rdB s (10 - k) k acc=rdB s (10 - (k+1)) (k+1) (acc+c % 128*128 ^ k):=by
 rw [show 10 - k=(9 - k)+1 from by omega,rdB,dif_pos h,i,if_neg f,if_neg d,show 10 - (k+1)=9 - k from by omega]
theorem NZ (k:Nat):128 ^ k=2 ^ (7*k):=by rw [Nat.pow_mul]
theorem zP (y:k<10) (v:c<256) (u:k=9->c<=1) (ha:acc<128 ^ k) :
 bits .or .u64 (acc:Int) (IntKind.u64.wrap (IntKind.u64.wrap (bits .and .u8 (c:Int) 127)*2 ^ (7*k)))=((acc+c % 128*128 ^ k:Nat):Int)/\acc+c % 128*128 ^ k<128 ^ (k+1)/\acc+c % 128*128 ^ k<18446744073709551616:=by
 have f:bits .and .u8 (c:Int) 127=((c % 128:Nat):Int):=by
  rw [show (127:Int)=((127:Nat):Int) from rfl,u8_and_nat c 127 v (by omega),nat_mask7]
 have i:IntKind.u64.wrap ((c % 128:Nat):Int)=((c % 128:Nat):Int):=by rw [IntKind.wrap_u64]; omega
 have d:c % 128*128 ^ k<18446744073709551616/\acc+c % 128*128 ^ k<18446744073709551616/\acc+c % 128*128 ^ k<128 ^ (k+1):=by
  have p:acc+c % 128*128 ^ k<128 ^ (k+1):=by
   have:c % 128*128 ^ k<=127*128 ^ k:=Nat.mul_le_mul_right _ (by omega);rw [Nat.pow_succ]; omega
  have q:acc+c % 128*128 ^ k<18446744073709551616:=by
   by_cases h:k=9
   · have:=u h;subst h;have:c % 128*128 ^ 9<=1*128 ^ 9:=Nat.mul_le_mul_right _ (by omega);omega
   · have:(128:Nat) ^ (k+1)<=128 ^ 9:=Nat.pow_le_pow_right (by omega) (by omega);omega
  exact⟨by omega,q,p⟩
 have j:IntKind.u64.wrap (((c % 128:Nat):Int)*2 ^ (7*k))=((c % 128*128 ^ k:Nat):Int):=by
  rw [IntKind.wrap_u64,NZ]
  have m:((c % 128:Nat):Int)*2 ^ (7*k)=((c % 128*2 ^ (7*k):Nat):Int):=by
   rw [Int.natCast_mul,Int.natCast_pow]; rfl
  have:=d.1;rw [NZ] at this;rw [m]; omega
 refine⟨?_,d.2.2,d.2.1⟩;rw [f,i,j,bits_or_u64_nat _ _ (by omega) d.1,Nat.or_comm,nat_join (7*k) _ _ (by rw [NZ]; exact Nat.mul_mod_left _ _) (by rw [<- NZ]; exact ha),Nat.add_comm]
theorem Mr {p:Nat} (h:k<10) (f:c<256) (d:k=9->c<=1) (ha:acc<128 ^ k) (i:p=128 ^ k) :
 IntKind.u64.wrap ((acc:Int)+IntKind.u64.wrap ((c:Int) % 128*(p:Int)))=((acc+c % 128*128 ^ k:Nat):Int):=by
 obtain⟨_,j,m⟩:=zP h f d ha;subst i;have e:(c:Int) % 128*((128 ^ k:Nat):Int)=((c % 128*128 ^ k:Nat):Int):=by rw [Int.natCast_mul]; rfl
 rw [e,IntKind.wrap_u64,IntKind.wrap_u64];omega
theorem Ms (d:k<9):IntKind.u64.wrap (((128 ^ k:Nat):Int)*128)=((128 ^ (k+1):Nat):Int)/\128 ^ (k+1)<=9223372036854775808:=by
 have:(128:Nat) ^ (k+1)<=128 ^ 9:=Nat.pow_le_pow_right (by omega) (by omega);have e:(128:Nat) ^ (k+1)=128 ^ k*128:=Nat.pow_succ ..;rw [IntKind.wrap_u64];omega
end
theorem CC (s:ByteArray):∀ (f k acc:Nat),f+k=10->k<=s.size->acc<128 ^ k->∀ a n e,rdB s f k acc=(a,n,e)->a<18446744073709551616/\n<=10/\e<=4/\(e=0->1<=n/\n<=s.size)
 | 0,k,acc,_,_,_,a,n,e,h=>by
  simp only [rdB,Prod.mk.injEq] at h;omega
 | f+1,k,acc,u,v,ha,a,n,e,h=>by
  rw [rdB] at h;by_cases j:k<s.size
  · rw [dif_pos j] at h;have q:s[k].toNat<256:=s[k].toNat_lt;by_cases i:(k=9/\1<s[k].toNat)\/(0<k/\s[k].toNat=0)
    · rw [if_pos i] at h;simp only [Prod.mk.injEq] at h;omega
    · rw [if_neg i] at h;obtain⟨_,m,p⟩:=zP (k:=k) (acc:=acc) (c:=s[k].toNat) (by omega) q (by omega) ha;by_cases d:s[k].toNat<128
      · rw [if_pos d] at h;simp only [Prod.mk.injEq] at h;obtain⟨rfl,rfl,rfl⟩:=h;exact⟨p,by omega,by omega,fun _=>⟨by omega,by omega⟩⟩
      · rw [if_neg d] at h;exact CC s f (k+1) _ (by omega) (by omega) m a n e h
  · rw [dif_neg j] at h;simp only [Prod.mk.injEq] at h;omega
theorem gX {s:ByteArray} {a n e:Nat} (h:rdNum s=(a,n,e)):a<18446744073709551616/\n<=10/\e<=4/\(e=0->1<=n/\n<=s.size):=
 CC s 10 0 0 rfl (Nat.zero_le _) (by decide) a n e h
def oI (s:ByteArray):ByteArray × Nat × Nat:=
 match rdNum s with
 | (n,k,e)=>
  if e=0 then
   if 16<n then (⟨#[]⟩,0,2)
   else if s.size<k+n then (⟨#[]⟩,0,3)
   else if validD (s.extract k (k+n)).data.toList=true then (s.extract k (k+n),k+n,0)
   else (⟨#[]⟩,0,4)
  else (⟨#[]⟩,0,e)
variable {s:ByteArray} {n k e:Nat}
theorem Br (h:rdNum s=(n,k,e)) (d:e≠0):oI s=(⟨#[]⟩,0,e):=by unfold oI; rw [h]; simp only; rw [if_neg d]
theorem vI (h:rdNum s=(n,k,0)) (d:16<n):oI s=(⟨#[]⟩,0,2):=by unfold oI; rw [h]; simp only; rw [if_pos trivial,if_pos d]
theorem vJ (h:rdNum s=(n,k,0)) (f:¬ 16<n) (d:s.size<k+n):oI s=(⟨#[]⟩,0,3):=by unfold oI; rw [h]; simp only; rw [if_pos trivial,if_neg f,if_pos d]
theorem Dm (h:rdNum s=(n,k,0)) (f:¬ 16<n) (d:¬ s.size<k+n) (i:validD (s.extract k (k+n)).data.toList=true):oI s=(s.extract k (k+n),k+n,0):=by unfold oI; rw [h]; simp only; rw [if_pos trivial,if_neg f,if_neg d,if_pos i]
theorem yH (h:rdNum s=(n,k,0)) (f:¬ 16<n) (d:¬ s.size<k+n) (i:validD (s.extract k (k+n)).data.toList=false):oI s=(⟨#[]⟩,0,4):=by unfold oI; rw [h]; simp only; rw [if_pos trivial,if_neg f,if_neg d,if_neg (by rw [i]; simp)]
def lG (s:ByteArray):Bool:=decide (s.size<=16) && validD s.data.toList
def cP (s:ByteArray):Bool:=decide (s.size≠0) && lG s
def ranged (n lo hi:Int):Bool:=decide (lo<=n) && decide (n<=hi)
structure aC where
 name:ByteArray
 prio:Int
 need:Int
 tries:Int
 tag:ByteArray
instance:CoeOut (Tg 0) (aC->ByteArray):=⟨fun _=>aC.name⟩
instance:CoeFun (Tg 0) fun _=>aC->ByteArray:=⟨fun _=>aC.name⟩
structure av where
 name:ByteArray
 room:Int
 zone:ByteArray
instance:CoeOut (Tg 1) (av->ByteArray):=⟨fun _=>av.name⟩
instance:CoeFun (Tg 1) fun _=>av->ByteArray:=⟨fun _=>av.name⟩
structure ak where
 job:ByteArray
 node:ByteArray
 till:Int
instance:CoeOut (Tg 2) (ak->ByteArray):=⟨fun _=>ak.job⟩
instance:CoeFun (Tg 2) fun _=>ak->ByteArray:=⟨fun _=>ak.job⟩
def aS (j:aC):List Value:=[.string j.name,.int .i64 j.prio,.int .i64 j.need,.int .i64 j.tries,.string j.tag]
instance:CoeOut (Tg 12) (aC->List Value):=⟨fun _=>aS⟩
instance:CoeFun (Tg 12) fun _=>aC->List Value:=⟨fun _=>aS⟩
def aH (n:av):List Value:=[.string n.name,.int .i64 n.room,.string n.zone]
instance:CoeOut (Tg 14) (av->List Value):=⟨fun _=>aH⟩
instance:CoeFun (Tg 14) fun _=>av->List Value:=⟨fun _=>aH⟩
def aB (l:ak):List Value:=[.string l.job,.string l.node,.int .i64 l.till]
instance:CoeOut (Tg 16) (ak->List Value):=⟨fun _=>aB⟩
instance:CoeFun (Tg 16) fun _=>ak->List Value:=⟨fun _=>aB⟩
def fG (j:aC):Int:=if cP j.name && lG j.tag then (if ranged j.prio (-1000) 1000 && ranged j.need 0 1000000 && ranged j.tries 0 100 then 0 else 1) else 4
def dE (n:av):Int:=if cP n.name && lG n.zone then (if ranged n.room 0 1000000 then 0 else 1) else 4
theorem og {s:ByteArray} (h:s.size=0):s=⟨#[]⟩:=ByteArray.ext (Array.eq_empty_of_size_eq_zero h)
theorem oQ {s:ByteArray} (h:s.size≠0):(s.toList == [])=false:=by
 rw [beq_eq_false_iff_ne,ByteArray.toList_eq];intro e;have:=congrArg List.length e;rw [Array.length_toList] at this;exact h this
theorem nB {s:ByteArray} (h:s.size≠0):(s.toList == ByteArray.toList ⟨#[]⟩)=false:=by
 rw [show ByteArray.toList ⟨#[]⟩=[] from by rw [ByteArray.toList_eq]]; exact oQ h
theorem wB {s:ByteArray} (h:s.size=0):cP s=false:=by unfold cP; rw [decide_eq_false (by omega)]; rfl
theorem yW {s:ByteArray} (h:s.size≠0):cP s=lG s:=by unfold cP; rw [decide_eq_true h]; rfl
theorem rG {s:ByteArray} (h:¬ s.size<=16):lG s=false:=by unfold lG; rw [decide_eq_false h]; rfl
theorem yV {s:ByteArray} (h:s.size<=16):lG s=validD s.data.toList:=by unfold lG; rw [decide_eq_true h]; rfl
theorem aM {n lo hi:Int}:ranged n lo hi=true↔lo<=n/\n<=hi:=by unfold ranged; simp
theorem fT {n lo hi:Int}:ranged n lo hi=false↔n<lo\/hi<n:=by
 rw [<- Bool.not_eq_true,aM]; omega
theorem j6:∀ a b:List UInt8,(!bytesLess a b)=(bytesLess b a || b == a)
 | [],[]=>by simp [bytesLess]
 | [],_ :: _=>by simp [bytesLess]
 | _ :: _,[]=>by simp [bytesLess]
 | x :: a,y :: b=>by
  have j:=j6 a b;simp only [bytesLess];by_cases d:x<y
  · have f:¬ y<x:=fun h=>absurd (UInt8.lt_trans d h) (UInt8.lt_irrefl _);have i:¬ y=x:=fun h=>by subst h; exact absurd d (UInt8.lt_irrefl _)
    simp [d,f,i]
  · by_cases f:y<x
    · have i:¬ x=y:=fun h=>by subst h; exact absurd f (UInt8.lt_irrefl _)
      simp [d,f,i]
    · have i:x=y:=UInt8.le_antisymm (UInt8.not_lt.1 f) (UInt8.not_lt.1 d);subst i;simpa [d] using j
section
variable {α:Type} (E:α->Int) (key:α->ByteArray)
def before (p:Option ByteArray) (s:ByteArray):Bool:=match p with
 | none=>true
 | some q=>bytesLess q.toList s.toList
def eF:Option ByteArray->List α->Int
 | _,[]=>0
 | p,x :: l=>if E x=0 then (if before p (key x)=true then eF (some (key x)) l else 8) else E x
def cu (l:List α):Int:=eF E key none l
def prevK (l:List α) (k:Nat):Option ByteArray:=if k=0 then none else l[k - 1]?.map key
variable {E key} {l:List α} {k:Nat} {x:α}
theorem drop_cons (h:l[k]? = some x):l.drop k=x :: l.drop (k+1):=by
 obtain⟨hlt,rfl⟩:=List.getElem?_eq_some_iff.1 h;exact List.drop_eq_getElem_cons hlt
theorem lC (h:l[k]? = some x) (d:E x≠0):eF E key (prevK key l k) (l.drop k)=E x:=by
 rw [drop_cons h,eF,if_neg d]
theorem mW {y:α} (h:l[k]? = some x) (d:E x=0) (f:k≠0) (j:l[k - 1]? = some y) (i:bytesLess (key y).toList (key x).toList=false):eF E key (prevK key l k) (l.drop k)=8:=by
 rw [drop_cons h,eF,if_pos d,if_neg];unfold prevK before;rw [if_neg f,j];simp [i]
theorem gS (h:l[k]? = some x) (j:E x=0) (i:k=0\/∃ y,l[k - 1]? = some y/\bytesLess (key y).toList (key x).toList=true) :
 eF E key (prevK key l k) (l.drop k)=eF E key (prevK key l (k+1)) (l.drop (k+1)):=by
 have f:prevK key l (k+1)=some (key x):=by unfold prevK; rw [if_neg (by omega),Nat.add_sub_cancel,h]; rfl
 rw [drop_cons h,eF,if_pos j,f,if_pos];unfold prevK before;rcases i with rfl | ⟨y,p,m⟩
 · rfl
 · by_cases d:k=0
   · rw [if_pos d]
   · rw [if_neg d,p]; exact m
theorem qC (h:l.length<=k) (p:Option ByteArray):eF E key p (l.drop k)=0:=by
 rw [List.drop_of_length_le h]; rfl
end
theorem aU (j:aC):(aS j).length=5:=rfl
theorem aO (n:av):(aH n).length=3:=rfl
theorem aI (l:ak):(aB l).length=3:=rfl
theorem NI (n:Int) (h : -9223372036854775808<=n) (d:n<=9223372036854775807) (w:World) :
 ψ 235 #[n] w fun e w'=>e = .returned (.int .u64 (mU n))/\w=w':=by
 have i:=ω (NX n h d);go_enter Tryz.func235,Tryz.ntmps235;go_wp2;go_ret;exact⟨aX i.z,rfl⟩
theorem LG (n:Int) (i : -9223372036854775808<=n) (j:n<=9223372036854775807) (w:World) :
 ψ 177 #[n] w fun e w'=>e = .returned (.int .u64 (mU n))/\w=w':=by
 by_cases h:0<=n
 · have d:=ω (show mU n=2*n from by unfold mU; rw [if_pos h]);go_enter Tryz.func177,Tryz.ntmps177;go_wp2;go_ret;exact⟨aX d.symm,rfl⟩
 · have d:=ω (show mU n=2 * -(n+1)+1 from by unfold mU; rw [if_neg h]; omega);go_enter Tryz.func177,Tryz.ntmps177;go_wp2;go_ret;exact⟨aX d.symm,rfl⟩
theorem NE (n:Int) (h:0<=n) (d:n<18446744073709551616) (w:World) :
 ψ 272 #[.int .u64 n] w fun e w'=>e = .returned (.int .i64 (lA n))/\w=w':=by
 have i:=ω (NY n h d);go_enter Tryz.func272,Tryz.ntmps272;go_wp2;go_ret;exact⟨aX i.z,rfl⟩
def ren:Ren:={
 f:=fun x=>match x with
  | 196=>213
  | 259=>236
  | n=>n
 t:=fun x=>match x with
  | 0=>0
  | 3=>3
  | 4=>4
  | 5=>5
  | 9=>9
  | 12=>12
  | 46=>205
  | 53=>144
  | 119=>294
  | 138=>296
  | 139=>297
  | n=>n
 g:=fun x=>match x with
  | 3=>0
  | 4=>1
  | n=>n }
theorem Ot:Lays.n196 Tryz.prog ren:={
 mixed:=by kernel_rfl
 f196:=Tryz.func213.trans (congrArg some (by kernel_rfl))
 f259:=Tryz.func236.trans (congrArg some (by kernel_rfl))
 t0:=Tryz.underlying0
 a0:=Tryz.isAgg0
 z0:=Tryz.sizeOf0
 v0:=Tryz.zeroValue0
 t3:=Tryz.underlying3
 a3:=Tryz.isAgg3
 z3:=Tryz.sizeOf3
 v3:=Tryz.zeroValue3
 t4:=Tryz.underlying4
 a4:=Tryz.isAgg4
 z4:=Tryz.sizeOf4
 v4:=Tryz.zeroValue4
 t5:=Tryz.underlying5
 a5:=Tryz.isAgg5
 z5:=Tryz.sizeOf5
 v5:=Tryz.zeroValue5
 t9:=Tryz.underlying9
 a9:=Tryz.isAgg9
 z9:=Tryz.sizeOf9
 v9:=Tryz.zeroValue9
 t12:=Tryz.underlying12
 a12:=Tryz.isAgg12
 z12:=Tryz.sizeOf12
 v12:=Tryz.zeroValue12
 t46:=Tryz.underlying205
 a46:=Tryz.isAgg205
 z46:=Tryz.sizeOf205
 v46:=Tryz.zeroValue205
 t53:=Tryz.underlying144
 a53:=Tryz.isAgg144
 z53:=Tryz.sizeOf144
 v53:=Tryz.zeroValue144
 t119:=Tryz.underlying294
 a119:=Tryz.isAgg294
 z119:=Tryz.sizeOf294
 t138:=Tryz.underlying296
 a138:=Tryz.isAgg296
 z138:=Tryz.sizeOf296
 v138:=Tryz.zeroValue296
 t139:=Tryz.underlying297
 a139:=Tryz.isAgg297
 z139:=Tryz.sizeOf297
 v139:=Tryz.zeroValue297
 g3:=by kernel_rfl
 g4:=by kernel_rfl }
def Tabs (w:World):Prop:=Utf8Tabs (ren.g 3) (ren.g 4) w
theorem Tabs.below {w w':World} (h:Tabs w) (d:Below w w w'):Tabs w':=Utf8Tabs_below h d
theorem Nh {w : World} {l : List (String × DataW Unit)} (d : laidMet Tryz.prog l w) (f : ("unicode/utf8.first", firstData) ∈ l) (h : ("unicode/utf8.acceptRanges", acceptData) ∈ l) : Tabs w :=
 utf8Tabs_of_readsT (U8Types.of196 Ot) ⟨by kernel_rfl,by kernel_rfl,by kernel_rfl,by kernel_rfl,by kernel_rfl,by kernel_rfl,by kernel_rfl⟩ (laidMet.reads d f) (laidMet.reads d h)
theorem yG (s:ByteArray) (w:World) (h:s.size<=9223372036854775807) (d:Tabs w) :
 ψ 213 #[s] w fun e w'=>e = .returned (.bool (validD s.data.toList))/\Below w w w':=
 Any.utf8_ValidString Ot s w h d
def oC (xs:List aC):Prop:=∀ x ∈ xs,x.name.size<=9223372036854775807/\x.tag.size<=9223372036854775807
def Kg (xs:List aC) (n:Nat) (R:Int) (w:World) (i:Value) (wr:World):Prop:=∃ k:Nat,k<=n/\i = .int .i64 k/\eF fG aC.name (prevK aC.name xs k) (xs.drop k)=R/\Below w w wr
def mB (xs:List av):Prop:=∀ x ∈ xs,x.name.size<=9223372036854775807/\x.zone.size<=9223372036854775807
def G8 (xs:List av) (n:Nat) (R:Int) (w:World) (i:Value) (wr:World):Prop:=∃ k:Nat,k<=n/\i = .int .i64 k/\eF dE av.name (prevK av.name xs k) (xs.drop k)=R/\Below w w wr
def N0 (base:Nat) (A:Option Addr) (m c:Nat) (l:List UInt8) (w:World) (e:Ending) (w':World):Prop:=
 ∃ f d h,e = .returned (.slice f d h)/\w'.ownsRow base 5 1 (.slice f d h) d (bM l)/\cZ w w' (.slice A m c) (.slice f d h)
def PL (base:Nat) (A:Option Addr) (m c:Nat) (l:List UInt8) (w:World) (v i:Value) (wr:World):Prop:=
 ∃ (f:Option Addr) (d h:Nat) (k:Int) (j:List UInt8),v = .slice f d h/\i = .int .u64 k/\0<=k/\k<18446744073709551616/\l=j ++ bf k.toNat/\wr.ownsRow base 5 1 (.slice f d h) d (bM j)/\cZ w wr (.slice A m c) (.slice f d h)
theorem Dr (base:Nat) (A:Option Addr) (m c:Nat) (l:List UInt8) (n:Int) (w:World) (G:0<=n) (H:n<18446744073709551616) (y:w.ownsRow base 5 1 (.slice A m c) m (bM l)) (N:m<=140737488355000) (L:base<=w.heap.size) :
 ψ 201 #[.slice A m c,.int .u64 n] w (N0 base A m c (l ++ bf n.toNat) w):=by
 go_enter Tryz.func201,Tryz.ntmps201;go_wp2
 go_loopw [0,1] (fun O C wr=>PL base A m c (l ++ bf n.toNat) w O C wr) (fun _ C _=>(RowKit.intOf C).toNat)
 case atStart=>exact⟨A,m,c,n,l,rfl,rfl,G,H,rfl,y,cZ.refl _ _⟩
 case round=>
  obtain⟨S,d,T,k,J,rfl,rfl,X,W,q,u,j⟩:=hrel
  have M:d<=m+11:=by
   have K:=congrArg List.length q;have U:J.length=d:=by have:=u.1; simpa [bM] using this
   have V:l.length=m:=by have:=y.1; simpa [bM] using this
   have:=dR n.toNat;have:=dR k.toNat;simp at K; omega
  have D:=ω q;have F:=ω (show d+1<=140737488355328 from by omega);have I:base<=wr.heap.size:=v6 L j.grown.size;clear q y N M G H;by_cases hlt:128<=k
  · have i:=ω (Mx k (by omega) (by omega))
    have z:=ω (show bf k.toNat=UInt8.ofNat (k.toNat % 128+128) :: bf (k / 128).toNat from by
     rw [Cw (by omega) (by omega),show k.toNat / 128=(k / 128).toNat from by omega])
    go_wp2_with (at_builtin; refine IC rfl _ _ rfl base _ _ _ _ rfl u _ (UInt8.ofNat (k.toNat % 128+128)) i.z rfl F.z I ?_; intro h c2 R v p)
    go_roundw
    case rel=>exact⟨h,d+1,c2,k / 128,J ++ [UInt8.ofNat (k.toNat % 128+128)],rfl,rfl,by omega,by omega,by rw [D.z,z.z]; simp,v,j.trans p⟩
    case measure=>simp [RowKit.intOf]; omega
  · have i:=ω (show k=(((UInt8.ofNat k.toNat).toNat:Nat):Int) from by rw [UInt8.toNat_ofNat']; omega);have z:=ω (show bf k.toNat=[UInt8.ofNat k.toNat] from vN (by omega))
    go_wp2_with (at_builtin; refine IC rfl _ _ rfl base _ _ _ _ rfl u _ (UInt8.ofNat k.toNat) i.z rfl F.z I ?_; intro h c2 R v p)
    go_ret;exact⟨h,d+1,c2,rfl,by rw [D.z,z.z]; exact v,j.trans p⟩
def wT (n:Nat) (w:World) (e:Ending) (w':World):Prop:=e = .returned (.string ⟨(bf n).toArray⟩)/\Below w w w'
theorem Bt (n:Int) (w:World) (j:0<=n) (m:n<18446744073709551616) :
 ψ 202 #[.int .u64 n] w (wT n.toNat w):=by
 go_enter Tryz.func202,Tryz.ntmps202
 go_wp2_with fail
 refine Calls.mono (Dr w none 0 0 [] n w j m (World.ownsRow_nil _ _ _ _) (by omega) lQ) ?_;rintro e w' ⟨q,y,u,rfl,h,d⟩;have p:Below w w w':=d.below lQ (fun g i=>by simp [Value.ownBlock] at i);have v:=iX Tryz.underlying56 Tryz.underlying5 Tryz.underlying9 h;clear h d;go_wp2;go_ret;exact⟨rfl,p⟩
theorem p9 (n:Int) (w:World) (h:0<=n) (i:n<18446744073709551616) :
 ψ 127 #[.int .u64 n] w fun e w'=>e = .returned (.string ⟨#[UInt8.ofNat n.toNat]⟩)/\Below w w w':=by
 have d:n % 256=(((UInt8.ofNat n.toNat).toNat:Nat):Int):=by rw [UInt8.toNat_ofNat']; omega
 have j:=sW (P:=Tryz.prog) (w:=w) (n:=1) (c:=1) (cs:=#[.int .u8 (n % 256)]) (l:=[UInt8.ofNat n.toNat]) Tryz.underlying56 Tryz.underlying5 Tryz.underlying9 (by simp [bM,d]) rfl;clear d;go_enter Tryz.func127,Tryz.ntmps127;go_wp2;go_ret;exact⟨rfl,(θ).alloc lQ _⟩
theorem jo {s:ByteArray} {k c:Nat} (h:k<s.size) (d:s[k].toNat=c) (W:World):(Instr.index 9 (.string s) (.int .i64 (k:Int))).run Tryz.prog W = .ok (.int .u8 (c:Int)) W:=by
 rw [run_index_string W 9 s .i64 (k:Int) Tryz.underlying9,dif_pos ⟨by omega,by omega⟩];subst d;simp only [Int.toNat_natCast]
def qy (s:ByteArray) (w:World) (e:Ending) (w':World):Prop:=e = .returned (rdV s)/\w=w'
theorem qy.mk' {s:ByteArray} {w:World} {a k e:Nat} (h:rdNum s=(a,k,e)):qy s w (.returned (.tuple #[.int .u64 (a:Int),(k:Int),(e:Int)])) w:=⟨by rw [GR h],rfl⟩
def Qq (s:ByteArray) (n i:Value):Prop:=∃ (k acc:Nat),k<=9/\k<=s.size/\acc<128 ^ k/\i = .int .i64 k/\n = .int .u64 acc/\rdNum s=rdB s (10 - k) k acc
theorem My (s:ByteArray) (w:World) (S:s.size<=9223372036854775807) :
 ψ 70 #[s] w (qy s w):=by
 go_enter Tryz.func70,Tryz.ntmps70;go_wp2
 go_loop [2,3,4,5,6,7,8,10] (fun _ _ _ n _ _ q _=>Qq s n q) (fun _ _ _ _ _ _ q _=>10 - (RowKit.intOf q).toNat)
 case atStart=>exact⟨0,0,by omega,by omega,by decide,rfl,rfl,rfl⟩
 case round=>
  obtain⟨k,acc,O,R,ha,rfl,rfl,v⟩:=hrel;have h:=ω v;have C:=ω ha;clear v ha;by_cases j:k<s.size
  · have I:((k:Int) == s.size)=false:=by simp; omega
    obtain⟨c,i⟩:∃ c:Nat,s[k].toNat=c:=⟨_,rfl⟩;have L:c<256:=by rw [<- i]; exact s[k].toNat_lt
    have M:=jo j i;have m:=ω i;clear i;have form:=fun (d:(k=9/\1<c)\/(0<k/\c=0))=>qy.mk' (w:=w) (h.trans (Fh (by omega) j m.z d));have y:=fun (d:¬ ((k=9/\1<c)\/(0<k/\c=0))) (p:c<128)=>qy.mk' (w:=w) (h.trans (Fi (by omega) j m.z d p));have more:=fun (d:¬ ((k=9/\1<c)\/(0<k/\c=0))) (p:¬ c<128)=>h.trans (Fj (by omega) j m.z d p);have step:=fun (K:k=9->c<=1)=>zP (k:=k) (by omega) L K C.z;have z:=ω form;have D:=ω y;have F:=ω more;have u:=ω step;clear form y more step;by_cases N:9<=k <;> by_cases b0:1<=c
    all_goals first | (have G:((k:Int) == 9)=true:=by simp; omega) | (have G:((k:Int) == 9)=false:=by simp; omega)
    all_goals first | (have H:((c:Int) == 0)=true:=by simp; omega) | (have H:((c:Int) == 0)=false:=by simp; omega)
    all_goals go_wp2
    all_goals first
     | (go_ret3; exact z.z (by omega))
     | (have st:=(u.z (by omega)).1; go_ret3; rw [st]; exact D.z (by omega) (by omega))
     | (have st:=u.z (by omega); exact⟨⟨k+1,_,by omega,by omega,st.2.1,by go_num,by rw [st.1],F.z (by omega) (by omega)⟩,by simp only [RowKit.intOf]; omega⟩)
  · have I:((k:Int) == s.size)=true:=by simp; omega
    have J:=ω (qy.mk' (w:=w) (h.trans (Cz (by omega) (by omega))));go_wp2
    go_ret3
    exact J
theorem dh (n lo hi:Int) (i:lo<=n) (j:n<=hi) (w:World):ψ 20 #[n,lo,hi] w fun e w'=>e = .returned (.bool false)/\w=w':=by
 have d:decide (n<lo)=false:=fQ (by omega);have h:decide (hi<n)=false:=fQ (by omega);go_enter Tryz.func20,Tryz.ntmps20;go_wp2;go_ret;exact⟨rfl,rfl⟩
theorem eC (n lo hi:Int) (h:n<lo\/hi<n) (w:World):ψ 20 #[n,lo,hi] w fun e w'=>e = .returned (.bool true)/\w=w':=by
 by_cases d:n<lo
 · clear h;go_enter Tryz.func20,Tryz.ntmps20;go_wp2;go_ret;exact⟨rfl,rfl⟩
 · have i:decide (n<lo)=false:=fQ d;have j:decide (hi<n)=true:=t7 (by omega);clear h;go_enter Tryz.func20,Tryz.ntmps20;go_wp2;go_ret;exact⟨rfl,rfl⟩
def Bx (l:List UInt8) (lo hi k:Nat):Prop:=(if k=1 then lo else 128)<=(l.getD k 0).toNat/\(l.getD k 0).toNat<=(if k=1 then hi else 191)
theorem Fr (n b1 b2 b3 m lo hi:Nat) (h:n<m+1):checkN n b1 b2 b3 (m+1) lo hi=none:=by
 unfold checkN
 repeat' split
 all_goals first | rfl | omega
theorem J7 (l:List UInt8) (n m lo hi k:Nat) (d:m=1\/m=2\/m=3) (f:1<=k) (i:k<=m) (h:¬ Bx l lo hi k) :
 checkN n (l.getD 1 0).toNat (l.getD 2 0).toNat (l.getD 3 0).toNat (m+1) lo hi=none:=by
 unfold Bx at h;unfold checkN;rcases d with rfl | rfl | rfl
 all_goals (have:k=1\/k=2\/k=3:=by omega)
 all_goals rcases this with rfl | rfl | rfl
 all_goals simp at h |-
 all_goals omega
theorem Mz (l:List UInt8) (n m lo hi:Nat) (j:m=1\/m=2\/m=3) (p:m+1<=n) (h:∀ k,1<=k->k<=m->Bx l lo hi k) :
 checkN n (l.getD 1 0).toNat (l.getD 2 0).toNat (l.getD 3 0).toNat (m+1) lo hi=some (m+1):=by
 have d:=h 1;have f:=h 2;have i:=h 3;unfold Bx at d f i;unfold checkN;rcases j with rfl | rfl | rfl
 all_goals simp at d f i |-
 all_goals omega
def jU (c:Nat):Option (Nat × Nat × Nat):=
 if c<194 then none
 else if c<=223 then some (1,128,191)
 else if c<=239 then some (2,if c=224 then 160 else 128,if c=237 then 159 else 191)
 else if c<=244 then some (3,if c=240 then 144 else 128,if c=244 then 143 else 191)
 else none
def G4 (c:Nat):Bool:=match jU c with
 | none=>decide (firstT c % 8≠2/\firstT c % 8≠3/\firstT c % 8≠4)
 | some (m,f,d)=>decide (firstT c % 8=m+1/\accLo (firstT c / 16)=f/\accHi (firstT c / 16)=d)
theorem Fs:∀ c:Fin 256,128<=c.val->G4 c.val=true:=by decide +kernel
theorem Ft (l:List UInt8) (i:l≠[]) (f:128<=(l.getD 0 0).toNat) (h:jU (l.getD 0 0).toNat=none):validD l=false:=by
 have d:=Fs ⟨(l.getD 0 0).toNat,(l.getD 0 0).toNat_lt⟩ f;simp only [G4,h,decide_eq_true_eq] at d;rw [validD_lead l i f];unfold checkN;rw [if_neg d.1,if_neg d.2.1,if_neg d.2.2]
theorem tL (l:List UInt8) (i:l≠[]) (f:128<=(l.getD 0 0).toNat) {m lo hi:Nat} (h:jU (l.getD 0 0).toNat=some (m,lo,hi)) :
 validD l=match checkN l.length (l.getD 1 0).toNat (l.getD 2 0).toNat (l.getD 3 0).toNat (m+1) lo hi with
  | none=>false
  | some k=>validD (l.drop k):=by
 have d:=Fs ⟨(l.getD 0 0).toNat,(l.getD 0 0).toNat_lt⟩ f;simp only [G4,h,decide_eq_true_eq] at d;rw [validD_lead l i f,d.1,d.2.1,d.2.2];rfl
theorem yO {c m lo hi:Nat} (h:jU c=some (m,lo,hi)):m=1\/m=2\/m=3:=by
 unfold jU at h
 repeat' split at h
 all_goals simp at h
 all_goals omega
theorem Dy (l:List UInt8) (f:l≠[]) (d:128<=(l.getD 0 0).toNat) {m lo hi:Nat} (h:jU (l.getD 0 0).toNat=some (m,lo,hi)) (i:l.length<m+1):validD l=false:=by
 rw [tL l f d h,Fr _ _ _ _ _ _ _ i]
theorem G5 (l:List UInt8) (p:l≠[]) (d:128<=(l.getD 0 0).toNat) {m lo hi:Nat} (h:jU (l.getD 0 0).toNat=some (m,lo,hi)) (k:Nat) (f:1<=k) (j:k<=m) (i:¬ Bx l lo hi k):validD l=false:=by
 rw [tL l p d h,J7 l _ m lo hi k (yO h) f j i]
theorem J8 (l:List UInt8) (i:l≠[]) (d:128<=(l.getD 0 0).toNat) {m lo hi:Nat} (h:jU (l.getD 0 0).toNat=some (m,lo,hi)) (j:m+1<=l.length) (f:∀ k,1<=k->k<=m->Bx l lo hi k):validD l=validD (l.drop (m+1)):=by
 rw [tL l i d h,Mz l _ m lo hi (yO h) j f]
structure Cls (l:List UInt8) (m lo hi:Nat):Prop where
 le:m<=3
 short:l.length<m+1->validD l=false
 bad:∀ k,1<=k->k<=m->¬ Bx l lo hi k->validD l=false
 ok:m+1<=l.length->(∀ k,1<=k->k<=m->Bx l lo hi k)->validD l=validD (l.drop (m+1))
theorem Cls.of {l:List UInt8} {c m lo hi:Nat} (f:l≠[]) (i:(l.getD 0 0).toNat=c) (d:128<=c) (h:jU c=some (m,lo,hi)):Cls l m lo hi:=by
 subst i;exact⟨by have:=yO h; omega,Dy l f d h,G5 l f d h,J8 l f d h⟩
theorem Cls.ascii {l:List UInt8} {c:Nat} (i:l≠[]) (f:(l.getD 0 0).toNat=c) (d:c<128):Cls l 0 128 191:=by
 subst f
 match l,i with
 | b :: r,_=>
  exact⟨by omega,fun h=>by simp at h,fun k j m=>by omega,fun _ _=>validD_cons b r (by simpa using d)⟩
theorem Dt {l:List UInt8} {c:Nat} (i:l≠[]) (f:(l.getD 0 0).toNat=c) (d:128<=c) (h:jU c=none):validD l=false:=by
 subst f; exact Ft l i d h
def mT (lo j:Nat):Nat:=if j=1 then lo else 128
def jD (hi j:Nat):Nat:=if j=1 then hi else 191
theorem rT {l:List UInt8} {lo hi d k:Nat} (h:(l.getD k 0).toNat=d):Bx l lo hi k↔mT lo k<=d/\d<=jD hi k:=by unfold Bx mT jD; subst h; rfl
theorem qK {s:ByteArray} {k:Nat} (h:k<s.size):s.data.toList.take (k+1)=s.data.toList.take k ++ [s[k]]:=by
 rw [List.take_succ_eq_append_getElem (by simpa using h)]; rfl
theorem tO {s:ByteArray} {a k e:Nat} (h:rdNum s=(a,k,e)) (w:World) (j:s.size<=9223372036854775807) :
 ψ 70 #[s] w fun x w'=>x = .returned (.tuple #[.int .u64 (a:Int),(k:Int),(e:Int)])/\w=w':=
 (My s w j).mono fun _ _ ⟨d,i⟩=>⟨by rw [d,GR h],i⟩
section
variable {w:World} {g:Nat} {t:TypeId} {l r:List Value} {a0 a1 a2 a3 a4 a5 a6 a7 a8 a9 b0 b1 b2 b3:Value}
theorem Blk.g0 (w:World) (g:Nat):w.grownBy w (some g):=⟨rfl,rfl,rfl,lQ,fun _ _ _=>rfl⟩
theorem Blk.ci (h:Blk w g t (List.toArray l)) (i:Nat):w.cell? ⟨g,i,none⟩=l[i]?:=by rw [h.cell i]; simp
theorem Blk.c2 (h:Blk w g t (List.toArray (a0 :: a1 :: r))):ζ w g 0 a0/\ζ w g 1 a1:=⟨h.ci 0,h.ci 1⟩
theorem Blk.c4 (h:Blk w g t (List.toArray (a0 :: a1 :: a2 :: a3 :: r))):ζ w g 0 a0/\ζ w g 1 a1/\ζ w g 2 a2/\ζ w g 3 a3:=⟨h.ci 0,h.ci 1,h.ci 2,h.ci 3⟩
theorem Blk.c5 (h:Blk w g t (List.toArray (a0 :: a1 :: a2 :: a3 :: a4 :: r))):ζ w g 0 a0/\ζ w g 1 a1/\ζ w g 2 a2/\ζ w g 3 a3/\ζ w g 4 a4:=⟨h.ci 0,h.ci 1,h.ci 2,h.ci 3,h.ci 4⟩
theorem Blk.c8 (h:Blk w g t (List.toArray (a0 :: a1 :: a2 :: a3 :: a4 :: a5 :: a6 :: a7 :: r))):ζ w g 0 a0/\ζ w g 1 a1/\ζ w g 2 a2/\ζ w g 3 a3/\ζ w g 4 a4/\ζ w g 5 a5/\ζ w g 6 a6/\ζ w g 7 a7:=⟨h.ci 0,h.ci 1,h.ci 2,h.ci 3,h.ci 4,h.ci 5,h.ci 6,h.ci 7⟩
theorem Blk.c14 (h:Blk w g t (List.toArray (a0 :: a1 :: a2 :: a3 :: a4 :: a5 :: a6 :: a7 :: a8 :: a9 :: b0 :: b1 :: b2 :: b3 :: r))):ζ w g 0 a0/\ζ w g 1 a1/\ζ w g 2 a2/\ζ w g 3 a3/\ζ w g 4 a4/\ζ w g 5 a5/\ζ w g 6 a6/\ζ w g 7 a7 /\
 ζ w g 8 a8/\ζ w g 9 a9/\ζ w g 10 b0/\ζ w g 11 b1/\ζ w g 12 b2/\ζ w g 13 b3:=⟨h.ci 0,h.ci 1,h.ci 2,h.ci 3,h.ci 4,h.ci 5,h.ci 6,h.ci 7,h.ci 8,h.ci 9,h.ci 10,h.ci 11,h.ci 12,h.ci 13⟩
theorem Blk.z2 (h:Blk w g t (List.toArray l)):κ w g 0/\κ w g 1:=⟨h.thaw 0,h.thaw 1⟩
theorem Blk.z4 (h:Blk w g t (List.toArray l)):κ w g 0/\κ w g 1/\κ w g 2/\κ w g 3:=⟨h.thaw 0,h.thaw 1,h.thaw 2,h.thaw 3⟩
theorem Blk.z8 (h:Blk w g t (List.toArray l)):κ w g 0/\κ w g 1/\κ w g 2/\κ w g 3/\κ w g 4/\κ w g 5/\κ w g 6/\κ w g 7:=⟨h.thaw 0,h.thaw 1,h.thaw 2,h.thaw 3,h.thaw 4,h.thaw 5,h.thaw 6,h.thaw 7⟩
theorem Blk.z14 (h:Blk w g t (List.toArray l)):κ w g 0/\κ w g 1/\κ w g 2/\κ w g 3/\κ w g 4/\κ w g 5/\κ w g 6/\κ w g 7/\κ w g 8/\κ w g 9/\κ w g 10/\κ w g 11/\κ w g 12/\κ w g 13:=⟨h.thaw 0,h.thaw 1,h.thaw 2,h.thaw 3,h.thaw 4,h.thaw 5,h.thaw 6,h.thaw 7,h.thaw 8,h.thaw 9,h.thaw 10,h.thaw 11,h.thaw 12,h.thaw 13⟩
theorem Blk.r4 (h:Blk w g t (List.toArray (a0 :: a1 :: a2 :: a3 :: r))):(∀ d f,ζ (Sort.grow (redrawn w d) f) g 0 a0)/\(∀ d f,ζ (Sort.grow (redrawn w d) f) g 1 a1)/\(∀ d f,ζ (Sort.grow (redrawn w d) f) g 2 a2)/\∀ d f,ζ (Sort.grow (redrawn w d) f) g 3 a3:=
 ⟨fun d f=>cell_regrown (h.ci 0) d f,fun d f=>cell_regrown (h.ci 1) d f,fun d f=>cell_regrown (h.ci 2) d f,fun d f=>cell_regrown (h.ci 3) d f⟩
theorem Blk.r5 (h:Blk w g t (List.toArray (a0 :: a1 :: a2 :: a3 :: a4 :: r))):(∀ d f,ζ (Sort.grow (redrawn w d) f) g 0 a0)/\(∀ d f,ζ (Sort.grow (redrawn w d) f) g 1 a1)/\(∀ d f,ζ (Sort.grow (redrawn w d) f) g 2 a2)/\(∀ d f,ζ (Sort.grow (redrawn w d) f) g 3 a3)/\∀ d f,ζ (Sort.grow (redrawn w d) f) g 4 a4:=
 ⟨fun d f=>cell_regrown (h.ci 0) d f,fun d f=>cell_regrown (h.ci 1) d f,fun d f=>cell_regrown (h.ci 2) d f,fun d f=>cell_regrown (h.ci 3) d f,fun d f=>cell_regrown (h.ci 4) d f⟩
theorem Blk.S2 (h:Blk w g t (List.toArray (a0 :: a1 :: r))) (d f:Value):Blk (sQ (sQ w g 0 d) g 1 f) g t (List.toArray (d :: f :: r))/\w.grownBy (sQ (sQ w g 0 d) g 1 f) (some g):=
 ⟨Blk.eq ((h.set 0 d).set 1 f) (by simp),aK (aK (Blk.g0 w g) 0 d) 1 f⟩
theorem Blk.S4 (j:Blk w g t (List.toArray (a0 :: a1 :: a2 :: a3 :: r))) (d f h i:Value):Blk (sQ (sQ (sQ (sQ w g 0 d) g 1 f) g 2 h) g 3 i) g t (List.toArray (d :: f :: h :: i :: r))/\w.grownBy (sQ (sQ (sQ (sQ w g 0 d) g 1 f) g 2 h) g 3 i) (some g):=
 ⟨Blk.eq ((((j.set 0 d).set 1 f).set 2 h).set 3 i) (by simp),aK (aK (aK (aK (Blk.g0 w g) 0 d) 1 f) 2 h) 3 i⟩
theorem Blk.S8 (v:Blk w g t (List.toArray (a0 :: a1 :: a2 :: a3 :: a4 :: a5 :: a6 :: a7 :: r))) (j m p q d f h i:Value):Blk (sQ (sQ (sQ (sQ (sQ (sQ (sQ (sQ w g 0 j) g 1 m) g 2 p) g 3 q) g 4 d) g 5 f) g 6 h) g 7 i) g t (List.toArray (j :: m :: p :: q :: d :: f :: h :: i :: r))/\w.grownBy (sQ (sQ (sQ (sQ (sQ (sQ (sQ (sQ w g 0 j) g 1 m) g 2 p) g 3 q) g 4 d) g 5 f) g 6 h) g 7 i) (some g):=by
 obtain⟨y,u⟩:=v.S4 j m p q;exact⟨Blk.eq ((((y.set 4 d).set 5 f).set 6 h).set 7 i) (by simp),aK (aK (aK (aK u 4 d) 5 f) 6 h) 7 i⟩
theorem rc3 {b o:Nat} (h:∀ j u,(a0 :: a1 :: a2 :: r)[j]? = some u->ζ w b (o+j) u):ζ w b o a0/\ζ w b (o+1) a1/\ζ w b (o+2) a2:=⟨h 0 _ rfl,h 1 _ rfl,h 2 _ rfl⟩
theorem rc5 {b o:Nat} (h:∀ j u,(a0 :: a1 :: a2 :: a3 :: a4 :: r)[j]? = some u->ζ w b (o+j) u):ζ w b o a0/\ζ w b (o+1) a1/\ζ w b (o+2) a2/\ζ w b (o+3) a3/\ζ w b (o+4) a4:=⟨h 0 _ rfl,h 1 _ rfl,h 2 _ rfl,h 3 _ rfl,h 4 _ rfl⟩
theorem rc14 {b o:Nat} (h:∀ j u,(a0 :: a1 :: a2 :: a3 :: a4 :: a5 :: a6 :: a7 :: a8 :: a9 :: b0 :: b1 :: b2 :: b3 :: r)[j]? = some u->ζ w b (o+j) u):ζ w b o a0/\ζ w b (o+1) a1/\ζ w b (o+2) a2/\ζ w b (o+3) a3/\ζ w b (o+4) a4/\ζ w b (o+5) a5/\ζ w b (o+6) a6/\ζ w b (o+7) a7 /\
 ζ w b (o+8) a8/\ζ w b (o+9) a9/\ζ w b (o+10) b0/\ζ w b (o+11) b1/\ζ w b (o+12) b2/\ζ w b (o+13) b3:=⟨h 0 _ rfl,h 1 _ rfl,h 2 _ rfl,h 3 _ rfl,h 4 _ rfl,h 5 _ rfl,h 6 _ rfl,h 7 _ rfl,h 8 _ rfl,h 9 _ rfl,h 10 _ rfl,h 11 _ rfl,h 12 _ rfl,h 13 _ rfl⟩
end
abbrev eS:Array Value:=#[.int .i64 0,.int .i64 0,.slice none 0 0,.slice none 0 0,.slice none 0 0,.slice none 0 0,.slice none 0 0,.slice none 0 0]
abbrev lI:Array Value:=#[.int .i64 0,.slice none 0 0,.slice none 0 0,.slice none 0 0]
def wD (x:Nat):Nat:=(x / 2) ^^^ (x % 2*3988292384)
def oh:Nat->Nat->Nat
 | 0,x=>x
 | n+1,x=>wD (oh n x)
theorem N3 {x:Nat} (h:x<4294967296):wD x<4294967296:=by
 unfold wD;exact Nat.xor_lt_two_pow (n:=32) (by omega) (by have:x % 2<2:=Nat.mod_lt _ (by omega); omega)
theorem wC {x:Nat} (h:x<4294967296):∀ n,oh n x<4294967296
 | 0=>h
 | n+1=>N3 (wC h n)
theorem MA (a b:Nat):(a ^^^ b) / 2=(a / 2) ^^^ (b / 2):=by
 have:=Nat.shiftRight_xor_distrib (a:=a) (b:=b) (i:=1);simpa [Nat.shiftRight_eq_div_pow] using this
theorem MB (a b:Nat):(a ^^^ b) % 2=(a % 2) ^^^ (b % 2):=by
 have:=Nat.xor_mod_two_pow (a:=a) (b:=b) (n:=1);simpa using this
theorem MC (a b:Nat):wD (a ^^^ b)=wD a ^^^ wD b:=by
 unfold wD;rw [MA,MB];have ha:a % 2=0\/a % 2=1:=by omega
 have d:b % 2=0\/b % 2=1:=by omega
 rcases ha with ha | ha <;> rcases d with d | d <;> rw [ha,d]
 · simp
 · simp [Nat.xor_assoc]
 · simp only [Nat.zero_xor,Nat.xor_zero,Nat.one_mul,Nat.zero_mul];rw [Nat.xor_assoc,Nat.xor_assoc,Nat.xor_comm (b / 2)]
 · simp only [Nat.xor_self,Nat.one_mul,Nat.zero_mul,Nat.xor_zero];rw [show a / 2 ^^^ 3988292384 ^^^ (b / 2 ^^^ 3988292384)=a / 2 ^^^ b / 2 ^^^ (3988292384 ^^^ 3988292384) from by ac_rfl];simp
theorem Fu (a b:Nat):∀ n,oh n (a ^^^ b)=oh n a ^^^ oh n b
 | 0=>rfl
 | n+1=>by rw [oh,Fu a b n,MC]; rfl
theorem CD:∀ n h,oh n (2 ^ n*h)=h
 | 0,h=>by simp [oh]
 | n+1,h=>by
  have e:2 ^ (n+1)*h=2 ^ n*(2*h):=by rw [Nat.pow_succ,Nat.mul_assoc]
  rw [oh,e,CD n (2*h)];unfold wD;simp
theorem J9 (y:Nat):oh 8 y=(y / 256) ^^^ oh 8 (y % 256):=by
 have e:y=(256*(y / 256)) ^^^ (y % 256):=by
  have j:=Nat.two_pow_add_eq_or_of_lt (i:=8) (b:=y % 256) (by omega) (y / 256)
  have p:2 ^ 8*(y / 256) &&& y % 256=0:=by
   apply Nat.eq_of_testBit_eq
   intro i;rw [Nat.testBit_and,Nat.zero_testBit,Nat.testBit_two_pow_mul];by_cases h:8<=i
   · have:(y % 256).testBit i=false:=Nat.testBit_lt_two_pow (uI (show y % 256<2 ^ 8 by omega) (Nat.pow_le_pow_right (by omega) h));simp [this]
   · simp [h]
  have q:(256*(y / 256)) ^^^ (y % 256)=256*(y / 256) ||| y % 256:=by
   apply Nat.eq_of_testBit_eq
   intro i;have f:=congrArg (fun z=>z.testBit i) p;simp only [Nat.testBit_and,Nat.zero_testBit] at f;rw [Nat.testBit_xor,Nat.testBit_or];have d:(256*(y / 256))=2 ^ 8*(y / 256):=rfl;rw [d]
   revert f
   cases (2 ^ 8*(y / 256)).testBit i <;> cases (y % 256).testBit i <;> simp
  rw [q];have d:(256*(y / 256))=2 ^ 8*(y / 256):=rfl;rw [d,<- j];omega
 have m:oh 8 (256*(y / 256))=y / 256:=CD 8 (y / 256)
 conv=>lhs; rw [e,Fu,m]
def MD (x c:Nat):Nat:=(x / 256) ^^^ oh 8 ((x % 256) ^^^ c)
theorem Ih {x c:Nat} (h:c<256):MD x c=oh 8 (x ^^^ c):=by
 rw [J9 (x ^^^ c)]
 have d:(x ^^^ c) / 256=x / 256:=by
  have:=Nat.shiftRight_xor_distrib (a:=x) (b:=c) (i:=8);simp only [Nat.shiftRight_eq_div_pow] at this;rw [show (256:Nat)=2 ^ 8 from rfl,this,show c / 2 ^ 8=0 from by omega,Nat.xor_zero]
 have f:(x ^^^ c) % 256=(x % 256) ^^^ c:=by
  have:=Nat.xor_mod_two_pow (a:=x) (b:=c) (n:=8);rw [show (256:Nat)=2 ^ 8 from rfl,this,show c % 2 ^ 8=c from by omega]
 rw [d,f]; rfl
theorem N4 {x c:Nat} (f:x<4294967296) (d:c<256):MD x c<4294967296:=by
 rw [Ih d];exact wC (Nat.xor_lt_two_pow (n:=32) f (by omega)) 8
def CX (l:List UInt8):Nat:=l.foldl (fun x c=>MD x c.toNat) 4294967295
theorem CY (l:List UInt8):CX l<4294967296:=by
 unfold CX
 have:∀ (l:List UInt8) (x:Nat),x<4294967296->l.foldl (fun x c=>MD x c.toNat) x<4294967296:=by
  intro l
  induction l with
  | nil=>intro x h; exact h
  | cons c l d=>intro x h; exact d _ (N4 h c.toNat_lt)
 exact this l _ (by omega)
def gR (l:List UInt8):Nat:=4294967295 - CX l
theorem BL (x:Nat) (i:x<4294967296):bits .xor .u32 ((x:Int) / 2) (bits .and .u32 (x:Int) 1*3988292384)=((wD x:Nat):Int)/\0<=bits .and .u32 (x:Int) 1/\bits .and .u32 (x:Int) 1<=1:=by
 have d:bits .and .u32 (x:Int) 1=((x % 2:Nat):Int):=by
  rw [show (1:Int)=((1:Nat):Int) from rfl,u32_and_nat x 1 i (by omega),nat_mask1]
 rw [d];refine⟨?_,by omega,by omega⟩;have f:((x % 2:Nat):Int)*3988292384=((x % 2*3988292384:Nat):Int):=by rw [Int.natCast_mul]; rfl
 have h:(x:Int) / 2=((x / 2:Nat):Int):=by omega
 rw [f,h,u32_xor_nat _ _ (by omega) (by have:x % 2<2:=Nat.mod_lt _ (by omega); omega)];rfl
theorem MW (x c:Nat) (d:c<256):bits .xor .u8 ((x:Int) % 256) (c:Int)=(((x % 256) ^^^ c:Nat):Int)/\(x % 256) ^^^ c<256:=by
 have e:(x:Int) % 256=((x % 256:Nat):Int):=by omega
 rw [e,u8_xor_nat _ _ (by omega) d];exact⟨rfl,Nat.xor_lt_two_pow (n:=8) (by omega) (by omega)⟩
theorem CZ (x y:Nat) (d:x<4294967296) (f:y<256):bits .xor .u32 ((x:Int) / 256) ((oh 8 y:Nat):Int)=((x / 256 ^^^ oh 8 y:Nat):Int):=by
 have e:(x:Int) / 256=((x / 256:Nat):Int):=by omega
 rw [e,u32_xor_nat _ _ (by omega) (wC (by omega) 8)]
theorem B0 (l:List UInt8) (c:UInt8):CX (l ++ [c])=MD (CX l) c.toNat:=by simp [CX]
theorem BG (a:Nat) (h:a<4294967296):a ^^^ 4294967295=4294967295 - a:=by
 have e:BitVec.ofNat 32 a ^^^ BitVec.allOnes 32 = ~~~ BitVec.ofNat 32 a:=BitVec.xor_allOnes;have d:=congrArg BitVec.toNat e;simp only [BitVec.toNat_xor,BitVec.toNat_not,BitVec.toNat_ofNat,BitVec.toNat_allOnes] at d;rw [Nat.mod_eq_of_lt (by omega)] at d;simpa using d
theorem MX (x:Nat) (d:x<4294967296):bits .xor .u32 IntKind.u32.max (x:Int)=((4294967295 - x:Nat):Int):=by
 have e:IntKind.u32.max=((4294967295:Nat):Int):=rfl;rw [e,u32_xor_nat _ _ (by omega) d,Nat.xor_comm,BG x d]
theorem Jb {n:Nat} (h:n % 2=0):(n:Int) / 2=((wD n:Nat):Int):=by
 unfold wD; rw [h]; simp
theorem KL {n:Nat} (d:n<4294967296) (h:n % 2=1):bits .xor .u32 ((n:Int) / 2) 3988292384=((wD n:Nat):Int):=by
 have e:(n:Int) / 2=((n / 2:Nat):Int):=by omega
 rw [e,show (3988292384:Int)=((3988292384:Nat):Int) from rfl,u32_xor_nat _ _ (by omega) (by omega)];unfold wD; rw [h]
def pC (l:List UInt8):List UInt8:=[UInt8.ofNat (gR l / 16777216),UInt8.ofNat (gR l / 65536),UInt8.ofNat (gR l / 256),UInt8.ofNat (gR l)]
theorem B2 (l:List UInt8):gR l<4294967296:=by unfold gR; omega
def BJ (v k:Nat) (p:List UInt8):List UInt8:=[66,75,UInt8.ofNat v,UInt8.ofNat k] ++ bf p.length ++ p
def pR (v k:Nat) (p:List UInt8):List UInt8:=BJ v k p ++ pC (BJ v k p)
theorem DW (v k:Nat) (p:List UInt8):(BJ v k p).length<=p.length+15:=by
 have:=dR p.length;simp [BJ]; omega
theorem Mk (n:Int) (i:0<=n) (j:n<18446744073709551616) (w:World) :
 ψ 91 #[.int .u64 n] w fun e w'=>e = .returned (.int .i64 (lA n))/\w=w':=by
 by_cases e:n % 2=0
 · have d:=ω (show lA n=n / 2 from by unfold lA; rw [if_pos e]);have h:(n % 2 == 0)=true:=by rw [e]; rfl
   clear e;go_enter Tryz.func91,Tryz.ntmps91;go_wp2;go_ret;exact⟨aX d.symm,rfl⟩
 · have d:=ω (show lA n = -(n / 2) - 1 from by unfold lA; rw [if_neg e]);have h:(n % 2 == 0)=false:=by rw [beq_eq_false_iff_ne]; exact e
   clear e;go_enter Tryz.func91,Tryz.ntmps91;go_wp2;go_ret;exact⟨aX d.symm,rfl⟩
end Go.Proofs.YtimglglgcgpjgabGreatDoor
