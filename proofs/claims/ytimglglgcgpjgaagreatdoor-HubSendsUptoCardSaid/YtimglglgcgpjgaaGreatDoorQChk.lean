/- Of the proof of a statement: Kit, Mem, Push, Recs, Blk, Pl, PlNum, PlRead, PlRdF, PlChk, Tabs, Chk, Put, Read, Outside, PlUtf, RTab, PlSum. -/
import Derived.Test.YtimglglgcgpjgaaGreatDoorQTg
import Derived.Lib.Hide
import Derived.Test.YtimglglgcgpjgaaGreatDoorRows
import Derived.WalkKit
import Derived.Lib.Hide
import Derived.WalkSpells
import Derived.WalkLawsBesides
import Derived.Laws.OwnMore
import Derived.Laws.Rows
import Derived.Outline
import Derived.Maps.AppendAt
import Derived.Laws.IdiomStrings
import Derived.Lib.BufferRead
import Derived.Deep.AppendLies
import Derived.Laws.BitsAllLaws
import Derived.Below
import Derived.Laws.Bits64b
import Derived.Lib.ValidLaws
import Derived.Shelf.Unicode.ValidAny
import Derived.Lib.LaidU8T
import Derived.Orders
set_option linter.unusedVariables false
set_option linter.unusedSimpArgs false
set_option maxRecDepth 100000
set_option maxHeartbeats 8000000
namespace Go.Proofs.YtimglglgcgpjgaaGreatDoor
open Go.RowKit
open Go.Lib (validD)
open Go.RowKit Go.Shelf Go.Lib
open Go.Lib
theorem aY {k:IntKind} {a b:Int} (h:a=b):Ending.returned (.int k a) = .returned (.int k b):=by rw [h]
theorem bB {a b:Bool} (h:a=b):Ending.returned (.bool a) = .returned (.bool b):=by rw [h]
theorem kS {a b:ByteArray} (h:a=b):Ending.returned (.string a) = .returned (.string b):=by rw [h]
def jh (w:World) (b off:Nat) (xs:List Value):Prop:=∀ j u,xs[j]? = some u->ζ w b (off+j) u
structure bC (w:World) (B sz:Nat) (A:Option Addr) (n:Nat) (xs:List Value):Prop where
 len:xs.length=n*sz
 at_:0<n->∃ b off,A=some ⟨b,off,none⟩/\b<B/\jh w b off xs
section
variable {w w':World} {B B' b off sz n:Nat} {A:Option Addr} {xs:List Value}
theorem jh.cell {j:Nat} {u:Value} (h:jh w b off xs) (d:xs[j]? = some u):ζ w b (off+j) u:=h j u d
theorem jh.below (h:jh w b off xs) (e:Below B w w') (d:b<B):jh w' b off xs:=fun j u f=>(e.cell (p:=⟨b,off+j,none⟩) d).trans (h j u f)
theorem jh.drop (h:jh w b off xs) (k:Nat):jh w b (off+k) (xs.drop k):=fun j u d=>by
 rw [Nat.add_assoc]; exact h (k+j) u (by rw [<- d,List.getElem?_drop])
theorem jh.take (h:jh w b off xs) (k:Nat):jh w b off (xs.take k):=fun j u d=>h j u (by
 rw [List.getElem?_take] at d; split at d
 · exact d
 · cases d)
theorem bC.below (h:bC w B sz A n xs) (f:Below B w w'):bC w' B sz A n xs:=
 ⟨h.len,fun i=>by obtain⟨b,off,e,d,j⟩:=h.at_ i; exact⟨b,off,e,d,j.below f d⟩⟩
theorem bC.more (h:bC w B sz A n xs) (i:B<=B'):bC w B' sz A n xs:=
 ⟨h.len,fun d=>by obtain⟨b,off,e,j,f⟩:=h.at_ d; exact⟨b,off,e,by omega,f⟩⟩
theorem bC.nil:bC w B sz A 0 []:=⟨by simp,fun h=>absurd h (by omega)⟩
theorem bC.cell (h:bC w B sz A n xs) {j:Nat} (l:j<n*sz):∃ b off u,A=some ⟨b,off,none⟩/\b<B/\xs[j]? = some u/\ζ w b (off+j) u:=by
 have m:0<n:=by
  rcases Nat.eq_zero_or_pos n with d | d
  · subst d; omega
  · exact d
 obtain⟨b,off,f,i,p⟩:=h.at_ m;have e:j<xs.length:=by rw [h.len]; exact l
 exact⟨b,off,xs[j],f,i,gO e,p j _ (gO e)⟩
theorem jh.new (w:World) (t:TypeId) (cs:Array Value):jh (χ w cs t) w 0 cs.toList:=fun j u d=>by
 rw [cell_of_row (χ w cs t) w (0+j) cs t (0,0) (heap_alloc_new w _),Nat.zero_add];simpa using d
theorem bC.new (w:World) (t:TypeId) (cs:Array Value) (h:cs.size=n*sz):bC (χ w cs t) (w.heap.size+1) sz (some ⟨w,0,none⟩) n cs.toList:=
 ⟨by simpa using h,fun _=>⟨_,_,rfl,by omega,jh.new w t cs⟩⟩
theorem bC.alloc (h:bC w B sz A n xs) (d:B<=w.heap.size) (o:Obj):bC (w.alloc o) B sz A n xs:=h.below ((Below.refl B w).alloc d o)
theorem bC.drew (h:bC w B sz A n xs):bC w.drew B sz A n xs:=⟨h.len,h.at_⟩
theorem jh.drew (h:jh w b off xs):jh w.drew b off xs:=h
end
theorem dD {B:Nat} {W d:World} (e:Below B W d):(∀ b o,b<B->d.cell? ⟨b,o,none⟩=W.cell? ⟨b,o,none⟩)/\(∀ b o,b<B->d.frozen? ⟨b,o,none⟩=W.frozen? ⟨b,o,none⟩):=
 ⟨fun b o h=>e.cell (p:=⟨b,o,none⟩) h,fun b o h=>e.frozen (p:=⟨b,o,none⟩) h⟩
structure cY (w w':World) (v v':Value):Prop where
 grown:w.grownBy w' v.ownBlock
 own:v'.ownBlock=v.ownBlock\/∃ g,v'.ownBlock=some g/\w.heap.size<=g
theorem cY.refl (w:World) (v:Value):cY w w v v:=⟨World.grownBy.refl w _,.inl rfl⟩
theorem cY.trans {a b c:World} {u v x:Value} (h:cY a b u v) (k:cY b c v x):cY a c u x:=by
 refine⟨⟨k.grown.os.trans h.grown.os,k.grown.tape.trans h.grown.tape,k.grown.output.trans h.grown.output,v6 h.grown.size k.grown.size,fun l i j=>?_⟩,?_⟩
 · refine (k.grown.block l (u7 i h.grown.size) ?_).trans (h.grown.block l i j);rcases h.own with e | ⟨g,e,f⟩
   · rw [e]; exact j
   · rw [e]; intro d; injection d with d; omega
 · rcases k.own with e | ⟨g,e,f⟩
   · rw [e]; exact h.own
   · exact .inr ⟨g,e,v6 h.grown.size f⟩
theorem cY.below {w w':World} {v v':Value} {B:Nat} (h:cY w w' v v') (f:B<=w.heap.size) (d:∀ g,v.ownBlock=some g->B<=g):Below B w w':=
 ⟨h.grown.os,h.grown.tape,h.grown.output,h.grown.size,fun k i=>h.grown.block k (by omega) (fun e=>by have:=d k e.symm; omega)⟩
section
variable {P:Program} {w:World} {ops:Array Oper} {rest:List Oper} {o:Oper} {a:Act} {Q:Exit->Act->World->Prop}
theorem yW (E:o.guard=none) (s x:Operand) (t:TypeId)
 (I:o.op = .call { callee:=.builtin .append,args:=#[s,x],argTypes:=#[t,t] })
 (base:Nat) (e:TypeId) (i:TypeInfo) (z:Value) (d l:Nat) (O:P.underlying t=some (.slice e)) (hi:P.info? e=some i) (T:i.zero=some z)
 (M:i.size=d) (C:i.bytes=l) (U:z.cells.size=d) (N:0<d)
 (v:Value) (n:Nat) (xs:List Value) (L:a.eval s=v) (J:w.ownsRow base e d v n xs)
 (cs:Array Value) (k:Nat) (j:0<k) (S:a.eval x = .slice (some ⟨w,0,none⟩) k k) (G:cs.size=k*d) (r:∀ u ∈ cs.toList,u.oneCell'=true)
 (y:n+k<=maxLen) (D:(n+k)*l<=140737488355328) (Y:base<=w.heap.size)
 (q:∀ v' w',w'.ownsRow base e d v' (n+k) (xs ++ cs.toList)->w.grownBy w' v.ownBlock->(v'.ownBlock=v.ownBlock\/∃ g,v'.ownBlock=some g/\w.heap.size<=g)->v' ≠ .slice none 0 0->wpList P ops Q rest (a.put o.dst v') w') :
 wpList P ops Q (o :: rest) a (χ w cs e):=by
 have K:=jh.new w e cs
 refine wpList_append_own_at _ E s x t I base e i z d l O hi T M C U N v n xs L (J.alloc _) ⟨w,0,none⟩ k k cs.toList S (by simpa using G)
  (fun W u R=>?_) r y D (by simp; omega) (fun v' w' X f H h=>q v' w' X ?_ ?_ ?_)
 · have:=K W u R;unfold Addr.add
   split
   · rename_i F; subst F; simpa using this
   · simpa using this
 · have g0:w.grownBy (χ w cs e) v.ownBlock:=⟨rfl,rfl,rfl,by simp,fun k j _=>Below.heap_alloc _ _ _ j⟩;exact⟨f.os.trans g0.os,f.tape.trans g0.tape,f.output.trans g0.output,v6 g0.size f.size,fun k j m=>(f.block k (by simp; omega) m).trans (g0.block k j m)⟩
 · rcases h with h | h
   · exact .inl h
   · exact .inr ⟨_,h,by simp⟩
 · intro p;have:=(H.1 p).2;omega
end
def bK (l:List UInt8):List Value:=l.map fun c=>.int .u8 (c.toNat:Int)
theorem iA (l k:List UInt8):bK (l ++ k)=bK l ++ bK k:=by simp [bK]
theorem fF (l:List UInt8):(bK l).length=l.length:=by simp [bK]
section
variable {w:World} {ops:Array Oper} {rest:List Oper} {o:Oper} {a:Act} {Q:Exit->Act->World->Prop}
theorem Tryz.infoU8:(Tryz.prog.info? 5).map (fun i=>(i.zero,i.size,i.bytes))=some (some (.int .u8 0),1,1):=by kernel_rfl
theorem Fq (y:o.guard=none) (s x:Operand) (D:o.op = .call { callee:=.builtin .append,args:=#[s,x],argTypes:=#[55,55] })
 (base:Nat) (A:Option Addr) (m c:Nat) (l:List UInt8) (F:a.eval s = .slice A m c) (E:w.ownsRow base 5 1 (.slice A m c) m (bK l))
 (cs:Array Value) (k:Nat) (C:0<k) (b:List UInt8) (f:cs.toList=bK b) (v:b.length=k) (H:a.eval x = .slice (some ⟨w,0,none⟩) k k) (S:m+k<=140737488355328) (u:base<=w.heap.size)
 (r:∀ d e w',w'.ownsRow base 5 1 (.slice d (m+k) e) (m+k) (bK (l ++ b))->cY w w' (.slice A m c) (.slice d (m+k) e)->wpList Tryz.prog ops Q rest (a.put o.dst (.slice d (m+k) e)) w') :
 wpList Tryz.prog ops Q (o :: rest) a (χ w cs 5):=by
 obtain⟨L,z,I,J,K⟩:=info_parts Tryz.infoU8;have R:cs.size=k:=by rw [<- Array.length_toList,f,fF,v]
 refine yW y s x 55 D base 5 L (.int .u8 0) 1 1 Tryz.underlying55 z I J K rfl (by decide) _ m _ F E cs k C H (by omega) (fun T i=>?_) (by unfold maxLen; omega) (by omega) u (fun U w' h q j _=>?_)
 · rw [f] at i;obtain⟨c,_,rfl⟩:=List.mem_map.1 i;rfl
 · have p:bK l ++ cs.toList=bK (l ++ b):=by rw [f,iA]
   rw [p] at h;rcases h.2 with ⟨_,O⟩ | ⟨g,M,N,G,_⟩
   · omega
   · subst G;exact r _ _ _ h ⟨q,j⟩
theorem GX (i:o.guard=none) (s x:Operand) (p:o.op = .call { callee:=.builtin .append,args:=#[s,x],argTypes:=#[55,55] })
 (base:Nat) (A:Option Addr) (m c:Nat) (l:List UInt8) (r:a.eval s = .slice A m c) (q:w.ownsRow base 5 1 (.slice A m c) m (bK l))
 (u:Int) (b:UInt8) (v:u=(b.toNat:Int)) (y:a.eval x = .slice (some ⟨w,0,none⟩) 1 1) (j:m+1<=140737488355328) (f:base<=w.heap.size)
 (h:∀ d e w',w'.ownsRow base 5 1 (.slice d (m+1) e) (m+1) (bK (l ++ [b]))->cY w w' (.slice A m c) (.slice d (m+1) e)->wpList Tryz.prog ops Q rest (a.put o.dst (.slice d (m+1) e)) w') :
 wpList Tryz.prog ops Q (o :: rest) a (χ w #[.int .u8 u] 5):=
 Fq i s x p base A m c l r q #[.int .u8 u] 1 (by decide) [b] (by subst v; rfl) rfl y j f h
end
theorem iS {P:Program} {w:World} {base:Nat} {f d e:TypeId} {A:Option Addr} {n c:Nat} {l:List UInt8} (t:P.underlying f=some (.slice e)) (q:P.underlying e=some (.int .u8)) (p:P.underlying d=some .string)
 (i:w.ownsRow base e 1 (.slice A n c) n (bK l)):(convert f d (.slice A n c)).run P w = .ok (.string ⟨l.toArray⟩) w:=by
 have r:l.length=n:=by have:=i.1; simpa [bK] using this
 rcases i.2 with ⟨u,E⟩ | ⟨g,C,D,y,_⟩
 · injection u with h j m;subst h; subst j; subst m;have x:l=[]:=List.eq_nil_of_length_eq_zero r;subst x;exact Lib.run_convert_nil_bytes w f d e 0 t q p
 · injection y with h j m;subst h;subst r;refine run_convert_bytes_back w f d e ⟨g,0,none⟩ c l t q p (fun z v=>?_);exact i.cells (g:=g) rfl z _ (by simp [bK,v])
theorem sA {P:Program} {w:World} {f d e:TypeId} {b off n c:Nat} {l:List UInt8} (u:P.underlying f=some (.slice e)) (p:P.underlying e=some (.int .u8)) (m:P.underlying d=some .string)
 (t:jh w b off (bK l)) (r:l.length=n):(convert f d (.slice (some ⟨b,off,none⟩) n c)).run P w = .ok (.string ⟨l.toArray⟩) w:=by
 subst r;refine run_convert_bytes_back w f d e ⟨b,off,none⟩ c l u p m (fun j q=>?_);have h:=t j _ (show (bK l)[j]? = some (.int .u8 (l[j].toNat:Int)) by simp [bK,q]);unfold Addr.add
 split
 · rename_i i; subst i; simpa using h
 · exact h
theorem sB {P:Program} {w:World} {f d e:TypeId} {n c:Nat} {cs:Array Value} {l:List UInt8} (p:P.underlying f=some (.slice e)) (i:P.underlying e=some (.int .u8)) (h:P.underlying d=some .string)
 (j:cs.toList=bK l) (m:l.length=n):(convert f d (.slice (some ⟨w,0,none⟩) n c)).run P (χ w cs e) = .ok (.string ⟨l.toArray⟩) (χ w cs e):=
 sA p i h (by rw [<- j]; exact jh.new w e cs) m
theorem Pv {a b:UInt8} (W:World) (g:Nat) (e:ζ W g 0 (.int .u8 (a.toNat:Int))) (f:ζ W g 1 (.int .u8 (b.toNat:Int))) :
 (convert 55 9 (.slice (some ⟨g,0,none⟩) 2 2)).run Tryz.prog W = .ok (.string ⟨#[a,b]⟩) W:=
 sA (l:=[a,b]) Tryz.underlying55 Tryz.underlying5 Tryz.underlying9 (fun j u d=>by
  match j,d with
  | 0,d=>simp [bK] at d; subst d; simpa using e
  | 1,d=>simp [bK] at d; subst d; simpa using f) rfl
def au {α:Type} (enc:α->List Value) (l:List α):List Value:=l.flatMap enc
section
variable {α:Type} {enc:α->List Value} {sz:Nat}
theorem dw (l k:List α):au enc (l ++ k)=au enc l ++ au enc k:=List.flatMap_append
theorem BU (a:α):au enc [a]=enc a:=by simp [au]
theorem jo (h:∀ a,(enc a).length=sz):∀ l:List α,(au enc l).length=l.length*sz
 | []=>by simp [au]
 | a :: l=>by
  have:=jo h l;unfold au at this |-;rw [List.flatMap_cons,List.length_append,this,h,List.length_cons,Nat.add_mul]; omega
theorem tS (h:∀ a,(enc a).length=sz):∀ (l:List α) (i j:Nat) (a:α),l[i]? = some a->j<sz->(au enc l)[i*sz+j]? = (enc a)[j]?
 | [],i,j,a,d,_=>by simp at d
 | b :: l,0,j,a,d,e=>by
  simp only [List.getElem?_cons_zero,Option.some.injEq] at d;subst d;unfold au;rw [List.flatMap_cons,Nat.zero_mul,Nat.zero_add,List.getElem?_append_left (by rw [h]; exact e)]
 | b :: l,i+1,j,a,d,e=>by
  have:=tS h l i j a (by simpa using d) e;unfold au at this |-;rw [List.flatMap_cons,List.getElem?_append_right (by rw [h,Nat.add_mul]; omega),h,show (i+1)*sz+j - sz=i*sz+j from by rw [Nat.add_mul]; omega];exact this
theorem bC.eC {w:World} {B n:Nat} {A:Option Addr} {l:List α} (f:∀ a,(enc a).length=sz) (m:bC w B sz A n (au enc l)) (r:l.length=n) {i:Nat} {a:α} (hi:l[i]? = some a) :
 ∃ b off,A=some ⟨b,off,none⟩/\b<B/\∀ j u,(enc a)[j]? = some u->ζ w b (off+i*sz+j) u:=by
 have v:i<n:=by
  rw [<- r];rcases Nat.lt_or_ge i l.length with d | d
  · exact d
  · rw [List.getElem?_eq_none d] at hi; cases hi
 obtain⟨b,off,h,p,t⟩:=m.at_ (by omega);refine⟨b,off,h,p,fun j u e=>?_⟩;rw [Nat.add_assoc];refine t _ _ ?_
 have q:j<sz:=by
  rw [<- f a];rcases Nat.lt_or_ge j (enc a).length with d | d
  · exact d
  · rw [List.getElem?_eq_none d] at e; cases e
 rw [tS f l i j a hi q]; exact e
end
theorem cS {w:World} {base:Nat} {e:TypeId} {sz n c:Nat} {A:Option Addr} {xs:List Value} (h:w.ownsRow base e sz (.slice A n c) n xs):bC w w sz A n xs:=
 ⟨h.1,fun q=>by
  obtain⟨g,t,r,u,m⟩:=h.form q;injection r with i _ l;subst i; subst l;refine⟨g,0,rfl,m,fun j v f=>?_⟩
  have p:j<n*sz:=by
   rw [<- h.1];rcases Nat.lt_or_ge j xs.length with d | d
   · exact d
   · rw [List.getElem?_eq_none d] at f; cases f
  rw [Nat.zero_add,h.cellAt j p]; exact f⟩
section
variable {P:Program} {w:World} {ops:Array Oper} {rest:List Oper} {o:Oper} {a:Act} {Q:Exit->Act->World->Prop}
theorem cI {α:Type} (enc:α->List Value) (J:o.guard=none) (s x:Operand) (t e:TypeId) (z:Value) (sz f:Nat) (N:o.op = .call { callee:=.builtin .append,args:=#[s,x],argTypes:=#[t,t] })
 (T:P.underlying t=some (.slice e)) (L:(P.info? e).map (fun j=>(j.zero,j.size,j.bytes))=some (some z,sz,f)) (aa:z.cells.size=sz) (S:0<sz)
 (H:∀ a,(enc a).length=sz) (D:∀ a,∀ u ∈ enc a,u.oneCell'=true)
 (base:Nat) (A:Option Addr) (m c:Nat) (l:List α) (R:a.eval s = .slice A m c) (O:w.ownsRow base e sz (.slice A m c) m (au enc l))
 (cs:Array Value) (b:α) (i:cs.toList=enc b) (g:Nat) (I:w.heap.size=g) (W:a.eval x = .slice (some ⟨g,0,none⟩) 1 1) (M:(m+1)*f<=140737488355328) (E:m+1<=maxLen) (F:base<=w.heap.size)
 (C:∀ d h w',w'.ownsRow base e sz (.slice d (m+1) h) (m+1) (au enc (l ++ [b]))->cY w w' (.slice A m c) (.slice d (m+1) h)->wpList P ops Q rest (a.put o.dst (.slice d (m+1) h)) w') :
 wpList P ops Q (o :: rest) a (χ w cs e):=by
 subst I;obtain⟨i0,K,X,Y,Z⟩:=info_parts L;have G:cs.size=1*sz:=by rw [<- Array.length_toList,i,H,Nat.one_mul]
 refine yW J s x t N base e i0 z sz f T K X Y Z aa S _ m _ R O cs 1 (by omega) W G (fun u q=>?_) E M F (fun v' w' p y r _=>?_)
 · rw [i] at q;exact D _ _ q
 · have v:au enc l ++ cs.toList=au enc (l ++ [b]):=by rw [i,dw,BU]
   rw [v] at p;obtain⟨g,ab,U,_⟩:=p.form (by omega);subst U;exact C _ _ _ p ⟨y,r⟩
end
def Blk (w:World) (g:Nat) (t:TypeId) (cs:Array Value):Prop:=w.heap[g]? = some (.cells cs t (0,0))
theorem Blk.below {w w':World} {g B:Nat} {t:TypeId} {cs:Array Value} (h:Blk w g t cs) (d:Below B w w') (e:g<B):Blk w' g t cs:=(d.block g e).trans h
theorem Blk.lt {w:World} {g:Nat} {t:TypeId} {cs:Array Value} (h:Blk w g t cs):g<w.heap.size:=by
 rcases Nat.lt_or_ge g w with d | d
 · exact d
 · unfold Blk at h; rw [Array.getElem?_eq_none d] at h; cases h
theorem Blk.cell {w:World} {g:Nat} {t:TypeId} {cs:Array Value} (h:Blk w g t cs) (i:Nat):w.cell? ⟨g,i,none⟩=cs[i]?:=cell_of_row w g i cs t (0,0) h
theorem Blk.thaw {w:World} {g:Nat} {t:TypeId} {cs:Array Value} (h:Blk w g t cs) (i:Nat):κ w g i:=by unfold Blk at h; simp [World.frozen?,h]
theorem Blk.set {w:World} {g:Nat} {t:TypeId} {cs:Array Value} (h:Blk w g t cs) (i:Nat) (v:Value):Blk (sX w g i v) g t (cs.setIfInBounds i v):=by
 unfold Blk at h |-;simp [World.setCell,Array.getElem?_modify,h]
theorem Blk.alloc {w:World} {g:Nat} {t:TypeId} {cs:Array Value} (h:Blk w g t cs) (o:Obj):Blk (w.alloc o) g t cs:=h.below ((Below.refl w w).alloc lJ o) h.lt
theorem Blk.eq {w:World} {g:Nat} {t:TypeId} {cs d:Array Value} (h:Blk w g t cs) (e:cs=d):Blk w g t d:=e ▸ h
section
variable {w a b:World} {g:Nat}
theorem iT (h:w.grownBy a (some g)) (d:Below a a b):w.grownBy b (some g):=
 ⟨d.os.trans h.os,d.tape.trans h.tape,d.output.trans h.output,v6 h.size d.size,fun k e f=>(d.block k (u7 e h.size)).trans (h.block k e f)⟩
theorem aJ (h:w.grownBy a (some g)) (i:Nat) (v:Value):w.grownBy (sX a g i v) (some g):=
 ⟨h.os,h.tape,h.output,by have:=h.size; simp [World.setCell]; omega,fun k f d=>(Below.heap_setCell a ⟨g,i,none⟩ v k (fun e=>d (by rw [e]))).trans (h.block k f d)⟩
theorem JW {v v':Value} (h:w.grownBy a (some g)) (d:cY a b v v') (j:∀ k,v.ownBlock=some k->w.heap.size<=k):w.grownBy b (some g):=
 ⟨d.grown.os.trans h.os,d.grown.tape.trans h.tape,d.grown.output.trans h.output,v6 h.size d.grown.size,fun k e i=>
  (d.grown.block k (u7 e h.size) (fun f=>by have:=j k f.symm; omega)).trans (h.block k e i)⟩
theorem Blk.grew {v v':Value} {t:TypeId} {cs:Array Value} (h:Blk a g t cs) (d:cY a b v v') (f:∀ k,v.ownBlock=some k->g<k):Blk b g t cs:=
 (d.grown.block g h.lt (fun e=>by have:=f g e.symm; omega)).trans h
end
def mW (n:Int):Int:=if 0<=n then 2*n else -2*n - 1
def lB (n:Int):Int:=if n % 2=0 then n / 2 else -(n / 2) - 1
theorem CB (a:Nat) (h:a<18446744073709551616):a ^^^ 18446744073709551615=18446744073709551615 - a:=by
 have e:BitVec.ofNat 64 a ^^^ BitVec.allOnes 64 = ~~~ BitVec.ofNat 64 a:=BitVec.xor_allOnes;have d:=congrArg BitVec.toNat e;simp only [BitVec.toNat_xor,BitVec.toNat_not,BitVec.toNat_ofNat,BitVec.toNat_allOnes] at d;rw [Nat.mod_eq_of_lt (by omega)] at d;simpa using d
theorem Mx (n:Int) (h : -9223372036854775808<=n) (i:n<=9223372036854775807) :
 bits .xor .u64 (IntKind.u64.wrap (IntKind.u64.wrap n*2)) (IntKind.u64.wrap (n / 9223372036854775808))=mW n:=by
 unfold mW;simp only [IntKind.wrap_u64];rw [u64_xor _ _ (by omega) (by omega) (by omega) (by omega)];by_cases e:0<=n
 · have d:n / 9223372036854775808=0:=by omega
   rw [if_pos e,d];simp;omega
 · have d:n / 9223372036854775808 = -1:=by omega
   rw [if_neg e,d];have f:(-1 % 18446744073709551616:Int).toNat=18446744073709551615:=by decide
   rw [f,CB _ (by omega)];omega
theorem u64_and1 (n:Int) (h:0<=n) (d:n<18446744073709551616):bits .and .u64 n 1=n % 2:=by
 rw [u64_and _ _ h d (by omega) (by omega)];have e:(1:Int).toNat=1:=rfl;rw [e,nat_mask1];omega
theorem Iw (m:Int) (h:0<=m) (d:m<9223372036854775808):bits .xor .i64 m 0=m:=by
 have e:BitVec.ofInt 64 0=0#64:=by decide
 show IntKind.i64.wrap ((BitVec.ofInt 64 m ^^^ BitVec.ofInt 64 0).toNat:Nat)=m
 rw [e,BitVec.xor_zero,BitVec.toNat_ofInt,IntKind.wrap_i64];omega
theorem Fr (m:Int) (h:0<=m) (d:m<9223372036854775808):bits .xor .i64 m (-1) = -m - 1:=by
 have e:BitVec.ofInt 64 (-1)=BitVec.allOnes 64:=by decide
 show IntKind.i64.wrap ((BitVec.ofInt 64 m ^^^ BitVec.ofInt 64 (-1)).toNat:Nat) = -m - 1
 rw [e,BitVec.xor_allOnes,BitVec.toNat_not,BitVec.toNat_ofInt,IntKind.wrap_i64];omega
theorem My (n:Int) (h:0<=n) (i:n<18446744073709551616) :
 bits .xor .i64 (n / 2) (RowKit.wrap64 (-RowKit.wrap64 (bits .and .u64 n 1)))=lB n:=by
 rw [u64_and1 n h i];unfold lB;by_cases e:n % 2=0
 · rw [if_pos e,e];have d:RowKit.wrap64 (-RowKit.wrap64 0)=0:=by unfold RowKit.wrap64; omega
   rw [d,Iw _ (by omega) (by omega)]
 · have f:n % 2=1:=by omega
   rw [if_neg e,f];have d:RowKit.wrap64 (-RowKit.wrap64 1) = -1:=by unfold RowKit.wrap64; omega
   rw [d,Fr _ (by omega) (by omega)]
def zE:Nat->Nat->List UInt8
 | 0,n=>[UInt8.ofNat n]
 | f+1,n=>if n<128 then [UInt8.ofNat n] else UInt8.ofNat (n % 128+128) :: zE f (n / 128)
def bg (n:Nat):List UInt8:=zE 10 n
theorem pB {f n:Nat} (h:n<128):zE f n=[UInt8.ofNat n]:=by
 cases f with
 | zero=>rfl
 | succ f=>rw [zE,if_pos h]
theorem BV:∀ (f g n:Nat),n<128 ^ (f+1)->n<128 ^ (g+1)->zE f n=zE g n
 | 0,g,n,h,_=>by rw [pB (by simpa using h),pB (by simpa using h)]
 | f+1,0,n,_,d=>by rw [pB (by simpa using d),pB (by simpa using d)]
 | f+1,g+1,n,h,d=>by
  unfold zE
  split
  · rfl
  · rw [BV f g (n / 128) (Nat.div_lt_of_lt_mul (by rw [Nat.pow_succ,Nat.mul_comm] at h; exact h)) (Nat.div_lt_of_lt_mul (by rw [Nat.pow_succ,Nat.mul_comm] at d; exact d))]
theorem uS {n:Nat} (h:n<128):bg n=[UInt8.ofNat n]:=pB h
theorem BW {n:Nat} (h:128<=n) (d:n<18446744073709551616):bg n=UInt8.ofNat (n % 128+128) :: bg (n / 128):=by
 unfold bg;rw [zE,if_neg (by omega),BV 9 10 (n / 128) (by omega) (by omega)]
theorem yX:∀ f n,1<=(zE f n).length/\(zE f n).length<=f+1
 | 0,n=>by simp [zE]
 | f+1,n=>by
  unfold zE
  split
  · simp
  · have:=yX f (n / 128);simp; omega
theorem dO (n:Nat):1<=(bg n).length/\(bg n).length<=11:=yX 10 n
theorem JX (n:Int) (h:0<=n) (j:n<18446744073709551616):bits .or .u8 (n % 256) 128=(((UInt8.ofNat (n.toNat % 128+128)).toNat:Nat):Int):=by
 obtain⟨m,rfl⟩:=Int.eq_ofNat_of_zero_le h;rw [u8_or _ _ (by omega) (by omega) (by omega) (by omega)];have d:(((m:Int) % 256).toNat:Nat)=m % 256:=by omega
 have e:(128:Int).toNat=128:=rfl
 have f:(UInt8.ofNat ((m:Int).toNat % 128+128)).toNat=m % 128+128:=by
  rw [UInt8.toNat_ofNat']; simp; omega
 rw [d,e,f];have i:∀ x:Fin 256,(x.val ||| 128)=x.val % 128+128:=by decide +kernel
 have:=i ⟨m % 256,by omega⟩;simp only at this;rw [this];omega
def rdB (s:ByteArray):Nat->Nat->Nat->Nat × Nat × Nat
 | 0,_,_=>(0,0,4)
 | f+1,i,acc=>
  if h:i<s.size then
   if (i=9/\1<s[i].toNat)\/(0<i/\s[i].toNat=0) then (0,0,4)
   else if s[i].toNat<128 then (acc+s[i].toNat % 128*128 ^ i,i+1,0)
   else rdB s f (i+1) (acc+s[i].toNat % 128*128 ^ i)
  else (0,0,3)
def rdNum (s:ByteArray):Nat × Nat × Nat:=rdB s 10 0 0
def rdV (s:ByteArray):Value:=.tuple #[.int .u64 ((rdNum s).1:Int),((rdNum s).2.1:Int),((rdNum s).2.2:Int)]
theorem Fs {s:ByteArray} {a k e:Nat} (h:rdNum s=(a,k,e)):rdV s = .tuple #[.int .u64 (a:Int),(k:Int),(e:Int)]:=by unfold rdV; rw [h]
section
variable {s:ByteArray} {k acc c:Nat}
theorem BX (d:k<10) (h:s.size<=k):rdB s (10 - k) k acc=(0,0,3):=by
 rw [show 10 - k=(9 - k)+1 from by omega,rdB,dif_neg (by omega)]
theorem Dy (f:k<10) (h:k<s.size) (e:s[k].toNat=c) (d:(k=9/\1<c)\/(0<k/\c=0)):rdB s (10 - k) k acc=(0,0,4):=by
 rw [show 10 - k=(9 - k)+1 from by omega,rdB,dif_pos h,e,if_pos d]
theorem Dz (i:k<10) (h:k<s.size) (f:s[k].toNat=c) (e:¬ ((k=9/\1<c)\/(0<k/\c=0))) (d:c<128):rdB s (10 - k) k acc=(acc+c % 128*128 ^ k,k+1,0):=by
 rw [show 10 - k=(9 - k)+1 from by omega,rdB,dif_pos h,f,if_neg e,if_pos d]
theorem DA (i:k<10) (h:k<s.size) (f:s[k].toNat=c) (e:¬ ((k=9/\1<c)\/(0<k/\c=0))) (d:¬ c<128):rdB s (10 - k) k acc=rdB s (10 - (k+1)) (k+1) (acc+c % 128*128 ^ k):=by
 rw [show 10 - k=(9 - k)+1 from by omega,rdB,dif_pos h,f,if_neg e,if_neg d,show 10 - (k+1)=9 - k from by omega]
theorem Mz (k:Nat):128 ^ k=2 ^ (7*k):=by rw [Nat.pow_mul]
theorem zO (r:k<10) (q:c<256) (p:k=9->c<=1) (ha:acc<128 ^ k) :
 bits .or .u64 (acc:Int) (IntKind.u64.wrap (IntKind.u64.wrap (bits .and .u8 (c:Int) 127)*2 ^ (7*k)))=((acc+c % 128*128 ^ k:Nat):Int)/\acc+c % 128*128 ^ k<128 ^ (k+1)/\acc+c % 128*128 ^ k<18446744073709551616:=by
 have e:bits .and .u8 (c:Int) 127=((c % 128:Nat):Int):=by
  rw [show (127:Int)=((127:Nat):Int) from rfl,u8_and_nat c 127 q (by omega),nat_mask7]
 have f:IntKind.u64.wrap ((c % 128:Nat):Int)=((c % 128:Nat):Int):=by rw [IntKind.wrap_u64]; omega
 have d:c % 128*128 ^ k<18446744073709551616/\acc+c % 128*128 ^ k<18446744073709551616/\acc+c % 128*128 ^ k<128 ^ (k+1):=by
  have l:acc+c % 128*128 ^ k<128 ^ (k+1):=by
   have:c % 128*128 ^ k<=127*128 ^ k:=Nat.mul_le_mul_right _ (by omega);rw [Nat.pow_succ]; omega
  have m:acc+c % 128*128 ^ k<18446744073709551616:=by
   by_cases h:k=9
   · have:=p h;subst h;have:c % 128*128 ^ 9<=1*128 ^ 9:=Nat.mul_le_mul_right _ (by omega);omega
   · have:(128:Nat) ^ (k+1)<=128 ^ 9:=Nat.pow_le_pow_right (by omega) (by omega);omega
  exact⟨by omega,m,l⟩
 have i:IntKind.u64.wrap (((c % 128:Nat):Int)*2 ^ (7*k))=((c % 128*128 ^ k:Nat):Int):=by
  rw [IntKind.wrap_u64,Mz]
  have j:((c % 128:Nat):Int)*2 ^ (7*k)=((c % 128*2 ^ (7*k):Nat):Int):=by
   rw [Int.natCast_mul,Int.natCast_pow]; rfl
  have:=d.1;rw [Mz] at this;rw [j]; omega
 refine⟨?_,d.2.2,d.2.1⟩;rw [e,f,i,bits_or_u64_nat _ _ (by omega) d.1,Nat.or_comm,nat_join (7*k) _ _ (by rw [Mz]; exact Nat.mul_mod_left _ _) (by rw [<- Mz]; exact ha),Nat.add_comm]
theorem JY {p:Nat} (h:k<10) (f:c<256) (d:k=9->c<=1) (ha:acc<128 ^ k) (i:p=128 ^ k) :
 IntKind.u64.wrap ((acc:Int)+IntKind.u64.wrap ((c:Int) % 128*(p:Int)))=((acc+c % 128*128 ^ k:Nat):Int):=by
 obtain⟨_,j,l⟩:=zO h f d ha;subst i;have e:(c:Int) % 128*((128 ^ k:Nat):Int)=((c % 128*128 ^ k:Nat):Int):=by rw [Int.natCast_mul]; rfl
 rw [e,IntKind.wrap_u64,IntKind.wrap_u64];omega
theorem JZ (d:k<9):IntKind.u64.wrap (((128 ^ k:Nat):Int)*128)=((128 ^ (k+1):Nat):Int)/\128 ^ (k+1)<=9223372036854775808:=by
 have:(128:Nat) ^ (k+1)<=128 ^ 9:=Nat.pow_le_pow_right (by omega) (by omega);have e:(128:Nat) ^ (k+1)=128 ^ k*128:=Nat.pow_succ ..;rw [IntKind.wrap_u64];omega
end
theorem BY (s:ByteArray):∀ (f k acc:Nat),f+k=10->k<=s.size->acc<128 ^ k->∀ a n e,rdB s f k acc=(a,n,e)->a<18446744073709551616/\n<=10/\e<=4/\(e=0->1<=n/\n<=s.size)
 | 0,k,acc,_,_,_,a,n,e,h=>by
  simp only [rdB,Prod.mk.injEq] at h;omega
 | f+1,k,acc,q,r,ha,a,n,e,h=>by
  rw [rdB] at h;by_cases j:k<s.size
  · rw [dif_pos j] at h;have p:s[k].toNat<256:=s[k].toNat_lt;by_cases i:(k=9/\1<s[k].toNat)\/(0<k/\s[k].toNat=0)
    · rw [if_pos i] at h;simp only [Prod.mk.injEq] at h;omega
    · rw [if_neg i] at h;obtain⟨_,l,m⟩:=zO (k:=k) (acc:=acc) (c:=s[k].toNat) (by omega) p (by omega) ha;by_cases d:s[k].toNat<128
      · rw [if_pos d] at h;simp only [Prod.mk.injEq] at h;obtain⟨rfl,rfl,rfl⟩:=h;exact⟨m,by omega,by omega,fun _=>⟨by omega,by omega⟩⟩
      · rw [if_neg d] at h;exact BY s f (k+1) _ (by omega) (by omega) l a n e h
  · rw [dif_neg j] at h;simp only [Prod.mk.injEq] at h;omega
theorem gW {s:ByteArray} {a n e:Nat} (h:rdNum s=(a,n,e)):a<18446744073709551616/\n<=10/\e<=4/\(e=0->1<=n/\n<=s.size):=
 BY s 10 0 0 rfl (Nat.zero_le _) (by decide) a n e h
def lE (s:ByteArray):Bool:=decide (s.size<=16) && validD s.data.toList
def cP (s:ByteArray):Bool:=decide (s.size≠0) && lE s
def ranged (n lo hi:Int):Bool:=decide (lo<=n) && decide (n<=hi)
structure aC where
 name:ByteArray
 prio:Int
 need:Int
 tries:Int
 tag:ByteArray
instance:CoeOut (Tg 19) (aC->ByteArray):=⟨fun _=>aC.name⟩
instance:CoeFun (Tg 19) fun _=>aC->ByteArray:=⟨fun _=>aC.name⟩
structure av where
 name:ByteArray
 room:Int
 zone:ByteArray
instance:CoeOut (Tg 21) (av->ByteArray):=⟨fun _=>av.name⟩
instance:CoeFun (Tg 21) fun _=>av->ByteArray:=⟨fun _=>av.name⟩
structure ak where
 job:ByteArray
 node:ByteArray
 till:Int
instance:CoeOut (Tg 23) (ak->ByteArray):=⟨fun _=>ak.job⟩
instance:CoeFun (Tg 23) fun _=>ak->ByteArray:=⟨fun _=>ak.job⟩
def aS (j:aC):List Value:=[.string j.name,.int .i64 j.prio,.int .i64 j.need,.int .i64 j.tries,.string j.tag]
instance:CoeOut (Tg 0) (aC->List Value):=⟨fun _=>aS⟩
instance:CoeFun (Tg 0) fun _=>aC->List Value:=⟨fun _=>aS⟩
def aH (n:av):List Value:=[.string n.name,.int .i64 n.room,.string n.zone]
instance:CoeOut (Tg 1) (av->List Value):=⟨fun _=>aH⟩
instance:CoeFun (Tg 1) fun _=>av->List Value:=⟨fun _=>aH⟩
def aB (l:ak):List Value:=[.string l.job,.string l.node,.int .i64 l.till]
instance:CoeOut (Tg 2) (ak->List Value):=⟨fun _=>aB⟩
instance:CoeFun (Tg 2) fun _=>ak->List Value:=⟨fun _=>aB⟩
def fS (j:aC):Int:=if cP j.name && lE j.tag then (if ranged j.prio (-1000) 1000 && ranged j.need 0 1000000 && ranged j.tries 0 100 then 0 else 1) else 4
def dP (n:av):Int:=if cP n.name && lE n.zone then (if ranged n.room 0 1000000 then 0 else 1) else 4
theorem nP {s:ByteArray} (h:s.size=0):s=⟨#[]⟩:=ByteArray.ext (Array.eq_empty_of_size_eq_zero h)
theorem oN {s:ByteArray} (h:s.size≠0):(s.toList == [])=false:=by
 rw [beq_eq_false_iff_ne,ByteArray.toList_eq];intro e;have:=congrArg List.length e;rw [Array.length_toList] at this;exact h this
theorem mZ {s:ByteArray} (h:s.size≠0):(s.toList == ByteArray.toList ⟨#[]⟩)=false:=by
 rw [show ByteArray.toList ⟨#[]⟩=[] from by rw [ByteArray.toList_eq]]; exact oN h
theorem vU {s:ByteArray} (h:s.size=0):cP s=false:=by unfold cP; rw [decide_eq_false (by omega)]; rfl
theorem yY {s:ByteArray} (h:s.size≠0):cP s=lE s:=by unfold cP; rw [decide_eq_true h]; rfl
theorem qW {s:ByteArray} (h:¬ s.size<=16):lE s=false:=by unfold lE; rw [decide_eq_false h]; rfl
theorem yZ {s:ByteArray} (h:s.size<=16):lE s=validD s.data.toList:=by unfold lE; rw [decide_eq_true h]; rfl
theorem aM {n lo hi:Int}:ranged n lo hi=true↔lo<=n/\n<=hi:=by unfold ranged; simp
theorem fT {n lo hi:Int}:ranged n lo hi=false↔n<lo\/hi<n:=by
 rw [<- Bool.not_eq_true,aM]; omega
def ren:Ren:={
 f:=fun x=>match x with
  | 196=>212
  | 259=>235
  | n=>n
 t:=fun x=>match x with
  | 0=>0
  | 3=>3
  | 4=>4
  | 5=>5
  | 9=>9
  | 12=>12
  | 46=>204
  | 53=>147
  | 119=>292
  | 138=>294
  | 139=>295
  | n=>n
 g:=fun x=>match x with
  | 3=>0
  | 4=>1
  | n=>n }
theorem NS:Lays.n196 Tryz.prog ren:={
 mixed:=by kernel_rfl
 f196:=Tryz.func212.trans (congrArg some (by kernel_rfl))
 f259:=Tryz.func235.trans (congrArg some (by kernel_rfl))
 t0:=Tryz.underlying0
 a0:=Tryz.isAgg0
 z0:=Tryz.sizeOf0
 v0:=Tryz.zeroValue0
 t3:=Tryz.underlying3
 a3:=Tryz.isAgg3
 z3:=Tryz.sizeOf3
 v3:=Tryz.zeroValue3
 t4:=Tryz.underlying4
 a4:=Tryz.isAgg4
 z4:=Tryz.sizeOf4
 v4:=Tryz.zeroValue4
 t5:=Tryz.underlying5
 a5:=Tryz.isAgg5
 z5:=Tryz.sizeOf5
 v5:=Tryz.zeroValue5
 t9:=Tryz.underlying9
 a9:=Tryz.isAgg9
 z9:=Tryz.sizeOf9
 v9:=Tryz.zeroValue9
 t12:=Tryz.underlying12
 a12:=Tryz.isAgg12
 z12:=Tryz.sizeOf12
 v12:=Tryz.zeroValue12
 t46:=Tryz.underlying204
 a46:=Tryz.isAgg204
 z46:=Tryz.sizeOf204
 v46:=Tryz.zeroValue204
 t53:=Tryz.underlying147
 a53:=Tryz.isAgg147
 z53:=Tryz.sizeOf147
 v53:=Tryz.zeroValue147
 t119:=Tryz.underlying292
 a119:=Tryz.isAgg292
 z119:=Tryz.sizeOf292
 t138:=Tryz.underlying294
 a138:=Tryz.isAgg294
 z138:=Tryz.sizeOf294
 v138:=Tryz.zeroValue294
 t139:=Tryz.underlying295
 a139:=Tryz.isAgg295
 z139:=Tryz.sizeOf295
 v139:=Tryz.zeroValue295
 g3:=by kernel_rfl
 g4:=by kernel_rfl }
def Tabs (w:World):Prop:=Utf8Tabs (ren.g 3) (ren.g 4) w
theorem Tabs.below {w w':World} (h:Tabs w) (d:Below w w w'):Tabs w':=Utf8Tabs_below h d
theorem MA {w : World} {l : List (String × DataW Unit)} (d : laidMet Tryz.prog l w) (e : ("unicode/utf8.first", firstData) ∈ l) (f : ("unicode/utf8.acceptRanges", acceptData) ∈ l) : Tabs w :=
 utf8Tabs_of_readsT (U8Types.of196 NS) ⟨by kernel_rfl,by kernel_rfl,by kernel_rfl,by kernel_rfl,by kernel_rfl,by kernel_rfl,by kernel_rfl⟩ (laidMet.reads d e) (laidMet.reads d f)
theorem xG (s:ByteArray) (w:World) (h:s.size<=9223372036854775807) (d:Tabs w) :
 ψ 212 #[s] w fun e w'=>e = .returned (.bool (validD s.data.toList))/\Below w w w':=
 Any.utf8_ValidString NS s w h d
theorem uT (s:ByteArray) (w:World) (l:s.size<=9223372036854775807) (i:Tabs w):ψ 178 #[s] w fun e w'=>e = .returned (.bool (lE s))/\Below w w w':=by
 by_cases h:s.size<=16
 · rw [yZ h];have d:=ω (xG s w l i);generalize validD s.data.toList=b at d |-;go_enter Tryz.func178,Tryz.ntmps178
   go_wp2_with fail
   refine d.mono ?_;rintro e m ⟨rfl,j⟩;go_wp2;go_ret;exact⟨rfl,j⟩
 · rw [qW h];go_enter Tryz.func178,Tryz.ntmps178;go_wp2;go_ret;exact⟨rfl,θ⟩
theorem kr (s:ByteArray) (w:World) (l:s.size<=9223372036854775807) (i:Tabs w):ψ 177 #[s] w fun e w'=>e = .returned (.bool (cP s))/\Below w w w':=by
 by_cases h:s.size=0
 · rw [vU h];obtain rfl:=nP h;go_enter Tryz.func177,Tryz.ntmps177;go_wp2;go_ret;exact⟨rfl,θ⟩
 · rw [yY h];have d:=ω (uT s w l i);have m:=oN h;have p:=mZ h;generalize lE s=b at d |-;go_enter Tryz.func177,Tryz.ntmps177
   go_wp2_with fail
   refine d.mono ?_;rintro e q ⟨rfl,j⟩;go_wp2;go_ret;exact⟨rfl,j⟩
theorem DB (n lo hi:Int) (i:lo<=n) (d:n<=hi) (w:World):ψ 127 #[n,lo,hi] w fun e w'=>e = .returned (.bool true)/\w=w':=by
 have h:decide (n<=hi)=true:=t8 d;go_enter Tryz.func127,Tryz.ntmps127;go_wp2;go_ret;exact⟨rfl,rfl⟩
theorem Ft (n lo hi:Int) (h:n<lo\/hi<n) (w:World):ψ 127 #[n,lo,hi] w fun e w'=>e = .returned (.bool false)/\w=w':=by
 by_cases d:lo<=n
 · have l:hi<n:=by omega
   have j:decide (n<=hi)=false:=fK (by omega);clear h;go_enter Tryz.func127,Tryz.ntmps127;go_wp2;go_ret;exact⟨rfl,rfl⟩
 · have i:decide (lo<=n)=false:=fK d;clear h;go_enter Tryz.func127,Tryz.ntmps127;go_wp2;go_ret;exact⟨rfl,rfl⟩
theorem ku (n lo hi:Int) (w:World):ψ 127 #[n,lo,hi] w fun e w'=>e = .returned (.bool (ranged n lo hi))/\w=w':=by
 cases h:ranged n lo hi
 · exact Ft n lo hi (fT.1 h) w
 · exact DB n lo hi (aM.1 h).1 (aM.1 h).2 w
theorem vV (j:aC) (w:World) (M:j.name.size<=9223372036854775807) (N:j.tag.size<=9223372036854775807) (R:Tabs w) :
 ψ 130 #[.agg (aS j).toArray] w fun h w'=>h = .returned (.int .i64 (fS j))/\Below w w w':=by
 obtain⟨E,z⟩:∃ E,fS j=E:=⟨_,rfl⟩;rw [z];have e:=ω z;clear z;obtain⟨G,I,H,J,x⟩:=j;unfold aS;simp only at M N |-;have D:Below w w (χ w #[G,I,H,J,x] 85):=(θ).alloc lJ _;have C:=R.below D;have O:=ω (kr G _ M C);have K:=ω C;have y:=ω D;clear C D R;go_enter Tryz.func130,Tryz.ntmps130
 go_wp2_with fail
 refine O.mono ?_;rintro h l ⟨rfl,d⟩;have U:ζ l w 1 (.int .i64 I):=by rw [(dD d).1 _ _ (by simp)]; simp [go_sem]
 have W:ζ l w 2 (.int .i64 H):=by rw [(dD d).1 _ _ (by simp)]; simp [go_sem]
 have X:ζ l w 3 (.int .i64 J):=by rw [(dD d).1 _ _ (by simp)]; simp [go_sem]
 have Y:ζ l w 4 (.string x):=by rw [(dD d).1 _ _ (by simp)]; simp [go_sem]
 have r:=ω (y.trans (d.mono y.size));have L:=ω (K.below d);have v:w.heap.size<l.heap.size:=by have:=d.size; simp at this; omega
 clear d y K O;cases i:cP G
 · go_wp2;go_ret;exact⟨aY (by rw [<- e.z]; simp [fS,i]),r⟩
 go_wp2_with fail
 refine Calls.mono (uT x l N L.z) ?_;rintro h Z ⟨rfl,p⟩;replace U:=((dD p).1 _ _ v).trans U;replace W:=((dD p).1 _ _ v).trans W;replace X:=((dD p).1 _ _ v).trans X;have m:=ω (r.trans (p.mono r.size));clear Y p r L v;cases q:lE x
 · go_wp2;go_ret;exact⟨aY (by rw [<- e.z]; simp [fS,i,q]),m⟩
 go_wp2_with fail
 refine Calls.mono (ku _ _ _ _) ?_;rintro h T ⟨rfl,rfl⟩;cases u:ranged I (-1000) 1000
 · go_wp2;go_ret;exact⟨aY (by rw [<- e.z]; simp [fS,i,q,u]),m⟩
 go_wp2_with fail
 refine Calls.mono (ku _ _ _ _) ?_;rintro h T ⟨rfl,rfl⟩;cases F:ranged H 0 1000000
 · go_wp2;go_ret;exact⟨aY (by rw [<- e.z]; simp [fS,i,q,u,F]),m⟩
 go_wp2_with fail
 refine Calls.mono (ku _ _ _ _) ?_;rintro h T ⟨rfl,rfl⟩;cases S:ranged J 0 100
 · go_wp2;go_ret;exact⟨aY (by rw [<- e.z]; simp [fS,i,q,u,F,S]),m⟩
 · go_wp2;go_ret;exact⟨aY (by rw [<- e.z]; simp [fS,i,q,u,F,S]),m⟩
theorem uH (n:av) (w:World) (G:n.name.size<=9223372036854775807) (H:n.zone.size<=9223372036854775807) (J:Tabs w) :
 ψ 133 #[.agg (aH n).toArray] w fun i w'=>i = .returned (.int .i64 (dP n))/\Below w w w':=by
 obtain⟨E,r⟩:∃ E,dP n=E:=⟨_,rfl⟩;rw [r];have h:=ω r;clear r;obtain⟨z,C,m⟩:=n;unfold aH;simp only at G H |-;have v:Below w w (χ w #[z,C,m] 70):=(θ).alloc lJ _;have u:=J.below v;have I:=ω (kr z _ G u);have D:=ω u;have p:=ω v;clear u v J;go_enter Tryz.func133,Tryz.ntmps133
 go_wp2_with fail
 refine I.mono ?_;rintro i l ⟨rfl,d⟩;have M:ζ l w 1 (.int .i64 C):=by rw [(dD d).1 _ _ (by simp)]; simp [go_sem]
 have N:ζ l w 2 (.string m):=by rw [(dD d).1 _ _ (by simp)]; simp [go_sem]
 have e:=ω (p.trans (d.mono p.size));have F:=ω (D.below d);have L:w.heap.size<l.heap.size:=by have:=d.size; simp at this; omega
 clear d p D I;cases j:cP z
 · go_wp2;go_ret;exact⟨aY (by rw [<- h.z]; simp [dP,j]),e⟩
 go_wp2_with fail
 refine Calls.mono (uT m l H F.z) ?_;rintro i O ⟨rfl,x⟩;replace M:=((dD x).1 _ _ L).trans M;have q:=ω (e.trans (x.mono e.size));clear N x e F L;cases y:lE m
 · go_wp2;go_ret;exact⟨aY (by rw [<- h.z]; simp [dP,j,y]),q⟩
 go_wp2_with fail
 refine Calls.mono (ku _ _ _ _) ?_;rintro i R ⟨rfl,rfl⟩;cases K:ranged C 0 1000000
 · go_wp2;go_ret;exact⟨aY (by rw [<- h.z]; simp [dP,j,y,K]),q⟩
 · go_wp2;go_ret;exact⟨aY (by rw [<- h.z]; simp [dP,j,y,K]),q⟩
def MB (base:Nat) (A:Option Addr) (m c:Nat) (l:List UInt8) (w:World) (e:Ending) (w':World):Prop:=
 ∃ f d h,e = .returned (.slice f d h)/\w'.ownsRow base 5 1 (.slice f d h) d (bK l)/\cY w w' (.slice A m c) (.slice f d h)
def Oh (base:Nat) (A:Option Addr) (m c:Nat) (l:List UInt8) (w:World) (v i:Value) (wr:World):Prop:=
 ∃ (e:Option Addr) (d f:Nat) (k:Int) (h:List UInt8),v = .slice e d f/\i = .int .u64 k/\0<=k/\k<18446744073709551616/\l=h ++ bg k.toNat/\wr.ownsRow base 5 1 (.slice e d f) d (bK h)/\cY w wr (.slice A m c) (.slice e d f)
theorem CC (base:Nat) (A:Option Addr) (m c:Nat) (l:List UInt8) (n:Int) (w:World) (C:0<=n) (D:n<18446744073709551616) (u:w.ownsRow base 5 1 (.slice A m c) m (bK l)) (J:m<=140737488355000) (H:base<=w.heap.size) :
 ψ 200 #[.slice A m c,.int .u64 n] w (MB base A m c (l ++ bg n.toNat) w):=by
 go_enter Tryz.func200,Tryz.ntmps200;go_wp2
 go_loopw [0,1] (fun K x wr=>Oh base A m c (l ++ bg n.toNat) w K x wr) (fun _ x _=>(RowKit.intOf x).toNat)
 case atStart=>exact⟨A,m,c,n,l,rfl,rfl,C,D,rfl,u,cY.refl _ _⟩
 case round=>
  obtain⟨M,d,N,k,F,rfl,rfl,T,S,p,q,i⟩:=hrel
  have I:d<=m+11:=by
   have G:=congrArg List.length p;have O:F.length=d:=by have:=q.1; simpa [bK] using this
   have R:l.length=m:=by have:=u.1; simpa [bK] using this
   have:=dO n.toNat;have:=dO k.toNat;simp at G; omega
  have y:=ω p;have z:=ω (show d+1<=140737488355328 from by omega);have E:base<=wr.heap.size:=v6 H i.grown.size;clear p u J I C D;by_cases hlt:128<=k
  · have h:=ω (JX k (by omega) (by omega))
    have v:=ω (show bg k.toNat=UInt8.ofNat (k.toNat % 128+128) :: bg (k / 128).toNat from by
     rw [BW (by omega) (by omega),show k.toNat / 128=(k / 128).toNat from by omega])
    go_wp2_with (at_builtin; refine GX rfl _ _ rfl base _ _ _ _ rfl q _ (UInt8.ofNat (k.toNat % 128+128)) h.z rfl z.z E ?_; intro e c2 L r j)
    go_roundw
    case rel=>exact⟨e,d+1,c2,k / 128,F ++ [UInt8.ofNat (k.toNat % 128+128)],rfl,rfl,by omega,by omega,by rw [y.z,v.z]; simp,r,i.trans j⟩
    case measure=>simp [RowKit.intOf]; omega
  · have h:=ω (show k=(((UInt8.ofNat k.toNat).toNat:Nat):Int) from by rw [UInt8.toNat_ofNat']; omega);have v:=ω (show bg k.toNat=[UInt8.ofNat k.toNat] from uS (by omega))
    go_wp2_with (at_builtin; refine GX rfl _ _ rfl base _ _ _ _ rfl q _ (UInt8.ofNat k.toNat) h.z rfl z.z E ?_; intro e c2 L r j)
    go_ret;exact⟨e,d+1,c2,rfl,by rw [y.z,v.z]; exact r,i.trans j⟩
def vW (n:Nat) (w:World) (e:Ending) (w':World):Prop:=e = .returned (.string ⟨(bg n).toArray⟩)/\Below w w w'
theorem zW (n:Int) (w:World) (i:0<=n) (j:n<18446744073709551616) :
 ψ 201 #[.int .u64 n] w (vW n.toNat w):=by
 go_enter Tryz.func201,Tryz.ntmps201
 go_wp2_with fail
 refine Calls.mono (CC w none 0 0 [] n w i j (World.ownsRow_nil _ _ _ _) (by omega) lJ) ?_;rintro q w' ⟨m,u,p,rfl,e,d⟩;have l:Below w w w':=d.below lJ (fun g h=>by simp [Value.ownBlock] at h);have r:=iS Tryz.underlying55 Tryz.underlying5 Tryz.underlying9 e;clear e d;go_wp2;go_ret;exact⟨rfl,l⟩
theorem pV (n:Int) (w:World) (h:0<=n) (i:n<18446744073709551616) :
 ψ 126 #[.int .u64 n] w fun e w'=>e = .returned (.string ⟨#[UInt8.ofNat n.toNat]⟩)/\Below w w w':=by
 have d:n % 256=(((UInt8.ofNat n.toNat).toNat:Nat):Int):=by rw [UInt8.toNat_ofNat']; omega
 have j:=sB (P:=Tryz.prog) (w:=w) (n:=1) (c:=1) (cs:=#[.int .u8 (n % 256)]) (l:=[UInt8.ofNat n.toNat]) Tryz.underlying55 Tryz.underlying5 Tryz.underlying9 (by simp [bK,d]) rfl;clear d;go_enter Tryz.func126,Tryz.ntmps126;go_wp2;go_ret;exact⟨rfl,(θ).alloc lJ _⟩
theorem jq {s:ByteArray} {k c:Nat} (h:k<s.size) (d:s[k].toNat=c) (W:World):(Instr.index 9 (.string s) (.int .i64 (k:Int))).run Tryz.prog W = .ok (.int .u8 (c:Int)) W:=by
 rw [run_index_string W 9 s .i64 (k:Int) Tryz.underlying9,dif_pos ⟨by omega,by omega⟩];subst d;simp only [Int.toNat_natCast]
def ql (s:ByteArray) (w:World) (e:Ending) (w':World):Prop:=e = .returned (rdV s)/\w=w'
theorem ql.mk' {s:ByteArray} {w:World} {a k e:Nat} (h:rdNum s=(a,k,e)):ql s w (.returned (.tuple #[.int .u64 (a:Int),(k:Int),(e:Int)])) w:=⟨by rw [Fs h],rfl⟩
def Pw (s:ByteArray) (n i:Value):Prop:=∃ (k acc:Nat),k<=9/\k<=s.size/\acc<128 ^ k/\i = .int .i64 k/\n = .int .u64 acc/\rdNum s=rdB s (10 - k) k acc
theorem J6 (s:ByteArray) (w:World) (L:s.size<=9223372036854775807) :
 ψ 74 #[s] w (ql s w):=by
 go_enter Tryz.func74,Tryz.ntmps74;go_wp2
 go_loop [2,3,4,5,6,7,8,10] (fun _ _ _ n _ _ m _=>Pw s n m) (fun _ _ _ _ _ _ m _=>10 - (RowKit.intOf m).toNat)
 case atStart=>exact⟨0,0,by omega,by omega,by decide,rfl,rfl,rfl⟩
 case round=>
  obtain⟨k,acc,J,K,ha,rfl,rfl,q⟩:=hrel;have e:=ω q;have u:=ω ha;clear q ha;by_cases i:k<s.size
  · have C:((k:Int) == s.size)=false:=by simp; omega
    obtain⟨c,h⟩:∃ c:Nat,s[k].toNat=c:=⟨_,rfl⟩;have F:c<256:=by rw [<- h]; exact s[k].toNat_lt
    have G:=jq i h;have j:=ω h;clear h;have form:=fun (d:(k=9/\1<c)\/(0<k/\c=0))=>ql.mk' (w:=w) (e.trans (Dy (by omega) i j.z d));have r:=fun (d:¬ ((k=9/\1<c)\/(0<k/\c=0))) (l:c<128)=>ql.mk' (w:=w) (e.trans (Dz (by omega) i j.z d l));have more:=fun (d:¬ ((k=9/\1<c)\/(0<k/\c=0))) (l:¬ c<128)=>e.trans (DA (by omega) i j.z d l);have step:=fun (E:k=9->c<=1)=>zO (k:=k) (by omega) F E u.z;have t:=ω form;have v:=ω r;have x:=ω more;have p:=ω step;clear form r more step;by_cases I:9<=k <;> by_cases H:1<=c
    all_goals first | (have y:((k:Int) == 9)=true:=by simp; omega) | (have y:((k:Int) == 9)=false:=by simp; omega)
    all_goals first | (have z:((c:Int) == 0)=true:=by simp; omega) | (have z:((c:Int) == 0)=false:=by simp; omega)
    all_goals go_wp2
    all_goals first
     | (go_ret3; exact t.z (by omega))
     | (have st:=(p.z (by omega)).1; go_ret3; rw [st]; exact v.z (by omega) (by omega))
     | (have st:=p.z (by omega); exact⟨⟨k+1,_,by omega,by omega,st.2.1,by go_num,by rw [st.1],x.z (by omega) (by omega)⟩,by simp only [RowKit.intOf]; omega⟩)
  · have C:((k:Int) == s.size)=true:=by simp; omega
    have D:=ω (ql.mk' (w:=w) (e.trans (BX (by omega) (by omega))));go_wp2
    go_ret3
    exact D
theorem dh (n lo hi:Int) (i:lo<=n) (j:n<=hi) (w:World):ψ 15 #[n,lo,hi] w fun e w'=>e = .returned (.bool false)/\w=w':=by
 have d:decide (n<lo)=false:=fK (by omega);have h:decide (hi<n)=false:=fK (by omega);go_enter Tryz.func15,Tryz.ntmps15;go_wp2;go_ret;exact⟨rfl,rfl⟩
theorem eE (n lo hi:Int) (h:n<lo\/hi<n) (w:World):ψ 15 #[n,lo,hi] w fun e w'=>e = .returned (.bool true)/\w=w':=by
 by_cases d:n<lo
 · clear h;go_enter Tryz.func15,Tryz.ntmps15;go_wp2;go_ret;exact⟨rfl,rfl⟩
 · have i:decide (n<lo)=false:=fK d;have j:decide (hi<n)=true:=t8 (by omega);clear h;go_enter Tryz.func15,Tryz.ntmps15;go_wp2;go_ret;exact⟨rfl,rfl⟩
def zX (l:List UInt8) (lo hi k:Nat):Prop:=(if k=1 then lo else 128)<=(l.getD k 0).toNat/\(l.getD k 0).toNat<=(if k=1 then hi else 191)
theorem DC (n d e b3 m lo hi:Nat) (h:n<m+1):checkN n d e b3 (m+1) lo hi=none:=by
 unfold checkN
 repeat' split
 all_goals first | rfl | omega
theorem Ix (l:List UInt8) (n m lo hi k:Nat) (d:m=1\/m=2\/m=3) (e:1<=k) (f:k<=m) (h:¬ zX l lo hi k) :
 checkN n (l.getD 1 0).toNat (l.getD 2 0).toNat (l.getD 3 0).toNat (m+1) lo hi=none:=by
 unfold zX at h;unfold checkN;rcases d with rfl | rfl | rfl
 all_goals (have:k=1\/k=2\/k=3:=by omega)
 all_goals rcases this with rfl | rfl | rfl
 all_goals simp at h |-
 all_goals omega
theorem J7 (l:List UInt8) (n m lo hi:Nat) (i:m=1\/m=2\/m=3) (j:m+1<=n) (h:∀ k,1<=k->k<=m->zX l lo hi k) :
 checkN n (l.getD 1 0).toNat (l.getD 2 0).toNat (l.getD 3 0).toNat (m+1) lo hi=some (m+1):=by
 have d:=h 1;have e:=h 2;have f:=h 3;unfold zX at d e f;unfold checkN;rcases i with rfl | rfl | rfl
 all_goals simp at d e f |-
 all_goals omega
def jR (c:Nat):Option (Nat × Nat × Nat):=
 if c<194 then none
 else if c<=223 then some (1,128,191)
 else if c<=239 then some (2,if c=224 then 160 else 128,if c=237 then 159 else 191)
 else if c<=244 then some (3,if c=240 then 144 else 128,if c=244 then 143 else 191)
 else none
def Fu (c:Nat):Bool:=match jR c with
 | none=>decide (firstT c % 8≠2/\firstT c % 8≠3/\firstT c % 8≠4)
 | some (m,e,d)=>decide (firstT c % 8=m+1/\accLo (firstT c / 16)=e/\accHi (firstT c / 16)=d)
theorem DF:∀ c:Fin 256,128<=c.val->Fu c.val=true:=by decide +kernel
theorem DG (l:List UInt8) (f:l≠[]) (e:128<=(l.getD 0 0).toNat) (h:jR (l.getD 0 0).toNat=none):validD l=false:=by
 have d:=DF ⟨(l.getD 0 0).toNat,(l.getD 0 0).toNat_lt⟩ e;simp only [Fu,h,decide_eq_true_eq] at d;rw [validD_lead l f e];unfold checkN;rw [if_neg d.1,if_neg d.2.1,if_neg d.2.2]
theorem sC (l:List UInt8) (f:l≠[]) (e:128<=(l.getD 0 0).toNat) {m lo hi:Nat} (h:jR (l.getD 0 0).toNat=some (m,lo,hi)) :
 validD l=match checkN l.length (l.getD 1 0).toNat (l.getD 2 0).toNat (l.getD 3 0).toNat (m+1) lo hi with
  | none=>false
  | some k=>validD (l.drop k):=by
 have d:=DF ⟨(l.getD 0 0).toNat,(l.getD 0 0).toNat_lt⟩ e;simp only [Fu,h,decide_eq_true_eq] at d;rw [validD_lead l f e,d.1,d.2.1,d.2.2];rfl
theorem xH {c m lo hi:Nat} (h:jR c=some (m,lo,hi)):m=1\/m=2\/m=3:=by
 unfold jR at h
 repeat' split at h
 all_goals simp at h
 all_goals omega
theorem CD (l:List UInt8) (e:l≠[]) (d:128<=(l.getD 0 0).toNat) {m lo hi:Nat} (h:jR (l.getD 0 0).toNat=some (m,lo,hi)) (f:l.length<m+1):validD l=false:=by
 rw [sC l e d h,DC _ _ _ _ _ _ _ f]
theorem Fv (l:List UInt8) (j:l≠[]) (d:128<=(l.getD 0 0).toNat) {m lo hi:Nat} (h:jR (l.getD 0 0).toNat=some (m,lo,hi)) (k:Nat) (e:1<=k) (i:k<=m) (f:¬ zX l lo hi k):validD l=false:=by
 rw [sC l j d h,Ix l _ m lo hi k (xH h) e i f]
theorem Iy (l:List UInt8) (f:l≠[]) (d:128<=(l.getD 0 0).toNat) {m lo hi:Nat} (h:jR (l.getD 0 0).toNat=some (m,lo,hi)) (i:m+1<=l.length) (e:∀ k,1<=k->k<=m->zX l lo hi k):validD l=validD (l.drop (m+1)):=by
 rw [sC l f d h,J7 l _ m lo hi (xH h) i e]
structure Cls (l:List UInt8) (m lo hi:Nat):Prop where
 le:m<=3
 short:l.length<m+1->validD l=false
 bad:∀ k,1<=k->k<=m->¬ zX l lo hi k->validD l=false
 ok:m+1<=l.length->(∀ k,1<=k->k<=m->zX l lo hi k)->validD l=validD (l.drop (m+1))
theorem Cls.of {l:List UInt8} {c m lo hi:Nat} (e:l≠[]) (f:(l.getD 0 0).toNat=c) (d:128<=c) (h:jR c=some (m,lo,hi)):Cls l m lo hi:=by
 subst f;exact⟨by have:=xH h; omega,CD l e d h,Fv l e d h,Iy l e d h⟩
theorem Cls.ascii {l:List UInt8} {c:Nat} (f:l≠[]) (e:(l.getD 0 0).toNat=c) (d:c<128):Cls l 0 128 191:=by
 subst e
 match l,f with
 | b :: r,_=>
  exact⟨by omega,fun h=>by simp at h,fun k i j=>by omega,fun _ _=>validD_cons b r (by simpa using d)⟩
theorem CF {l:List UInt8} {c:Nat} (f:l≠[]) (e:(l.getD 0 0).toNat=c) (d:128<=c) (h:jR c=none):validD l=false:=by
 subst e; exact DG l f d h
def mB (lo j:Nat):Nat:=if j=1 then lo else 128
def jr (hi j:Nat):Nat:=if j=1 then hi else 191
theorem qX {l:List UInt8} {lo hi d k:Nat} (h:(l.getD k 0).toNat=d):zX l lo hi k↔mB lo k<=d/\d<=jr hi k:=by unfold zX mB jr; subst h; rfl
abbrev Ext (w w':World):Prop:=Below w w w'
theorem Ext.trans {a b c:World} (h:Ext a b) (k:Ext b c):Ext a c:=Below.trans h (k.mono h.size)
theorem gF {w w':World} {a:Addr} {v:Value} (h:w.cell? a=some v) (d:Ext w w'):w'.cell? a=some v:=(d.cell (block_lt_of_cell h)).trans h
section
variable {P:Program} {ops:Array Oper} {V:Nat->Value->World->Prop} {a0:Act} {w0:World}
structure RInv (ops:Array Oper) (V:Nat->Value->World->Prop) (a0:Act) (w0:World) (listed:Array Bool) (a:Act) (w:World):Prop where
 le:Ext w0 w
 size:a.tmps.size=a0.tmps.size
 defers:a.defers=a0.defers
 keep:∀ t,(∀ (i:Nat) (o:Oper),ops[i]? = some o->o.dst≠some t)->a.tmps[t]? = a0.tmps[t]?
 done:∀ (i:Nat) (o:Oper) t,ops[i]? = some o->listed.getD i false=true->o.dst=some t->∃ u,a.tmps[t]? = some u/\V i u w
def BH (ops:Array Oper) (n:Nat):Bool:=
 (List.range ops.size).all fun i=>match ops[i]? with
  | some o=>(match o.dst with | some t=>decide (t<n) && (List.range i).all (fun j=>match ops[j]? with | some p=>p.dst != some t | none=>true) | none=>true) && o.after.all (fun e=>decide (e.on<i))
  | none=>true
theorem lV {n:Nat} (h:BH ops n=true) {i:Nat} {o:Oper} (l:ops[i]? = some o) :
 (∀ t,o.dst=some t->t<n/\∀ (j:Nat) (p:Oper),ops[j]? = some p->j<i->p.dst≠some t)/\∀ e ∈ o.after,e.on<i:=by
 unfold BH at h;rw [List.all_eq_true] at h;have r:i<ops.size:=(Array.getElem?_eq_some_iff.1 l).1;have d:=h i (List.mem_range.2 r);rw [l] at d;simp only [Bool.and_eq_true] at d;obtain⟨d,m⟩:=d;refine⟨fun t x=>?_,fun e q=>?_⟩
 · rw [x] at d;simp only [Bool.and_eq_true,decide_eq_true_eq] at d;refine⟨d.1,fun j p v u=>?_⟩;have f:=List.all_eq_true.1 d.2 j (List.mem_range.2 u);rw [v] at f;simpa using f
 · have:=(Array.all_eq_true_iff_forall_mem.1 m) e q;simpa using this
theorem iP {n:Nat} (l:BH ops n=true) {d:Array Bool} (u:d.size=ops.size) (q:Region.ready .any ops d=[]):∀ i,i<ops.size->d.getD i false=true:=by
 intro i
 induction i using Nat.strongRecOn with
 | _ i t=>
  intro p;have j:ops[i]? = some ops[i]:=Array.getElem?_eq_getElem p;by_cases e:d.getD i false=true
  · exact e
  · exfalso
    have h:i ∈ Region.ready .any ops d:=mem_ready.2 ⟨by
     have r:d[i]? = some d[i]:=Array.getElem?_eq_getElem (by omega);rw [Array.getD_eq_getD_getElem?,r] at e |-;simpa using e,_,j,fun f m _=>?_⟩
    · rw [q] at h; cases h
    · have hlt:=(lV l j).2 f m;exact t f.on hlt (by omega)
def NT (ops:Array Oper) (t:Tmp):Bool:=ops.all fun o=>o.dst != some t
theorem Fw {t:Tmp} (h:NT ops t=true) (i:Nat) (o:Oper) (d:ops[i]? = some o):o.dst≠some t:=by
 have:=(Array.all_eq_true_iff_forall_mem.1 h) o (Array.mem_of_getElem? d);simpa using this
def waitsFor (o:Oper) (j:Nat):Bool:=o.after.any fun e=>e.on == j && Region.binds .any e
def MC (P:Program) (ops:Array Oper) (V:Nat->Value->World->Prop) (a0:Act) (w0:World) (Q:Exit->Act->World->Prop) (i:Nat) (o:Oper):Prop:=
 ∀ (a:Act) (w:World),Ext w0 w->(∀ t v,a0.tmps[t]? = some v->NT ops t=true->a.tmps[t]? = some v) ->
  (∀ (j:Nat) (p:Oper) t,ops[j]? = some p->p.dst=some t->waitsFor o j=true->∃ u,a.tmps[t]? = some u/\V j u w) ->
  o.guard=none/\o.wp P a w (fun d w'=>∃ u,d=a.put o.dst u/\Ext w w'/\V i u w') Q
theorem RInv.step {n:Nat} (p:BH ops n=true) (H:a0.tmps.size=n) (E:∀ i u w w',V i u w->Ext w w'->V i u w') {m:Array Bool} {a:Act} {w:World} (M:m.size=ops.size)
 (h:RInv ops V a0 w0 m a w) {i:Nat} {o:Oper} (f:ops[i]? = some o) {u:Value} {w':World} (x:Ext w w') (J:V i u w'):RInv ops V a0 w0 (m.setIfInBounds i true) (a.put o.dst u) w':=by
 have L:i<ops.size:=(Array.getElem?_eq_some_iff.1 f).1
 have v:∀ t,o.dst≠some t->(a.put o.dst u).tmps[t]? = a.tmps[t]?:=by
  intro t d;unfold Act.put
  cases F:o.dst with
  | none=>rfl
  | some z=>
   have I:z≠t:=fun j=>d (by rw [F,j]);simp [Array.getElem?_setIfInBounds,I]
 refine⟨h.le.trans x,?_,?_,fun t d=>?_,fun l y t e r d=>?_⟩
 · unfold Act.put; split <;> simp [h.size]
 · unfold Act.put; split <;> simp [h.defers]
 · rw [v t (d i o f)]; exact h.keep t d
 · by_cases q:i=l
   · subst q;rw [f] at e; injection e with e; subst e;have hlt:=((lV p f).1 t d).1;refine⟨u,?_,J⟩;unfold Act.put;rw [d];simp only [Array.getElem?_setIfInBounds];rw [if_pos trivial,if_pos (by rw [h.size,H]; exact hlt)]
   · have G:m.getD l false=true:=by
      rw [Array.getD_eq_getD_getElem?] at r |-;rw [Array.getElem?_setIfInBounds,if_neg q] at r;exact r
     obtain⟨K,C,D⟩:=h.done l y t e G d;refine⟨K,?_,E _ _ _ _ D x⟩;rw [v t ?_]; exact C;intro j;rcases Nat.lt_or_gt_of_ne q with hlt | hlt
     · exact ((lV p e).1 t d).2 i o f hlt j
     · exact ((lV p f).1 t j).2 l y e hlt d
theorem count_set:∀ (l:List Bool) (i:Nat),l[i]? = some false->((l.set i true).filter (! ·)).length+1=(l.filter (! ·)).length
 | [],i,h=>by simp at h
 | x :: l,0,h=>by
  have d:x=false:=by simpa using h
  subst d; simp
 | x :: l,i+1,h=>by
  have e:=count_set l i (by simpa using h);cases x <;> simp <;> omega
theorem sD {n:Nat} {Q:Exit->Act->World->Prop} (q:BH ops n=true) (r:a0.tmps.size=n) (C:∀ i u w w',V i u w->Ext w w'->V i u w')
 (G:∀ (i:Nat) (o:Oper),ops[i]? = some o->MC P ops V a0 w0 Q i o)
 (v:∀ a w,(∀ d,(∀ i,i<ops.size->d.getD i false=true)->RInv ops V a0 w0 d a w->Q .normal a w)) :
 ∀ (p:Nat) (d:Array Bool) (a:Act) (w:World),d.size=ops.size->(d.toList.filter (! ·)).length<=p->RInv ops V a0 w0 d a w->wpAny P .any ops Q p d a w
 | 0,d,a,w,m,J,h=>by
  have j:Region.ready .any ops d=[]:=by
   cases j:Region.ready .any ops d with
   | nil=>rfl
   | cons i Y=>
    exfalso;have L:i ∈ Region.ready .any ops d:=by rw [j]; exact List.mem_cons_self
    obtain⟨l,o,f,_⟩:=mem_ready.1 L;have D:i<ops.size:=(Array.getElem?_eq_some_iff.1 f).1;have t:d[i]? = some d[i]:=Array.getElem?_eq_getElem (by omega);rw [Array.getD_eq_getD_getElem?,t] at l;have e:false ∈ d.toList.filter (! ·):=List.mem_filter.2 ⟨by rw [<- show d[i]=false from by simpa using l]; exact Array.getElem_mem_toList (by omega),rfl⟩;have:=List.length_pos_of_mem e;omega
  exact⟨j,v a w d (iP q m j) h⟩
 | p+1,d,a,w,m,J,h=>by
  refine⟨fun j=>v a w d (iP q m j) h,fun i D=>?_⟩;obtain⟨l,o,f,H⟩:=mem_ready.1 D;have W:i<ops.size:=(Array.getElem?_eq_some_iff.1 f).1
  have F:=G i o f a w h.le (fun x Z R r=>by rw [h.keep x (fun i o f=>Fw r i o f)]; exact R) (fun X T x M N E=>by
   unfold waitsFor at E;obtain⟨y,I,e⟩:=Array.any_eq_true'.1 E;simp only [Bool.and_eq_true,beq_iff_eq] at e;obtain⟨e,z⟩:=e;subst e;exact h.done y.on T x M (H y I z) N)
  unfold wpOp;rw [f];simp only [Region.wanted,F.1,if_true];refine .inl (Oper.wp_mono (fun U w' K=>?_) F.2);obtain⟨u,rfl,S,O⟩:=K;refine sD q r C G v p _ _ _ (by simpa using m) ?_ (h.step q r C m f S O);have t:d[i]? = some d[i]:=Array.getElem?_eq_getElem (by omega);rw [Array.getD_eq_getD_getElem?,t] at l
  have e:d.toList[i]? = some false:=by
   rw [Array.getElem?_toList,t];simpa using l
  have z:=count_set d.toList i e;simp only [Array.toList_setIfInBounds];omega
structure BZ (ops:Array Oper) (V:Nat->Value->World->Prop) (a0:Act) (w0:World) (a:Act) (w:World):Prop where
 le:Ext w0 w
 size:a.tmps.size=a0.tmps.size
 defers:a.defers=a0.defers
 keep:∀ t,(∀ (i:Nat) (o:Oper),ops[i]? = some o->o.dst≠some t)->a.tmps[t]? = a0.tmps[t]?
 done:∀ (i:Nat) (o:Oper) t,ops[i]? = some o->o.dst=some t->∃ u,a.tmps[t]? = some u/\V i u w
theorem zF {v:Nat} {n:Nat} {Q:Exit->Act->World->Prop} (m:P.follows .mixedOrders=true) (V:Nat->Value->World->Prop) (f:BH ops n=true) (p:a0.tmps.size=n) (l:∀ i u w w',V i u w->Ext w w'->V i u w')
 (q:∀ (i:Nat) (o:Oper),ops[i]? = some o->MC P ops V a0 w0 Q i o) (j:∀ a w,BZ ops V a0 w0 a w->Q .normal a w):(Code.region v ops true).wp P Q a0 w0:=by
 refine wp_region_any m (sD f p l q (fun a w x d h=>j a w ⟨h.le,h.size,h.defers,h.keep,fun i o t e r=>h.done i o t e (d i (Array.getElem?_eq_some_iff.1 e).1) r⟩) ops.size (Array.replicate ops.size false) a0 _ (by simp) ?_ ?_)
 · exact v6 (List.length_filter_le _ _) (by simp)
 · refine⟨⟨rfl,rfl,rfl,lJ,fun _ _=>rfl⟩,rfl,rfl,fun _ _=>rfl,fun i o t e d _=>?_⟩;rw [Array.getD_eq_getD_getElem?,Array.getElem?_replicate] at d
   split at d <;> simp at d
def GY (P:Program) (ops:Array Oper) (V:Nat->Value->World->Prop) (a0:Act) (w0:World) (Q:Exit->Act->World->Prop):Nat->List Oper->Prop
 | _,[]=>True
 | i,o :: l=>MC P ops V a0 w0 Q i o/\GY P ops V a0 w0 Q (i+1) l
theorem GY.all {Q:Exit->Act->World->Prop}:∀ {l:List Oper} {k:Nat},GY P ops V a0 w0 Q k l->∀ (i:Nat) (o:Oper),l[i]? = some o->MC P ops V a0 w0 Q (k+i) o
 | [],_,_,i,o,h=>by simp at h
 | x :: l,k,d,0,o,h=>by
  have e:x=o:=by simpa using h
  subst e; exact d.1
 | x :: l,k,d,i+1,o,h=>by
  have:=d.2.all i o (by simpa using h);rwa [show k+(i+1)=k+1+i from by omega]
theorem oJ {q:Nat} {n:Nat} {l:List Oper} {Q:Exit->Act->World->Prop} (h:P.follows .mixedOrders=true) (V:Nat->Value->World->Prop) (d:BH l.toArray n=true) (j:a0.tmps.size=n) (f:∀ i u w w',V i u w->Ext w w'->V i u w')
 (p:GY P l.toArray V a0 w0 Q 0 l) (e:∀ a w,BZ l.toArray V a0 w0 a w->Q .normal a w):(Code.region q l.toArray true).wp P Q a0 w0:=
 zF h V d j f (fun i o m=>by
  have:=p.all i o (by simpa using m);rwa [Nat.zero_add] at this) e
theorem zY (f:Nat->Value):∀ (j:List Nat) (h:Array Value) (i:Nat),(j.foldl (fun t d=>t.setIfInBounds d (f d)) h)[i]? = if i ∈ j/\i<h.size then some (f i) else h[i]?
 | [],h,i=>by simp
 | d :: j,h,i=>by
  rw [List.foldl_cons,zY f j,Array.getElem?_setIfInBounds,Array.size_setIfInBounds];by_cases l:i<h.size
  · by_cases m:i ∈ j
    · simp [m,l]
    · by_cases e:d=i
      · subst e; simp [m,l]
      · have q:¬ i=d:=fun p=>e p.symm;simp [m,e,q]
  · by_cases e:d=i
    · subst e;simp [l]
    · simp [l,e]
theorem BZ.frame {a:Act} {w:World} (h:BZ ops V a0 w0 a w) (e:List Nat) (r:ops.toList.filterMap (·.dst)=e):a = { tmps:=e.foldl (fun t d=>t.setIfInBounds d ((a.tmps[d]?).getD undef)) a0.tmps,defers:=a0.defers }:=by
 obtain⟨t,d⟩:=a;have p:=h.size;have j:=h.defers;have l:=h.keep;simp only at p j l;subst j
 congr 1
 apply Array.ext_getElem?
 intro i;rw [zY (fun d=>(t[d]?).getD undef) e a0.tmps i];by_cases m:i<a0.tmps.size
 · by_cases f:i ∈ e
   · rw [if_pos ⟨f,m⟩,Array.getElem?_eq_getElem (by omega)]; rfl
   · rw [if_neg (fun h=>f h.1)];refine l i (fun v o u q=>f ?_);rw [<- r];exact List.mem_filterMap.2 ⟨o,Array.mem_toList_iff.2 (Array.mem_of_getElem? u),q⟩
 · rw [if_neg (fun h=>m h.2),Array.getElem?_eq_none (by omega),Array.getElem?_eq_none (by omega)]
theorem BZ.frame' {a:Act} {w:World} (h:BZ ops V a0 w0 a w) (e:List Nat) (m:ops.toList.filterMap (·.dst)=e) :
 ∃ f:Nat->Value,a = { tmps:=e.foldl (fun t d=>t.setIfInBounds d (f d)) a0.tmps,defers:=a0.defers }/\∀ (i:Nat) (o:Oper) t,ops[i]? = some o->o.dst=some t->V i (f t) w:=
 ⟨fun d=>(a.tmps[d]?).getD undef,h.frame e m,fun i o t p q=>by
  obtain⟨u,j,l⟩:=h.done i o t p q;simp only [j,Option.getD_some];exact l⟩
end
def vX (x:Nat):Nat:=(x / 2) ^^^ (x % 2*3988292384)
def nQ:Nat->Nat->Nat
 | 0,x=>x
 | n+1,x=>vX (nQ n x)
theorem MD {x:Nat} (h:x<4294967296):vX x<4294967296:=by
 unfold vX;exact Nat.xor_lt_two_pow (n:=32) (by omega) (by have:x % 2<2:=Nat.mod_lt _ (by omega); omega)
theorem vY {x:Nat} (h:x<4294967296):∀ n,nQ n x<4294967296
 | 0=>h
 | n+1=>MD (vY h n)
theorem J8 (a b:Nat):(a ^^^ b) / 2=(a / 2) ^^^ (b / 2):=by
 have:=Nat.shiftRight_xor_distrib (a:=a) (b:=b) (i:=1);simpa [Nat.shiftRight_eq_div_pow] using this
theorem J9 (a b:Nat):(a ^^^ b) % 2=(a % 2) ^^^ (b % 2):=by
 have:=Nat.xor_mod_two_pow (a:=a) (b:=b) (n:=1);simpa using this
theorem Kb (a b:Nat):vX (a ^^^ b)=vX a ^^^ vX b:=by
 unfold vX;rw [J8,J9];have ha:a % 2=0\/a % 2=1:=by omega
 have d:b % 2=0\/b % 2=1:=by omega
 rcases ha with ha | ha <;> rcases d with d | d <;> rw [ha,d]
 · simp
 · simp [Nat.xor_assoc]
 · simp only [Nat.zero_xor,Nat.xor_zero,Nat.one_mul,Nat.zero_mul];rw [Nat.xor_assoc,Nat.xor_assoc,Nat.xor_comm (b / 2)]
 · simp only [Nat.xor_self,Nat.one_mul,Nat.zero_mul,Nat.xor_zero];rw [show a / 2 ^^^ 3988292384 ^^^ (b / 2 ^^^ 3988292384)=a / 2 ^^^ b / 2 ^^^ (3988292384 ^^^ 3988292384) from by ac_rfl];simp
theorem DH (a b:Nat):∀ n,nQ n (a ^^^ b)=nQ n a ^^^ nQ n b
 | 0=>rfl
 | n+1=>by rw [nQ,DH a b n,Kb]; rfl
theorem B0:∀ n h,nQ n (2 ^ n*h)=h
 | 0,h=>by simp [nQ]
 | n+1,h=>by
  have e:2 ^ (n+1)*h=2 ^ n*(2*h):=by rw [Nat.pow_succ,Nat.mul_assoc]
  rw [nQ,e,B0 n (2*h)];unfold vX;simp
theorem Iz (y:Nat):nQ 8 y=(y / 256) ^^^ nQ 8 (y % 256):=by
 have h:y=(256*(y / 256)) ^^^ (y % 256):=by
  have j:=Nat.two_pow_add_eq_or_of_lt (i:=8) (b:=y % 256) (by omega) (y / 256)
  have m:2 ^ 8*(y / 256) &&& y % 256=0:=by
   apply Nat.eq_of_testBit_eq
   intro i;rw [Nat.testBit_and,Nat.zero_testBit,Nat.testBit_two_pow_mul];by_cases f:8<=i
   · have:(y % 256).testBit i=false:=Nat.testBit_lt_two_pow (u7 (show y % 256<2 ^ 8 by omega) (Nat.pow_le_pow_right (by omega) f));simp [this]
   · simp [f]
  have p:(256*(y / 256)) ^^^ (y % 256)=256*(y / 256) ||| y % 256:=by
   apply Nat.eq_of_testBit_eq
   intro i;have e:=congrArg (fun z=>z.testBit i) m;simp only [Nat.testBit_and,Nat.zero_testBit] at e;rw [Nat.testBit_xor,Nat.testBit_or];have d:(256*(y / 256))=2 ^ 8*(y / 256):=rfl;rw [d]
   revert e
   cases (2 ^ 8*(y / 256)).testBit i <;> cases (y % 256).testBit i <;> simp
  rw [p];have d:(256*(y / 256))=2 ^ 8*(y / 256):=rfl;rw [d,<- j];omega
 have l:nQ 8 (256*(y / 256))=y / 256:=B0 8 (y / 256)
 conv=>lhs; rw [h,DH,l]
def Kc (x c:Nat):Nat:=(x / 256) ^^^ nQ 8 ((x % 256) ^^^ c)
theorem GZ {x c:Nat} (f:c<256):Kc x c=nQ 8 (x ^^^ c):=by
 rw [Iz (x ^^^ c)]
 have d:(x ^^^ c) / 256=x / 256:=by
  have:=Nat.shiftRight_xor_distrib (a:=x) (b:=c) (i:=8);simp only [Nat.shiftRight_eq_div_pow] at this;rw [show (256:Nat)=2 ^ 8 from rfl,this,show c / 2 ^ 8=0 from by omega,Nat.xor_zero]
 have e:(x ^^^ c) % 256=(x % 256) ^^^ c:=by
  have:=Nat.xor_mod_two_pow (a:=x) (b:=c) (n:=8);rw [show (256:Nat)=2 ^ 8 from rfl,this,show c % 2 ^ 8=c from by omega]
 rw [d,e]; rfl
theorem ME {x c:Nat} (e:x<4294967296) (d:c<256):Kc x c<4294967296:=by
 rw [GZ d];exact vY (Nat.xor_lt_two_pow (n:=32) e (by omega)) 8
def CG (l:List UInt8):Nat:=l.foldl (fun x c=>Kc x c.toNat) 4294967295
theorem CI (l:List UInt8):CG l<4294967296:=by
 unfold CG
 have:∀ (l:List UInt8) (x:Nat),x<4294967296->l.foldl (fun x c=>Kc x c.toNat) x<4294967296:=by
  intro l
  induction l with
  | nil=>intro x h; exact h
  | cons c l d=>intro x h; exact d _ (ME h c.toNat_lt)
 exact this l _ (by omega)
def gR (l:List UInt8):Nat:=4294967295 - CG l
theorem BI (x:Nat) (h:x<4294967296):bits .xor .u32 ((x:Int) / 2) (bits .and .u32 (x:Int) 1*3988292384)=((vX x:Nat):Int)/\0<=bits .and .u32 (x:Int) 1/\bits .and .u32 (x:Int) 1<=1:=by
 have d:bits .and .u32 (x:Int) 1=((x % 2:Nat):Int):=by
  rw [show (1:Int)=((1:Nat):Int) from rfl,u32_and_nat x 1 h (by omega),nat_mask1]
 rw [d];refine⟨?_,by omega,by omega⟩;have e:((x % 2:Nat):Int)*3988292384=((x % 2*3988292384:Nat):Int):=by rw [Int.natCast_mul]; rfl
 have f:(x:Int) / 2=((x / 2:Nat):Int):=by omega
 rw [e,f,u32_xor_nat _ _ (by omega) (by have:x % 2<2:=Nat.mod_lt _ (by omega); omega)];rfl
theorem MF (x c:Nat) (d:c<256):bits .xor .u8 ((x:Int) % 256) (c:Int)=(((x % 256) ^^^ c:Nat):Int)/\(x % 256) ^^^ c<256:=by
 have e:(x:Int) % 256=((x % 256:Nat):Int):=by omega
 rw [e,u8_xor_nat _ _ (by omega) d];exact⟨rfl,Nat.xor_lt_two_pow (n:=8) (by omega) (by omega)⟩
theorem CJ (x y:Nat) (d:x<4294967296) (f:y<256):bits .xor .u32 ((x:Int) / 256) ((nQ 8 y:Nat):Int)=((x / 256 ^^^ nQ 8 y:Nat):Int):=by
 have e:(x:Int) / 256=((x / 256:Nat):Int):=by omega
 rw [e,u32_xor_nat _ _ (by omega) (vY (by omega) 8)]
theorem B1 (l:List UInt8) (c:UInt8):CG (l ++ [c])=Kc (CG l) c.toNat:=by simp [CG]
theorem zZ (a:Nat) (h:a<4294967296):a ^^^ 4294967295=4294967295 - a:=by
 have e:BitVec.ofNat 32 a ^^^ BitVec.allOnes 32 = ~~~ BitVec.ofNat 32 a:=BitVec.xor_allOnes;have d:=congrArg BitVec.toNat e;simp only [BitVec.toNat_xor,BitVec.toNat_not,BitVec.toNat_ofNat,BitVec.toNat_allOnes] at d;rw [Nat.mod_eq_of_lt (by omega)] at d;simpa using d
theorem MG (x:Nat) (d:x<4294967296):bits .xor .u32 IntKind.u32.max (x:Int)=((4294967295 - x:Nat):Int):=by
 have e:IntKind.u32.max=((4294967295:Nat):Int):=rfl;rw [e,u32_xor_nat _ _ (by omega) d,Nat.xor_comm,zZ x d]
theorem IA {n:Nat} (h:n % 2=0):(n:Int) / 2=((vX n:Nat):Int):=by
 unfold vX; rw [h]; simp
theorem Kd {n:Nat} (d:n<4294967296) (h:n % 2=1):bits .xor .u32 ((n:Int) / 2) 3988292384=((vX n:Nat):Int):=by
 have e:(n:Int) / 2=((n / 2:Nat):Int):=by omega
 rw [e,show (3988292384:Int)=((3988292384:Nat):Int) from rfl,u32_xor_nat _ _ (by omega) (by omega)];unfold vX; rw [h]
end Go.Proofs.YtimglglgcgpjgaaGreatDoor
