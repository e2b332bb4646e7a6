/- Of the proof of a statement: Kit, Mem, Push, Pl, PlNum, PlRead, PlChk, LayItoa. -/
import Derived.Lib.Hide
import Derived.Test.YtcpgnjmaampglaaGreatDoorRows
import Derived.WalkKit
import Derived.Lib.Hide
import Derived.WalkSpells
import Derived.WalkLawsBesides
import Derived.Laws.OwnMore
import Derived.Laws.Rows
import Derived.Outline
import Derived.Maps.AppendAt
import Derived.Laws.IdiomStrings
import Derived.Lib.BufferRead
import Derived.Laws.BitsAllLaws
import Derived.Below
import Derived.Laws.Bits64b
import Derived.Lib.ValidLaws
import Derived.Shelf.Strconv.AppendIntPublic10
import Derived.Ground.NamesProg
import Derived.Test.YtcpgnjmaampglaaGreatDoorProg
set_option linter.unusedVariables false
set_option linter.unusedSimpArgs false
set_option maxRecDepth 100000
set_option maxHeartbeats 8000000
/- Small words that all walks use: an ending by its value. -/
namespace Go.Proofs.YtcpgnjmaampglaaGreatDoor
open Go.Lib (hid)
open Go.RowKit
theorem bU {k:IntKind} {a b:Int} (h:a=b):Ending.returned (.int k a) = .returned (.int k b):=by rw [h]
theorem dW {a b:Bool} (h:a=b):Ending.returned (.bool a) = .returned (.bool b):=by rw [h]
theorem Ih {a b:ByteArray} (h:a=b):Ending.returned (.string a) = .returned (.string b):=by rw [h]
end Go.Proofs.YtcpgnjmaampglaaGreatDoor
/- Words for memory: a row of cells, and a slice that reads as a list of cells. -/
namespace Go.Proofs.YtcpgnjmaampglaaGreatDoor
open Go.Lib (hid)
open Go.RowKit
def dw (w:World) (b off:Nat) (xs:List Value):Prop:=∀ j u,xs[j]? = some u→w.cell? ⟨b,off+j,none⟩=some u
structure aQ (w:World) (B sz:Nat) (A:Option Addr) (n:Nat) (xs:List Value):Prop where
 len:xs.length=n*sz
 at_:0<n→∃ b off,A=some ⟨b,off,none⟩∧b<B∧dw w b off xs
section
variable {w w':World} {B B' b off sz n:Nat} {A:Option Addr} {xs:List Value}
theorem dw.cell {j:Nat} {u:Value} (h:dw w b off xs) (hu:xs[j]? = some u):w.cell? ⟨b,off+j,none⟩=some u:=h j u hu
theorem dw.below (h:dw w b off xs) (hb:Below B w w') (hB:b<B):dw w' b off xs:=fun j u hu=>(hb.cell (p:=⟨b,off+j,none⟩) hB).trans (h j u hu)
theorem dw.drop (h:dw w b off xs) (k:Nat):dw w b (off+k) (xs.drop k):=fun j u hu=>by
 rw [Nat.add_assoc]; exact h (k+j) u (by rw [← hu,List.getElem?_drop])
theorem dw.take (h:dw w b off xs) (k:Nat):dw w b off (xs.take k):=fun j u hu=>h j u (by
 rw [List.getElem?_take] at hu; split at hu
 · exact hu
 · cases hu)
theorem aQ.below (h:aQ w B sz A n xs) (hb:Below B w w'):aQ w' B sz A n xs:=
 ⟨h.len,fun hn=>by obtain⟨b,off,e,hB,hr⟩:=h.at_ hn; exact⟨b,off,e,hB,hr.below hb hB⟩⟩
theorem aQ.more (h:aQ w B sz A n xs) (hB:B≤B'):aQ w B' sz A n xs:=
 ⟨h.len,fun hn=>by obtain⟨b,off,e,hb,hr⟩:=h.at_ hn; exact⟨b,off,e,by omega,hr⟩⟩
theorem aQ.nil:aQ w B sz A 0 []:=⟨by simp,fun h=>absurd h (by omega)⟩
theorem aQ.cell (h:aQ w B sz A n xs) {j:Nat} (hj:j<n*sz):∃ b off u,A=some ⟨b,off,none⟩∧b<B∧xs[j]? = some u∧w.cell? ⟨b,off+j,none⟩=some u:=by
 have hn:0<n:=by
  rcases Nat.eq_zero_or_pos n with h0 | h0
  · subst h0; omega
  · exact h0
 obtain⟨b,off,e,hB,hr⟩:=h.at_ hn
 have hl:j<xs.length:=by rw [h.len]; exact hj
 exact⟨b,off,xs[j],e,hB,List.getElem?_eq_getElem hl,hr j _ (List.getElem?_eq_getElem hl)⟩
theorem dw.new (w:World) (t:TypeId) (cs:Array Value):dw (w.alloc (.cells cs t)) w.heap.size 0 cs.toList:=fun j u hu=>by
 rw [cell_of_row (w.alloc (.cells cs t)) w.heap.size (0+j) cs t (0,0) (heap_alloc_new w _),Nat.zero_add]
 simpa using hu
theorem aQ.new (w:World) (t:TypeId) (cs:Array Value) (h:cs.size=n*sz):aQ (w.alloc (.cells cs t)) (w.heap.size+1) sz (some ⟨w.heap.size,0,none⟩) n cs.toList:=
 ⟨by simpa using h,fun _=>⟨_,_,rfl,by omega,dw.new w t cs⟩⟩
theorem aQ.alloc (h:aQ w B sz A n xs) (hB:B≤w.heap.size) (o:Obj):aQ (w.alloc o) B sz A n xs:=h.below ((Below.refl B w).alloc hB o)
theorem aQ.drew (h:aQ w B sz A n xs):aQ w.drew B sz A n xs:=⟨h.len,h.at_⟩
theorem dw.drew (h:dw w b off xs):dw w.drew b off xs:=h
end
theorem eH {B:Nat} {W w1:World} (hb:Below B W w1):(∀ b o,b<B→w1.cell? ⟨b,o,none⟩=W.cell? ⟨b,o,none⟩)∧(∀ b o,b<B→w1.frozen? ⟨b,o,none⟩=W.frozen? ⟨b,o,none⟩):=
 ⟨fun b o h=>hb.cell (p:=⟨b,o,none⟩) h,fun b o h=>hb.frozen (p:=⟨b,o,none⟩) h⟩
end Go.Proofs.YtcpgnjmaampglaaGreatDoor
/- append of one element to a row of the call's own. -/
namespace Go.Proofs.YtcpgnjmaampglaaGreatDoor
open Go.Lib (hid)
open Go.RowKit
structure dE (w w':World) (v v':Value):Prop where
 grown:w.grownBy w' v.ownBlock
 own:v'.ownBlock=v.ownBlock∨∃ g,v'.ownBlock=some g∧w.heap.size≤g
theorem dE.refl (w:World) (v:Value):dE w w v v:=⟨World.grownBy.refl w _,.inl rfl⟩
theorem dE.trans {a b c:World} {u v x:Value} (h:dE a b u v) (k:dE b c v x):dE a c u x:=by
 refine⟨⟨k.grown.os.trans h.grown.os,k.grown.tape.trans h.grown.tape,k.grown.output.trans h.grown.output,Nat.le_trans h.grown.size k.grown.size,fun i hi hne=>?_⟩,?_⟩
 · refine (k.grown.block i (Nat.lt_of_lt_of_le hi h.grown.size) ?_).trans (h.grown.block i hi hne)
   rcases h.own with e | ⟨g,e,hg⟩
   · rw [e]; exact hne
   · rw [e]; intro h'; injection h' with h'; omega
 · rcases k.own with e | ⟨g,e,hg⟩
   · rw [e]; exact h.own
   · exact .inr ⟨g,e,Nat.le_trans h.grown.size hg⟩
theorem dE.below {w w':World} {v v':Value} {B:Nat} (h:dE w w' v v') (hB:B≤w.heap.size) (hv:∀ g,v.ownBlock=some g→B≤g):Below B w w':=
 ⟨h.grown.os,h.grown.tape,h.grown.output,h.grown.size,fun k hk=>h.grown.block k (by omega) (fun e=>by have:=hv k e.symm; omega)⟩
section
variable {P:Program} {w:World} {ops:Array Oper} {rest:List Oper} {o:Oper} {a:Act} {Q:Exit→Act→World→Prop}
theorem xB (hgd:o.guard=none) (s x:Operand) (t:TypeId)
 (ho:o.op = .call { callee:=.builtin .append,args:=#[s,x],argTypes:=#[t,t] })
 (base:Nat) (e:TypeId) (i:TypeInfo) (z:Value) (size bytes:Nat) (ht:P.underlying t=some (.slice e)) (hi:P.info? e=some i) (hz:i.zero=some z)
 (hsize:i.size=size) (hby:i.bytes=bytes) (hzs:z.cells.size=size) (hsz:0<size)
 (v:Value) (n:Nat) (xs:List Value) (hs:a.eval s=v) (hown:w.ownsRow base e size v n xs)
 (cs:Array Value) (k:Nat) (hk:0<k) (hx:a.eval x = .slice (some ⟨w.heap.size,0,none⟩) k k) (hl:cs.size=k*size) (h1:∀ u ∈ cs.toList,u.oneCell'=true)
 (h63:n+k≤maxLen) (hbytes:(n+k)*bytes≤140737488355328) (hbase:base≤w.heap.size)
 (h:∀ v' w',w'.ownsRow base e size v' (n+k) (xs ++ cs.toList)→w.grownBy w' v.ownBlock→(v'.ownBlock=v.ownBlock∨∃ g,v'.ownBlock=some g∧w.heap.size≤g)→v' ≠ .slice none 0 0→wpList P ops Q rest (a.put o.dst v') w') :
 wpList P ops Q (o :: rest) a (w.alloc (.cells cs e)):=by
 have hr:=dw.new w e cs
 refine wpList_append_own_at _ hgd s x t ho base e i z size bytes ht hi hz hsize hby hzs hsz v n xs hs (hown.alloc _) ⟨w.heap.size,0,none⟩ k k cs.toList hx (by simpa using hl)
  (fun j u hu=>?_) h1 h63 hbytes (by simp; omega) (fun v' w' o' g' hnil hb=>h v' w' o' ?_ ?_ ?_)
 · have:=hr j u hu
   unfold Addr.add
   split
   · rename_i hj; subst hj; simpa using this
   · simpa using this
 · have g0:w.grownBy (w.alloc (.cells cs e)) v.ownBlock:=⟨rfl,rfl,rfl,by simp,fun k hk _=>Below.heap_alloc _ _ _ hk⟩
   exact⟨g'.os.trans g0.os,g'.tape.trans g0.tape,g'.output.trans g0.output,Nat.le_trans g0.size g'.size,fun k hk hne=>(g'.block k (by simp; omega) hne).trans (g0.block k hk hne)⟩
 · rcases hb with hb | hb
   · exact .inl hb
   · exact .inr ⟨_,hb,by simp⟩
 · intro e0
   have:=(hnil.1 e0).2
   omega
end
def aF (l:List UInt8):List Value:=l.map fun c=>.int .u8 (c.toNat:Int)
theorem cV (l k:List UInt8):aF (l ++ k)=aF l ++ aF k:=by simp [aF]
theorem bK (l:List UInt8):(aF l).length=l.length:=by simp [aF]
section
variable {w:World} {ops:Array Oper} {rest:List Oper} {o:Oper} {a:Act} {Q:Exit→Act→World→Prop}
theorem Tryz.infoU8:(Tryz.prog.info? 5).map (fun i=>(i.zero,i.size,i.bytes))=some (some (.int .u8 0),1,1):=by kernel_rfl
theorem pT (hgd:o.guard=none) (s x:Operand) (ho:o.op = .call { callee:=.builtin .append,args:=#[s,x],argTypes:=#[118,118] })
 (base:Nat) (A:Option Addr) (m c:Nat) (l:List UInt8) (hs:a.eval s = .slice A m c) (hown:w.ownsRow base 5 1 (.slice A m c) m (aF l))
 (cs:Array Value) (k:Nat) (hk:0<k) (b:List UInt8) (hu:cs.toList=aF b) (hbk:b.length=k) (hx:a.eval x = .slice (some ⟨w.heap.size,0,none⟩) k k) (hm:m+k≤140737488355328) (hbase:base≤w.heap.size)
 (h:∀ A' c' w',w'.ownsRow base 5 1 (.slice A' (m+k) c') (m+k) (aF (l ++ b))→dE w w' (.slice A m c) (.slice A' (m+k) c')→wpList Tryz.prog ops Q rest (a.put o.dst (.slice A' (m+k) c')) w') :
 wpList Tryz.prog ops Q (o :: rest) a (w.alloc (.cells cs 5)):=by
 obtain⟨i0,hi,hz0,hz1,hz2⟩:=info_parts Tryz.infoU8
 have hcs:cs.size=k:=by rw [← Array.length_toList,hu,bK,hbk]
 refine xB hgd s x 118 ho base 5 i0 (.int .u8 0) 1 1 Tryz.underlying118 hi hz0 hz1 hz2 rfl (by decide) _ m _ hs hown cs k hk hx (by omega) (fun u hu'=>?_) (by unfold maxLen; omega) (by omega) hbase (fun v' w' o' g' b' _=>?_)
 · rw [hu] at hu'
   obtain⟨c,_,rfl⟩:=List.mem_map.1 hu'
   rfl
 · have e1:aF l ++ cs.toList=aF (l ++ b):=by rw [hu,cV]
   rw [e1] at o'
   rcases o'.2 with ⟨_,h0⟩ | ⟨g,cap,cur,hv,_⟩
   · omega
   · subst hv
     exact h _ _ _ o' ⟨g',b'⟩
theorem LY {K:Act→World→Prop} (s x:Operand) (ho:o.op = .call { callee:=.builtin .append,args:=#[s,x],argTypes:=#[118,118] })
 (base:Nat) (A:Option Addr) (m c:Nat) (l:List UInt8) (hs:a.eval s = .slice A m c) (hown:w.ownsRow base 5 1 (.slice A m c) m (aF l))
 (g off k c2:Nat) (b:List UInt8) (hr:dw w g off (aF b)) (hk:0<k) (hbk:b.length=k) (hx:a.eval x = .slice (some ⟨g,off,none⟩) k c2) (hm:m+k≤140737488355328) (hbase:base≤w.heap.size)
 (h:∀ A' c' w',w'.ownsRow base 5 1 (.slice A' (m+k) c') (m+k) (aF (l ++ b))→dE w w' (.slice A m c) (.slice A' (m+k) c')→K (a.put o.dst (.slice A' (m+k) c')) w') :
 o.wp Tryz.prog a w K Q:=by
 obtain⟨i0,hi,hz0,hz1,hz2⟩:=info_parts Tryz.infoU8
 obtain⟨v',w',hrun,h2,h3,h4,h5⟩:=run_append_own_at (P:=Tryz.prog) w base 118 o.type 5 i0 (.int .u8 0) 1 1 Tryz.underlying118 hi hz0 hz1 hz2 rfl (by decide) _ m _ hown ⟨g,off,none⟩ k c2 (aF b) (by rw [bK,hbk,Nat.mul_one]) (fun j u hu=>by
  have:=hr j u hu
  unfold Addr.add
  split
  · rename_i hj; subst hj; simpa using this
  · exact this) (fun u hu=>by obtain⟨c,_,rfl⟩:=List.mem_map.1 hu; rfl) (by unfold maxLen; omega) (by omega) hbase
 rw [← cV] at h2
 unfold Oper.wp execOp
 simp only [ho,resolve,invoke,builtin,Sem.run_bind,Sem.run_pure,Result.andThen_ok,List.map_toArray,List.map_cons,List.map_nil,hs,hx,hrun]
 rcases h2.2 with ⟨_,h0⟩ | ⟨g,cap,cur,hv,_⟩
 · omega
 · subst hv
   refine h _ _ _ h2 ⟨h3,?_⟩
   rcases h5 with h5 | h5
   · exact .inl h5
   · exact .inr ⟨_,h5,Nat.le_refl _⟩
theorem Gx {K:Act→World→Prop} {E:Prop} (hgd:o.guard=none) (s x:Operand) (ho:o.op = .call { callee:=.builtin .append,args:=#[s,x],argTypes:=#[118,118] })
 (base:Nat) (A:Option Addr) (m c:Nat) (l:List UInt8) (hs:a.eval s = .slice A m c) (hown:w.ownsRow base 5 1 (.slice A m c) m (aF l))
 (cs:Array Value) (k c2:Nat) (b:List UInt8) (hcs:cs.toList=aF b) (hk:0<k) (hbk:b.length=k) (hx:a.eval x = .slice (some ⟨w.heap.size,0,none⟩) k c2) (hm:m+k≤140737488355328) (hbase:base≤w.heap.size)
 (h:∀ A' c' w',w'.ownsRow base 5 1 (.slice A' (m+k) c') (m+k) (aF (l ++ b))→dE w w' (.slice A m c) (.slice A' (m+k) c')→K (a.put o.dst (.slice A' (m+k) c')) w') :
 if Region.wanted o (yielded ops a.tmps)=true then Oper.wp Tryz.prog o a (w.alloc (.cells cs 5)).drew K Q else E:=by
 have hw:Region.wanted o (yielded ops a.tmps)=true:=by simp [Region.wanted,hgd]
 rw [if_pos hw]
 refine LY (w:=(w.alloc (.cells cs 5)).drew) s x ho base A m c l hs (hown.alloc _) w.heap.size 0 k c2 b ?_ hk hbk hx hm (by simpa using Nat.le_succ_of_le hbase) (fun A' c' w' o' g'=>h A' c' w' o' ?_)
 · rw [← hcs]; exact (dw.new w 5 cs).drew
 · refine dE.trans (b:=(w.alloc (.cells cs 5)).drew) (v:=.slice A m c) ⟨⟨rfl,rfl,rfl,by simp,fun k hk _=>?_⟩,.inl rfl⟩ g'
   exact Below.heap_alloc _ _ _ hk
theorem gC (hgd:o.guard=none) (s x:Operand) (ho:o.op = .call { callee:=.builtin .append,args:=#[s,x],argTypes:=#[118,118] })
 (base:Nat) (A:Option Addr) (m c:Nat) (l:List UInt8) (hs:a.eval s = .slice A m c) (hown:w.ownsRow base 5 1 (.slice A m c) m (aF l))
 (u:Int) (b:UInt8) (hu:u=(b.toNat:Int)) (hx:a.eval x = .slice (some ⟨w.heap.size,0,none⟩) 1 1) (hm:m+1≤140737488355328) (hbase:base≤w.heap.size)
 (h:∀ A' c' w',w'.ownsRow base 5 1 (.slice A' (m+1) c') (m+1) (aF (l ++ [b]))→dE w w' (.slice A m c) (.slice A' (m+1) c')→wpList Tryz.prog ops Q rest (a.put o.dst (.slice A' (m+1) c')) w') :
 wpList Tryz.prog ops Q (o :: rest) a (w.alloc (.cells #[.int .u8 u] 5)):=
 pT hgd s x ho base A m c l hs hown #[.int .u8 u] 1 (by decide) [b] (by subst hu; rfl) rfl hx hm hbase h
end
theorem cN {P:Program} {w:World} {base:Nat} {src dst e:TypeId} {A:Option Addr} {n c:Nat} {l:List UInt8} (hs:P.underlying src=some (.slice e)) (he:P.underlying e=some (.int .u8)) (hd:P.underlying dst=some .string)
 (hown:w.ownsRow base e 1 (.slice A n c) n (aF l)):(convert src dst (.slice A n c)).run P w = .ok (.string ⟨l.toArray⟩) w:=by
 have hn:l.length=n:=by have:=hown.1; simpa [aF] using this
 rcases hown.2 with ⟨h0,hn0⟩ | ⟨g,cap,cur,hv,_⟩
 · injection h0 with h1 h2 h3
   subst h1; subst h2; subst h3
   have hl0:l=[]:=List.eq_nil_of_length_eq_zero hn
   subst hl0
   exact Lib.run_convert_nil_bytes w src dst e 0 hs he hd
 · injection hv with h1 h2 h3
   subst h1
   subst hn
   refine run_convert_bytes_back w src dst e ⟨g,0,none⟩ c l hs he hd (fun j hj=>?_)
   exact hown.cells (g:=g) rfl j _ (by simp [aF,hj])
theorem qZ {P:Program} {w:World} {src dst e:TypeId} {b off n c:Nat} {l:List UInt8} (hs:P.underlying src=some (.slice e)) (he:P.underlying e=some (.int .u8)) (hd:P.underlying dst=some .string)
 (hr:dw w b off (aF l)) (hn:l.length=n):(convert src dst (.slice (some ⟨b,off,none⟩) n c)).run P w = .ok (.string ⟨l.toArray⟩) w:=by
 subst hn
 refine run_convert_bytes_back w src dst e ⟨b,off,none⟩ c l hs he hd (fun j hj=>?_)
 have h:=hr j _ (show (aF l)[j]? = some (.int .u8 (l[j].toNat:Int)) by simp [aF,hj])
 unfold Addr.add
 split
 · rename_i h0; subst h0; simpa using h
 · exact h
theorem yY {P:Program} {w:World} {src dst e:TypeId} {n c:Nat} {cs:Array Value} {l:List UInt8} (hs:P.underlying src=some (.slice e)) (he:P.underlying e=some (.int .u8)) (hd:P.underlying dst=some .string)
 (hl:cs.toList=aF l) (hn:l.length=n):(convert src dst (.slice (some ⟨w.heap.size,0,none⟩) n c)).run P (w.alloc (.cells cs e)) = .ok (.string ⟨l.toArray⟩) (w.alloc (.cells cs e)):=
 qZ hs he hd (by rw [← hl]; exact dw.new w e cs) hn
theorem QS {a b:UInt8} (W:World) (g:Nat) (h0:W.cell? ⟨g,0,none⟩=some (.int .u8 (a.toNat:Int))) (h1:W.cell? ⟨g,1,none⟩=some (.int .u8 (b.toNat:Int))) :
 (convert 118 9 (.slice (some ⟨g,0,none⟩) 2 2)).run Tryz.prog W = .ok (.string ⟨#[a,b]⟩) W:=
 qZ (l:=[a,b]) Tryz.underlying118 Tryz.underlying5 Tryz.underlying9 (fun j u hu=>by
  match j,hu with
  | 0,hu=>simp [aF] at hu; subst hu; simpa using h0
  | 1,hu=>simp [aF] at hu; subst hu; simpa using h1) rfl
end Go.Proofs.YtcpgnjmaampglaaGreatDoor
/- Plain arithmetic for the walks of package prim: no program in sight. -/
namespace Go.Proofs.YtcpgnjmaampglaaGreatDoor
open Go.Lib (hid)
def pq (n:Int):Int:=if 0≤n then 2*n else -2*n - 1
def lO (n:Int):Int:=if n % 2=0 then n / 2 else -(n / 2) - 1
theorem CQ (a:Nat) (h:a<18446744073709551616):a ^^^ 18446744073709551615=18446744073709551615 - a:=by
 have e:BitVec.ofNat 64 a ^^^ BitVec.allOnes 64 = ~~~ BitVec.ofNat 64 a:=BitVec.xor_allOnes
 have e2:=congrArg BitVec.toNat e
 simp only [BitVec.toNat_xor,BitVec.toNat_not,BitVec.toNat_ofNat,BitVec.toNat_allOnes] at e2
 rw [Nat.mod_eq_of_lt (by omega)] at e2
 simpa using e2
theorem N1 (n:Int) (h : -9223372036854775808≤n) (h':n≤9223372036854775807) :
 bits .xor .u64 (IntKind.u64.wrap (IntKind.u64.wrap n*2)) (IntKind.u64.wrap (n / 9223372036854775808))=pq n:=by
 unfold pq
 simp only [IntKind.wrap_u64]
 rw [u64_xor _ _ (by omega) (by omega) (by omega) (by omega)]
 by_cases hn:0≤n
 · have e1:n / 9223372036854775808=0:=by omega
   rw [if_pos hn,e1]
   simp
   omega
 · have e1:n / 9223372036854775808 = -1:=by omega
   rw [if_neg hn,e1]
   have e2:(-1 % 18446744073709551616:Int).toNat=18446744073709551615:=by decide
   rw [e2,CQ _ (by omega)]
   omega
theorem u64_and1 (n:Int) (h:0≤n) (h':n<18446744073709551616):bits .and .u64 n 1=n % 2:=by
 rw [u64_and _ _ h h' (by omega) (by omega)]
 have e:(1:Int).toNat=1:=rfl
 rw [e,nat_mask1]
 omega
theorem JJ (m:Int) (h:0≤m) (h':m<9223372036854775808):bits .xor .i64 m 0=m:=by
 have e:BitVec.ofInt 64 0=0#64:=by decide
 show IntKind.i64.wrap ((BitVec.ofInt 64 m ^^^ BitVec.ofInt 64 0).toNat:Nat)=m
 rw [e,BitVec.xor_zero,BitVec.toNat_ofInt,IntKind.wrap_i64]
 omega
theorem Gy (m:Int) (h:0≤m) (h':m<9223372036854775808):bits .xor .i64 m (-1) = -m - 1:=by
 have e:BitVec.ofInt 64 (-1)=BitVec.allOnes 64:=by decide
 show IntKind.i64.wrap ((BitVec.ofInt 64 m ^^^ BitVec.ofInt 64 (-1)).toNat:Nat) = -m - 1
 rw [e,BitVec.xor_allOnes,BitVec.toNat_not,BitVec.toNat_ofInt,IntKind.wrap_i64]
 omega
theorem N3 (n:Int) (h:0≤n) (h':n<18446744073709551616) :
 bits .xor .i64 (n / 2) (RowKit.wrap64 (-RowKit.wrap64 (bits .and .u64 n 1)))=lO n:=by
 rw [u64_and1 n h h']
 unfold lO
 by_cases e:n % 2=0
 · rw [if_pos e,e]
   have e1:RowKit.wrap64 (-RowKit.wrap64 0)=0:=by unfold RowKit.wrap64; omega
   rw [e1,JJ _ (by omega) (by omega)]
 · have e2:n % 2=1:=by omega
   rw [if_neg e,e2]
   have e1:RowKit.wrap64 (-RowKit.wrap64 1) = -1:=by unfold RowKit.wrap64; omega
   rw [e1,Gy _ (by omega) (by omega)]
end Go.Proofs.YtcpgnjmaampglaaGreatDoor
/- Numbers as bytes: plain lists. -/
namespace Go.Proofs.YtcpgnjmaampglaaGreatDoor
open Go.Lib (hid)
def pz:Nat→Nat→List UInt8
 | 0,n=>[UInt8.ofNat n]
 | f+1,n=>if n<128 then [UInt8.ofNat n] else UInt8.ofNat (n % 128+128) :: pz f (n / 128)
def bg (n:Nat):List UInt8:=pz 10 n
theorem kT {f n:Nat} (h:n<128):pz f n=[UInt8.ofNat n]:=by
 cases f with
 | zero=>rfl
 | succ f=>rw [pz,if_pos h]
theorem BO:∀ (f g n:Nat),n<128 ^ (f+1)→n<128 ^ (g+1)→pz f n=pz g n
 | 0,g,n,h,_=>by rw [kT (by simpa using h),kT (by simpa using h)]
 | f+1,0,n,_,h'=>by rw [kT (by simpa using h'),kT (by simpa using h')]
 | f+1,g+1,n,h,h'=>by
  unfold pz
  split
  · rfl
  · rw [BO f g (n / 128) (Nat.div_lt_of_lt_mul (by rw [Nat.pow_succ,Nat.mul_comm] at h; exact h)) (Nat.div_lt_of_lt_mul (by rw [Nat.pow_succ,Nat.mul_comm] at h'; exact h'))]
theorem sK {n:Nat} (h:n<128):bg n=[UInt8.ofNat n]:=kT h
theorem JI {n:Nat} (h:128≤n) (h':n<18446744073709551616):bg n=UInt8.ofNat (n % 128+128) :: bg (n / 128):=by
 unfold bg
 rw [pz,if_neg (by omega),BO 9 10 (n / 128) (by omega) (by omega)]
theorem xC:∀ f n,1≤(pz f n).length∧(pz f n).length≤f+1
 | 0,n=>by simp [pz]
 | f+1,n=>by
  unfold pz
  split
  · simp
  · have:=xC f (n / 128)
    simp; omega
theorem dP (n:Nat):1≤(bg n).length∧(bg n).length≤11:=xC 10 n
theorem LX (n:Int) (h:0≤n) (h':n<18446744073709551616):bits .or .u8 (n % 256) 128=(((UInt8.ofNat (n.toNat % 128+128)).toNat:Nat):Int):=by
 obtain⟨m,rfl⟩:=Int.eq_ofNat_of_zero_le h
 rw [u8_or _ _ (by omega) (by omega) (by omega) (by omega)]
 have e1:(((m:Int) % 256).toNat:Nat)=m % 256:=by omega
 have e2:(128:Int).toNat=128:=rfl
 have e3:(UInt8.ofNat ((m:Int).toNat % 128+128)).toNat=m % 128+128:=by
  rw [UInt8.toNat_ofNat']; simp; omega
 rw [e1,e2,e3]
 have key:∀ x:Fin 256,(x.val ||| 128)=x.val % 128+128:=by decide +kernel
 have:=key ⟨m % 256,by omega⟩
 simp only at this
 rw [this]
 omega
end Go.Proofs.YtcpgnjmaampglaaGreatDoor
/- Reading a number: plain. -/
namespace Go.Proofs.YtcpgnjmaampglaaGreatDoor
open Go.Lib (hid)
def rdB (s:ByteArray):Nat→Nat→Nat→Nat × Nat × Nat
 | 0,_,_=>(0,0,4)
 | f+1,i,acc=>
  if h:i<s.size then
   if (i=9∧1<s[i].toNat)∨(0<i∧s[i].toNat=0) then (0,0,4)
   else if s[i].toNat<128 then (acc+s[i].toNat % 128*128 ^ i,i+1,0)
   else rdB s f (i+1) (acc+s[i].toNat % 128*128 ^ i)
  else (0,0,3)
def rdNum (s:ByteArray):Nat × Nat × Nat:=rdB s 10 0 0
def rdV (s:ByteArray):Value:=.tuple #[.int .u64 ((rdNum s).1:Int),.int .i64 ((rdNum s).2.1:Int),.int .i64 ((rdNum s).2.2:Int)]
theorem KH {s:ByteArray} {a k e:Nat} (h:rdNum s=(a,k,e)):rdV s = .tuple #[.int .u64 (a:Int),.int .i64 (k:Int),.int .i64 (e:Int)]:=by unfold rdV; rw [h]
section
variable {s:ByteArray} {k acc c:Nat}
theorem IZ (hk:k<10) (h:s.size≤k):rdB s (10 - k) k acc=(0,0,3):=by
 rw [show 10 - k=(9 - k)+1 from by omega,rdB,dif_neg (by omega)]
theorem KJ (hk:k<10) (h:k<s.size) (hc:s[k].toNat=c) (hb:(k=9∧1<c)∨(0<k∧c=0)):rdB s (10 - k) k acc=(0,0,4):=by
 rw [show 10 - k=(9 - k)+1 from by omega,rdB,dif_pos h,hc,if_pos hb]
theorem KK (hk:k<10) (h:k<s.size) (hc:s[k].toNat=c) (hb:¬ ((k=9∧1<c)∨(0<k∧c=0))) (h1:c<128):rdB s (10 - k) k acc=(acc+c % 128*128 ^ k,k+1,0):=by
 rw [show 10 - k=(9 - k)+1 from by omega,rdB,dif_pos h,hc,if_neg hb,if_pos h1]
theorem KL (hk:k<10) (h:k<s.size) (hc:s[k].toNat=c) (hb:¬ ((k=9∧1<c)∨(0<k∧c=0))) (h1:¬ c<128):rdB s (10 - k) k acc=rdB s (10 - (k+1)) (k+1) (acc+c % 128*128 ^ k):=by
 rw [show 10 - k=(9 - k)+1 from by omega,rdB,dif_pos h,hc,if_neg hb,if_neg h1,show 10 - (k+1)=9 - k from by omega]
theorem N6 (k:Nat):128 ^ k=2 ^ (7*k):=by rw [Nat.pow_mul]
theorem Id (hk:k<10) (hc:c<256) (h9:k=9→c≤1) (ha:acc<128 ^ k) :
 bits .or .u64 (acc:Int) (IntKind.u64.wrap (IntKind.u64.wrap (bits .and .u8 (c:Int) 127)*2 ^ (7*k)))=((acc+c % 128*128 ^ k:Nat):Int)∧acc+c % 128*128 ^ k<128 ^ (k+1)∧acc+c % 128*128 ^ k<18446744073709551616:=by
 have e1:bits .and .u8 (c:Int) 127=((c % 128:Nat):Int):=by
  rw [show (127:Int)=((127:Nat):Int) from rfl,u8_and_nat c 127 hc (by omega),nat_mask7]
 have e2:IntKind.u64.wrap ((c % 128:Nat):Int)=((c % 128:Nat):Int):=by rw [IntKind.wrap_u64]; omega
 have hp:c % 128*128 ^ k<18446744073709551616∧acc+c % 128*128 ^ k<18446744073709551616∧acc+c % 128*128 ^ k<128 ^ (k+1):=by
  have h3:acc+c % 128*128 ^ k<128 ^ (k+1):=by
   have:c % 128*128 ^ k≤127*128 ^ k:=Nat.mul_le_mul_right _ (by omega)
   rw [Nat.pow_succ]; omega
  have h4:acc+c % 128*128 ^ k<18446744073709551616:=by
   by_cases h:k=9
   · have:=h9 h
     subst h
     have:c % 128*128 ^ 9≤1*128 ^ 9:=Nat.mul_le_mul_right _ (by omega)
     omega
   · have:(128:Nat) ^ (k+1)≤128 ^ 9:=Nat.pow_le_pow_right (by omega) (by omega)
     omega
  exact⟨by omega,h4,h3⟩
 have e3:IntKind.u64.wrap (((c % 128:Nat):Int)*2 ^ (7*k))=((c % 128*128 ^ k:Nat):Int):=by
  rw [IntKind.wrap_u64,N6]
  have e4:((c % 128:Nat):Int)*2 ^ (7*k)=((c % 128*2 ^ (7*k):Nat):Int):=by
   rw [Int.natCast_mul,Int.natCast_pow]; rfl
  have:=hp.1
  rw [N6] at this
  rw [e4]; omega
 refine⟨?_,hp.2.2,hp.2.1⟩
 rw [e1,e2,e3,bits_or_u64_nat _ _ (by omega) hp.1,Nat.or_comm,nat_join (7*k) _ _ (by rw [N6]; exact Nat.mul_mod_left _ _) (by rw [← N6]; exact ha),Nat.add_comm]
end
end Go.Proofs.YtcpgnjmaampglaaGreatDoor
/- What the checks of rows say: plain. -/
namespace Go.Proofs.YtcpgnjmaampglaaGreatDoor
open Go.Lib (hid)
open Go.Lib (validD)
def iZ (s:ByteArray):Bool:=decide (s.size≤16) && validD s.data.toList
def cK (s:ByteArray):Bool:=decide (s.size≠0) && iZ s
def ranged (n lo hi:Int):Bool:=decide (lo≤n) && decide (n≤hi)
structure aB where
 name:ByteArray
 prio:Int
 need:Int
 tries:Int
 tag:ByteArray
structure av where
 name:ByteArray
 room:Int
 zone:ByteArray
structure ak where
 job:ByteArray
 node:ByteArray
 till:Int
def aH (j:aB):List Value:=[.string j.name,.int .i64 j.prio,.int .i64 j.need,.int .i64 j.tries,.string j.tag]
def aI (n:av):List Value:=[.string n.name,.int .i64 n.room,.string n.zone]
def aE (l:ak):List Value:=[.string l.job,.string l.node,.int .i64 l.till]
def eZ (j:aB):Int:=if cK j.name && iZ j.tag then (if ranged j.prio (-1000) 1000 && ranged j.need 0 1000000 && ranged j.tries 0 100 then 0 else 1) else 4
def eV (n:av):Int:=if cK n.name && iZ n.zone then (if ranged n.room 0 1000000 then 0 else 1) else 4
theorem qY {s:ByteArray} (h:s.size=0):s=⟨#[]⟩:=ByteArray.ext (Array.eq_empty_of_size_eq_zero h)
theorem kZ {s:ByteArray} (h:s.size≠0):(s.toList == [])=false:=by
 rw [beq_eq_false_iff_ne,ByteArray.toList_eq]
 intro e
 have:=congrArg List.length e
 rw [Array.length_toList] at this
 exact h this
theorem o9 {s:ByteArray} (h:s.size≠0):(s.toList == ByteArray.toList ⟨#[]⟩)=false:=by
 rw [show ByteArray.toList ⟨#[]⟩=[] from by rw [ByteArray.toList_eq]]; exact kZ h
theorem CO {s:ByteArray} (h:s.size=0):cK s=false:=by unfold cK; rw [decide_eq_false (by omega)]; rfl
theorem Ey {s:ByteArray} (h:s.size≠0):cK s=iZ s:=by unfold cK; rw [decide_eq_true h]; rfl
theorem sJ {s:ByteArray} (h:¬ s.size≤16):iZ s=false:=by unfold iZ; rw [decide_eq_false h]; rfl
theorem Ex {s:ByteArray} (h:s.size≤16):iZ s=validD s.data.toList:=by unfold iZ; rw [decide_eq_true h]; rfl
theorem aZ {n lo hi:Int}:ranged n lo hi=true↔lo≤n∧n≤hi:=by unfold ranged; simp
theorem mW {n lo hi:Int}:ranged n lo hi=false↔n<lo∨hi<n:=by
 rw [← Bool.not_eq_true,aZ]; omega
end Go.Proofs.YtcpgnjmaampglaaGreatDoor
/- Contracts of the library laid at this program, in plain words (written by the kit's lay-plain.mjs). -/
namespace Go.Proofs
open Go.Shelf
def Gz:Go.Shelf.Ren:=⟨fun | 176=>75 | 249=>127 | 288=>172 | 283=>211 | 284=>212 | 285=>213 | 286=>214 | 129=>230 | 317=>258 | 318=>259 | 319=>260 | 320=>261 | 337=>287 | 338=>288 | n=>n,fun | 37=>118 | 2=>2 | 3=>3 | 53=>146 | 4=>4 | 9=>9 | 171=>321 | 0=>0 | 173=>324 | 212=>366 | 51=>231 | 5=>5 | 20=>20 | 213=>367 | 46=>233 | 232=>397 | 233=>398 | n=>n,fun | 17=>4 | 18=>5 | 19=>6 | n=>n⟩
theorem Cr:Go.Proofs.LaysM.n176 Tryz.prog Gz:={
 mixed:=by kernel_rfl
 f129:=Tryz.func230.trans (congrArg some (by kernel_rfl))
 f176:=Tryz.func75.trans (congrArg some (by kernel_rfl))
 f249:=Tryz.func127.trans (congrArg some (by kernel_rfl))
 f283:=Tryz.func211.trans (congrArg some (by kernel_rfl))
 f284:=Tryz.func212.trans (congrArg some (by kernel_rfl))
 f285:=Tryz.func213.trans (congrArg some (by kernel_rfl))
 f286:=Tryz.func214.trans (congrArg some (by kernel_rfl))
 f288:=Tryz.func172.trans (congrArg some (by kernel_rfl))
 f317:=Tryz.func258.trans (congrArg some (by kernel_rfl))
 f318:=Tryz.func259.trans (congrArg some (by kernel_rfl))
 f319:=Tryz.func260.trans (congrArg some (by kernel_rfl))
 f320:=Tryz.func261.trans (congrArg some (by kernel_rfl))
 f337:=Tryz.func287.trans (congrArg some (by kernel_rfl))
 f338:=Tryz.func288.trans (congrArg some (by kernel_rfl))
 t0:=Tryz.underlying0
 a0:=Tryz.isAgg0
 z0:=Tryz.sizeOf0
 v0:=Tryz.zeroValue0
 t2:=Tryz.underlying2
 a2:=Tryz.isAgg2
 z2:=Tryz.sizeOf2
 v2:=Tryz.zeroValue2
 t3:=Tryz.underlying3
 a3:=Tryz.isAgg3
 z3:=Tryz.sizeOf3
 v3:=Tryz.zeroValue3
 t4:=Tryz.underlying4
 a4:=Tryz.isAgg4
 z4:=Tryz.sizeOf4
 v4:=Tryz.zeroValue4
 t5:=Tryz.underlying5
 a5:=Tryz.isAgg5
 z5:=Tryz.sizeOf5
 v5:=Tryz.zeroValue5
 t9:=Tryz.underlying9
 a9:=Tryz.isAgg9
 z9:=Tryz.sizeOf9
 v9:=Tryz.zeroValue9
 t20:=Tryz.underlying20
 a20:=Tryz.isAgg20
 z20:=Tryz.sizeOf20
 v20:=Tryz.zeroValue20
 t37:=Tryz.underlying118
 a37:=Tryz.isAgg118
 z37:=Tryz.sizeOf118
 v37:=Tryz.zeroValue118
 t46:=Tryz.underlying233
 a46:=Tryz.isAgg233
 z46:=Tryz.sizeOf233
 v46:=Tryz.zeroValue233
 t51:=Tryz.underlying231
 a51:=Tryz.isAgg231
 z51:=Tryz.sizeOf231
 v51:=Tryz.zeroValue231
 t53:=Tryz.underlying146
 a53:=Tryz.isAgg146
 z53:=Tryz.sizeOf146
 v53:=Tryz.zeroValue146
 t171:=Tryz.underlying321
 a171:=Tryz.isAgg321
 z171:=Tryz.sizeOf321
 v171:=Tryz.zeroValue321
 t173:=Tryz.underlying324
 a173:=Tryz.isAgg324
 z173:=Tryz.sizeOf324
 v173:=Tryz.zeroValue324
 t212:=Tryz.underlying366
 a212:=Tryz.isAgg366
 z212:=Tryz.sizeOf366
 v212:=Tryz.zeroValue366
 t213:=Tryz.underlying367
 a213:=Tryz.isAgg367
 z213:=Tryz.sizeOf367
 t232:=Tryz.underlying397
 a232:=Tryz.isAgg397
 z232:=Tryz.sizeOf397
 v232:=Tryz.zeroValue397
 t233:=Tryz.underlying398
 a233:=Tryz.isAgg398
 z233:=Tryz.sizeOf398
 v233:=Tryz.zeroValue398
 g17:=by kernel_rfl
 g18:=by kernel_rfl
 g19:=by kernel_rfl
 i0:=by kernel_rfl
 i2:=by kernel_rfl
 i3:=by kernel_rfl
 i4:=by kernel_rfl
 i5:=by kernel_rfl
 i9:=by kernel_rfl
 i20:=by kernel_rfl
 i37:=by kernel_rfl
 i46:=by kernel_rfl
 i51:=by kernel_rfl
 i53:=by kernel_rfl
 i171:=by kernel_rfl
 i173:=by kernel_rfl
 i212:=by kernel_rfl
 i232:=by kernel_rfl
 i233:=by kernel_rfl
 m17:=by kernel_rfl
 m18:=by kernel_rfl
 m19:=by kernel_rfl }
end Go.Proofs
