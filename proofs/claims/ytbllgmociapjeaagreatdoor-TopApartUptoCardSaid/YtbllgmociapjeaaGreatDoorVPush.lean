/- Of the proof of a statement: Kit, Mem, Push, Pl, PlNum. -/
import Derived.Lib.Hide
import Derived.Test.YtbllgmociapjeaaGreatDoorRows
import Derived.WalkKit
import Derived.Lib.Hide
import Derived.WalkSpells
import Derived.WalkLawsBesides
import Derived.Laws.OwnMore
import Derived.Laws.Rows
import Derived.Outline
import Derived.Maps.AppendAt
import Derived.Laws.IdiomStrings
import Derived.Lib.BufferRead
import Derived.Laws.BitsAllLaws
import Derived.Below
set_option linter.unusedVariables false
set_option linter.unusedSimpArgs false
set_option maxRecDepth 100000
set_option maxHeartbeats 8000000
/- Small words that all walks use: an ending by its value. -/
namespace Go.Proofs.YtbllgmociapjeaaGreatDoor
open Go.Lib (hid)
open Go.RowKit
theorem bg {k:IntKind} {a b:Int} (h:a=b):Ending.returned (.int k a) = .returned (.int k b):=by rw [h]
theorem cY {a b:Bool} (h:a=b):Ending.returned (.bool a) = .returned (.bool b):=by rw [h]
theorem I1 {a b:ByteArray} (h:a=b):Ending.returned (.string a) = .returned (.string b):=by rw [h]
end Go.Proofs.YtbllgmociapjeaaGreatDoor
/- Words for memory: a row of cells, and a slice that reads as a list of cells. -/
namespace Go.Proofs.YtbllgmociapjeaaGreatDoor
open Go.Lib (hid)
open Go.RowKit
def fL (w:World) (b off:Nat) (xs:List Value):Prop:=∀ j u,xs[j]? = some u→w.cell? ⟨b,off+j,none⟩=some u
structure aU (w:World) (B sz:Nat) (A:Option Addr) (n:Nat) (xs:List Value):Prop where
 len:xs.length=n*sz
 at_:0<n→∃ b off,A=some ⟨b,off,none⟩∧b<B∧fL w b off xs
section
variable {w w':World} {B B' b off sz n:Nat} {A:Option Addr} {xs:List Value}
theorem fL.cell {j:Nat} {u:Value} (h:fL w b off xs) (hu:xs[j]? = some u):w.cell? ⟨b,off+j,none⟩=some u:=h j u hu
theorem fL.below (h:fL w b off xs) (hb:Below B w w') (hB:b<B):fL w' b off xs:=fun j u hu=>(hb.cell (p:=⟨b,off+j,none⟩) hB).trans (h j u hu)
theorem fL.drop (h:fL w b off xs) (k:Nat):fL w b (off+k) (xs.drop k):=fun j u hu=>by
 rw [Nat.add_assoc]; exact h (k+j) u (by rw [← hu,List.getElem?_drop])
theorem fL.take (h:fL w b off xs) (k:Nat):fL w b off (xs.take k):=fun j u hu=>h j u (by
 rw [List.getElem?_take] at hu; split at hu
 · exact hu
 · cases hu)
theorem aU.below (h:aU w B sz A n xs) (hb:Below B w w'):aU w' B sz A n xs:=
 ⟨h.len,fun hn=>by obtain⟨b,off,e,hB,hr⟩:=h.at_ hn; exact⟨b,off,e,hB,hr.below hb hB⟩⟩
theorem aU.more (h:aU w B sz A n xs) (hB:B≤B'):aU w B' sz A n xs:=
 ⟨h.len,fun hn=>by obtain⟨b,off,e,hb,hr⟩:=h.at_ hn; exact⟨b,off,e,by omega,hr⟩⟩
theorem aU.nil:aU w B sz A 0 []:=⟨by simp,fun h=>absurd h (by omega)⟩
theorem aU.cell (h:aU w B sz A n xs) {j:Nat} (hj:j<n*sz):∃ b off u,A=some ⟨b,off,none⟩∧b<B∧xs[j]? = some u∧w.cell? ⟨b,off+j,none⟩=some u:=by
 have hn:0<n:=by
  rcases Nat.eq_zero_or_pos n with h0 | h0
  · subst h0; omega
  · exact h0
 obtain⟨b,off,e,hB,hr⟩:=h.at_ hn
 have hl:j<xs.length:=by rw [h.len]; exact hj
 exact⟨b,off,xs[j],e,hB,List.getElem?_eq_getElem hl,hr j _ (List.getElem?_eq_getElem hl)⟩
theorem fL.new (w:World) (t:TypeId) (cs:Array Value):fL (w.alloc (.cells cs t)) w.heap.size 0 cs.toList:=fun j u hu=>by
 rw [cell_of_row (w.alloc (.cells cs t)) w.heap.size (0+j) cs t (0,0) (heap_alloc_new w _),Nat.zero_add]
 simpa using hu
theorem aU.new (w:World) (t:TypeId) (cs:Array Value) (h:cs.size=n*sz):aU (w.alloc (.cells cs t)) (w.heap.size+1) sz (some ⟨w.heap.size,0,none⟩) n cs.toList:=
 ⟨by simpa using h,fun _=>⟨_,_,rfl,by omega,fL.new w t cs⟩⟩
theorem aU.alloc (h:aU w B sz A n xs) (hB:B≤w.heap.size) (o:Obj):aU (w.alloc o) B sz A n xs:=h.below ((Below.refl B w).alloc hB o)
theorem aU.drew (h:aU w B sz A n xs):aU w.drew B sz A n xs:=⟨h.len,h.at_⟩
theorem fL.drew (h:fL w b off xs):fL w.drew b off xs:=h
end
theorem dI {B:Nat} {W w1:World} (hb:Below B W w1):(∀ b o,b<B→w1.cell? ⟨b,o,none⟩=W.cell? ⟨b,o,none⟩)∧(∀ b o,b<B→w1.frozen? ⟨b,o,none⟩=W.frozen? ⟨b,o,none⟩):=
 ⟨fun b o h=>hb.cell (p:=⟨b,o,none⟩) h,fun b o h=>hb.frozen (p:=⟨b,o,none⟩) h⟩
end Go.Proofs.YtbllgmociapjeaaGreatDoor
/- append of one element to a row of the call's own. -/
namespace Go.Proofs.YtbllgmociapjeaaGreatDoor
open Go.Lib (hid)
open Go.RowKit
structure bZ (w w':World) (v v':Value):Prop where
 grown:w.grownBy w' v.ownBlock
 own:v'.ownBlock=v.ownBlock∨∃ g,v'.ownBlock=some g∧w.heap.size≤g
theorem bZ.refl (w:World) (v:Value):bZ w w v v:=⟨World.grownBy.refl w _,.inl rfl⟩
theorem bZ.trans {a b c:World} {u v x:Value} (h:bZ a b u v) (k:bZ b c v x):bZ a c u x:=by
 refine⟨⟨k.grown.os.trans h.grown.os,k.grown.tape.trans h.grown.tape,k.grown.output.trans h.grown.output,Nat.le_trans h.grown.size k.grown.size,fun i hi hne=>?_⟩,?_⟩
 · refine (k.grown.block i (Nat.lt_of_lt_of_le hi h.grown.size) ?_).trans (h.grown.block i hi hne)
   rcases h.own with e | ⟨g,e,hg⟩
   · rw [e]; exact hne
   · rw [e]; intro h'; injection h' with h'; omega
 · rcases k.own with e | ⟨g,e,hg⟩
   · rw [e]; exact h.own
   · exact .inr ⟨g,e,Nat.le_trans h.grown.size hg⟩
theorem bZ.below {w w':World} {v v':Value} {B:Nat} (h:bZ w w' v v') (hB:B≤w.heap.size) (hv:∀ g,v.ownBlock=some g→B≤g):Below B w w':=
 ⟨h.grown.os,h.grown.tape,h.grown.output,h.grown.size,fun k hk=>h.grown.block k (by omega) (fun e=>by have:=hv k e.symm; omega)⟩
section
variable {P:Program} {w:World} {ops:Array Oper} {rest:List Oper} {o:Oper} {a:Act} {Q:Exit→Act→World→Prop}
theorem tO (hgd:o.guard=none) (s x:Operand) (t:TypeId)
 (ho:o.op = .call { callee:=.builtin .append,args:=#[s,x],argTypes:=#[t,t] })
 (base:Nat) (e:TypeId) (i:TypeInfo) (z:Value) (size bytes:Nat) (ht:P.underlying t=some (.slice e)) (hi:P.info? e=some i) (hz:i.zero=some z)
 (hsize:i.size=size) (hby:i.bytes=bytes) (hzs:z.cells.size=size) (hsz:0<size)
 (v:Value) (n:Nat) (xs:List Value) (hs:a.eval s=v) (hown:w.ownsRow base e size v n xs)
 (cs:Array Value) (k:Nat) (hk:0<k) (hx:a.eval x = .slice (some ⟨w.heap.size,0,none⟩) k k) (hl:cs.size=k*size) (h1:∀ u ∈ cs.toList,u.oneCell'=true)
 (h63:n+k≤maxLen) (hbytes:(n+k)*bytes≤140737488355328) (hbase:base≤w.heap.size)
 (h:∀ v' w',w'.ownsRow base e size v' (n+k) (xs ++ cs.toList)→w.grownBy w' v.ownBlock→(v'.ownBlock=v.ownBlock∨∃ g,v'.ownBlock=some g∧w.heap.size≤g)→v' ≠ .slice none 0 0→wpList P ops Q rest (a.put o.dst v') w') :
 wpList P ops Q (o :: rest) a (w.alloc (.cells cs e)):=by
 have hr:=fL.new w e cs
 refine wpList_append_own_at _ hgd s x t ho base e i z size bytes ht hi hz hsize hby hzs hsz v n xs hs (hown.alloc _) ⟨w.heap.size,0,none⟩ k k cs.toList hx (by simpa using hl)
  (fun j u hu=>?_) h1 h63 hbytes (by simp; omega) (fun v' w' o' g' hnil hb=>h v' w' o' ?_ ?_ ?_)
 · have:=hr j u hu
   unfold Addr.add
   split
   · rename_i hj; subst hj; simpa using this
   · simpa using this
 · have g0:w.grownBy (w.alloc (.cells cs e)) v.ownBlock:=⟨rfl,rfl,rfl,by simp,fun k hk _=>Below.heap_alloc _ _ _ hk⟩
   exact⟨g'.os.trans g0.os,g'.tape.trans g0.tape,g'.output.trans g0.output,Nat.le_trans g0.size g'.size,fun k hk hne=>(g'.block k (by simp; omega) hne).trans (g0.block k hk hne)⟩
 · rcases hb with hb | hb
   · exact .inl hb
   · exact .inr ⟨_,hb,by simp⟩
 · intro e0
   have:=(hnil.1 e0).2
   omega
end
def bf (l:List UInt8):List Value:=l.map fun c=>.int .u8 (c.toNat:Int)
theorem fG (l k:List UInt8):bf (l ++ k)=bf l ++ bf k:=by simp [bf]
theorem eu (l:List UInt8):(bf l).length=l.length:=by simp [bf]
section
variable {w:World} {ops:Array Oper} {rest:List Oper} {o:Oper} {a:Act} {Q:Exit→Act→World→Prop}
theorem Tryz.infoU8:(Tryz.prog.info? 5).map (fun i=>(i.zero,i.size,i.bytes))=some (some (.int .u8 0),1,1):=by kernel_rfl
theorem Cr (hgd:o.guard=none) (s x:Operand) (ho:o.op = .call { callee:=.builtin .append,args:=#[s,x],argTypes:=#[84,84] })
 (base:Nat) (A:Option Addr) (m c:Nat) (l:List UInt8) (hs:a.eval s = .slice A m c) (hown:w.ownsRow base 5 1 (.slice A m c) m (bf l))
 (cs:Array Value) (k:Nat) (hk:0<k) (b:List UInt8) (hu:cs.toList=bf b) (hbk:b.length=k) (hx:a.eval x = .slice (some ⟨w.heap.size,0,none⟩) k k) (hm:m+k≤140737488355328) (hbase:base≤w.heap.size)
 (h:∀ A' c' w',w'.ownsRow base 5 1 (.slice A' (m+k) c') (m+k) (bf (l ++ b))→bZ w w' (.slice A m c) (.slice A' (m+k) c')→wpList Tryz.prog ops Q rest (a.put o.dst (.slice A' (m+k) c')) w') :
 wpList Tryz.prog ops Q (o :: rest) a (w.alloc (.cells cs 5)):=by
 obtain⟨i0,hi,hz0,hz1,hz2⟩:=info_parts Tryz.infoU8
 have hcs:cs.size=k:=by rw [← Array.length_toList,hu,eu,hbk]
 refine tO hgd s x 84 ho base 5 i0 (.int .u8 0) 1 1 Tryz.underlying84 hi hz0 hz1 hz2 rfl (by decide) _ m _ hs hown cs k hk hx (by omega) (fun u hu'=>?_) (by unfold maxLen; omega) (by omega) hbase (fun v' w' o' g' b' _=>?_)
 · rw [hu] at hu'
   obtain⟨c,_,rfl⟩:=List.mem_map.1 hu'
   rfl
 · have e1:bf l ++ cs.toList=bf (l ++ b):=by rw [hu,fG]
   rw [e1] at o'
   rcases o'.2 with ⟨_,h0⟩ | ⟨g,cap,cur,hv,_⟩
   · omega
   · subst hv
     exact h _ _ _ o' ⟨g',b'⟩
theorem Dk (hgd:o.guard=none) (s x:Operand) (ho:o.op = .call { callee:=.builtin .append,args:=#[s,x],argTypes:=#[84,84] })
 (base:Nat) (A:Option Addr) (m c:Nat) (l:List UInt8) (hs:a.eval s = .slice A m c) (hown:w.ownsRow base 5 1 (.slice A m c) m (bf l))
 (u:Int) (b:UInt8) (hu:u=(b.toNat:Int)) (hx:a.eval x = .slice (some ⟨w.heap.size,0,none⟩) 1 1) (hm:m+1≤140737488355328) (hbase:base≤w.heap.size)
 (h:∀ A' c' w',w'.ownsRow base 5 1 (.slice A' (m+1) c') (m+1) (bf (l ++ [b]))→bZ w w' (.slice A m c) (.slice A' (m+1) c')→wpList Tryz.prog ops Q rest (a.put o.dst (.slice A' (m+1) c')) w') :
 wpList Tryz.prog ops Q (o :: rest) a (w.alloc (.cells #[.int .u8 u] 5)):=
 Cr hgd s x ho base A m c l hs hown #[.int .u8 u] 1 (by decide) [b] (by subst hu; rfl) rfl hx hm hbase h
end
theorem eU {P:Program} {w:World} {base:Nat} {src dst e:TypeId} {A:Option Addr} {n c:Nat} {l:List UInt8} (hs:P.underlying src=some (.slice e)) (he:P.underlying e=some (.int .u8)) (hd:P.underlying dst=some .string)
 (hown:w.ownsRow base e 1 (.slice A n c) n (bf l)):(convert src dst (.slice A n c)).run P w = .ok (.string ⟨l.toArray⟩) w:=by
 have hn:l.length=n:=by have:=hown.1; simpa [bf] using this
 rcases hown.2 with ⟨h0,hn0⟩ | ⟨g,cap,cur,hv,_⟩
 · injection h0 with h1 h2 h3
   subst h1; subst h2; subst h3
   have hl0:l=[]:=List.eq_nil_of_length_eq_zero hn
   subst hl0
   exact Lib.run_convert_nil_bytes w src dst e 0 hs he hd
 · injection hv with h1 h2 h3
   subst h1
   subst hn
   refine run_convert_bytes_back w src dst e ⟨g,0,none⟩ c l hs he hd (fun j hj=>?_)
   exact hown.cells (g:=g) rfl j _ (by simp [bf,hj])
theorem oG {P:Program} {w:World} {src dst e:TypeId} {b off n c:Nat} {l:List UInt8} (hs:P.underlying src=some (.slice e)) (he:P.underlying e=some (.int .u8)) (hd:P.underlying dst=some .string)
 (hr:fL w b off (bf l)) (hn:l.length=n):(convert src dst (.slice (some ⟨b,off,none⟩) n c)).run P w = .ok (.string ⟨l.toArray⟩) w:=by
 subst hn
 refine run_convert_bytes_back w src dst e ⟨b,off,none⟩ c l hs he hd (fun j hj=>?_)
 have h:=hr j _ (show (bf l)[j]? = some (.int .u8 (l[j].toNat:Int)) by simp [bf,hj])
 unfold Addr.add
 split
 · rename_i h0; subst h0; simpa using h
 · exact h
theorem vw {P:Program} {w:World} {src dst e:TypeId} {n c:Nat} {cs:Array Value} {l:List UInt8} (hs:P.underlying src=some (.slice e)) (he:P.underlying e=some (.int .u8)) (hd:P.underlying dst=some .string)
 (hl:cs.toList=bf l) (hn:l.length=n):(convert src dst (.slice (some ⟨w.heap.size,0,none⟩) n c)).run P (w.alloc (.cells cs e)) = .ok (.string ⟨l.toArray⟩) (w.alloc (.cells cs e)):=
 oG hs he hd (by rw [← hl]; exact fL.new w e cs) hn
theorem LD {a b:UInt8} (W:World) (g:Nat) (h0:W.cell? ⟨g,0,none⟩=some (.int .u8 (a.toNat:Int))) (h1:W.cell? ⟨g,1,none⟩=some (.int .u8 (b.toNat:Int))) :
 (convert 84 9 (.slice (some ⟨g,0,none⟩) 2 2)).run Tryz.prog W = .ok (.string ⟨#[a,b]⟩) W:=
 oG (l:=[a,b]) Tryz.underlying84 Tryz.underlying5 Tryz.underlying9 (fun j u hu=>by
  match j,hu with
  | 0,hu=>simp [bf] at hu; subst hu; simpa using h0
  | 1,hu=>simp [bf] at hu; subst hu; simpa using h1) rfl
end Go.Proofs.YtbllgmociapjeaaGreatDoor
/- Plain arithmetic for the walks of package prim: no program in sight. -/
namespace Go.Proofs.YtbllgmociapjeaaGreatDoor
open Go.Lib (hid)
def mT (n:Int):Int:=if 0≤n then 2*n else -2*n - 1
def qx (n:Int):Int:=if n % 2=0 then n / 2 else -(n / 2) - 1
theorem yY (a:Nat) (h:a<18446744073709551616):a ^^^ 18446744073709551615=18446744073709551615 - a:=by
 have e:BitVec.ofNat 64 a ^^^ BitVec.allOnes 64 = ~~~ BitVec.ofNat 64 a:=BitVec.xor_allOnes
 have e2:=congrArg BitVec.toNat e
 simp only [BitVec.toNat_xor,BitVec.toNat_not,BitVec.toNat_ofNat,BitVec.toNat_allOnes] at e2
 rw [Nat.mod_eq_of_lt (by omega)] at e2
 simpa using e2
theorem Jn (n:Int) (h : -9223372036854775808≤n) (h':n≤9223372036854775807) :
 bits .xor .u64 (IntKind.u64.wrap (IntKind.u64.wrap n*2)) (IntKind.u64.wrap (n / 9223372036854775808))=mT n:=by
 unfold mT
 simp only [IntKind.wrap_u64]
 rw [u64_xor _ _ (by omega) (by omega) (by omega) (by omega)]
 by_cases hn:0≤n
 · have e1:n / 9223372036854775808=0:=by omega
   rw [if_pos hn,e1]
   simp
   omega
 · have e1:n / 9223372036854775808 = -1:=by omega
   rw [if_neg hn,e1]
   have e2:(-1 % 18446744073709551616:Int).toNat=18446744073709551615:=by decide
   rw [e2,yY _ (by omega)]
   omega
theorem u64_and1 (n:Int) (h:0≤n) (h':n<18446744073709551616):bits .and .u64 n 1=n % 2:=by
 rw [u64_and _ _ h h' (by omega) (by omega)]
 have e:(1:Int).toNat=1:=rfl
 rw [e,nat_mask1]
 omega
theorem Ez (m:Int) (h:0≤m) (h':m<9223372036854775808):bits .xor .i64 m 0=m:=by
 have e:BitVec.ofInt 64 0=0#64:=by decide
 show IntKind.i64.wrap ((BitVec.ofInt 64 m ^^^ BitVec.ofInt 64 0).toNat:Nat)=m
 rw [e,BitVec.xor_zero,BitVec.toNat_ofInt,IntKind.wrap_i64]
 omega
theorem Cs (m:Int) (h:0≤m) (h':m<9223372036854775808):bits .xor .i64 m (-1) = -m - 1:=by
 have e:BitVec.ofInt 64 (-1)=BitVec.allOnes 64:=by decide
 show IntKind.i64.wrap ((BitVec.ofInt 64 m ^^^ BitVec.ofInt 64 (-1)).toNat:Nat) = -m - 1
 rw [e,BitVec.xor_allOnes,BitVec.toNat_not,BitVec.toNat_ofInt,IntKind.wrap_i64]
 omega
theorem Jp (n:Int) (h:0≤n) (h':n<18446744073709551616) :
 bits .xor .i64 (n / 2) (RowKit.wrap64 (-RowKit.wrap64 (bits .and .u64 n 1)))=qx n:=by
 rw [u64_and1 n h h']
 unfold qx
 by_cases e:n % 2=0
 · rw [if_pos e,e]
   have e1:RowKit.wrap64 (-RowKit.wrap64 0)=0:=by unfold RowKit.wrap64; omega
   rw [e1,Ez _ (by omega) (by omega)]
 · have e2:n % 2=1:=by omega
   rw [if_neg e,e2]
   have e1:RowKit.wrap64 (-RowKit.wrap64 1) = -1:=by unfold RowKit.wrap64; omega
   rw [e1,Cs _ (by omega) (by omega)]
end Go.Proofs.YtbllgmociapjeaaGreatDoor
/- Numbers as bytes: plain lists. -/
namespace Go.Proofs.YtbllgmociapjeaaGreatDoor
open Go.Lib (hid)
def mV:Nat→Nat→List UInt8
 | 0,n=>[UInt8.ofNat n]
 | f+1,n=>if n<128 then [UInt8.ofNat n] else UInt8.ofNat (n % 128+128) :: mV f (n / 128)
def aO (n:Nat):List UInt8:=mV 10 n
theorem jM {f n:Nat} (h:n<128):mV f n=[UInt8.ofNat n]:=by
 cases f with
 | zero=>rfl
 | succ f=>rw [mV,if_pos h]
theorem xY:∀ (f g n:Nat),n<128 ^ (f+1)→n<128 ^ (g+1)→mV f n=mV g n
 | 0,g,n,h,_=>by rw [jM (by simpa using h),jM (by simpa using h)]
 | f+1,0,n,_,h'=>by rw [jM (by simpa using h'),jM (by simpa using h')]
 | f+1,g+1,n,h,h'=>by
  unfold mV
  split
  · rfl
  · rw [xY f g (n / 128) (Nat.div_lt_of_lt_mul (by rw [Nat.pow_succ,Nat.mul_comm] at h; exact h)) (Nat.div_lt_of_lt_mul (by rw [Nat.pow_succ,Nat.mul_comm] at h'; exact h'))]
theorem qA {n:Nat} (h:n<128):aO n=[UInt8.ofNat n]:=jM h
theorem EA {n:Nat} (h:128≤n) (h':n<18446744073709551616):aO n=UInt8.ofNat (n % 128+128) :: aO (n / 128):=by
 unfold aO
 rw [mV,if_neg (by omega),xY 9 10 (n / 128) (by omega) (by omega)]
theorem tT:∀ f n,1≤(mV f n).length∧(mV f n).length≤f+1
 | 0,n=>by simp [mV]
 | f+1,n=>by
  unfold mV
  split
  · simp
  · have:=tT f (n / 128)
    simp; omega
theorem cH (n:Nat):1≤(aO n).length∧(aO n).length≤11:=tT 10 n
theorem GR (n:Int) (h:0≤n) (h':n<18446744073709551616):bits .or .u8 (n % 256) 128=(((UInt8.ofNat (n.toNat % 128+128)).toNat:Nat):Int):=by
 obtain⟨m,rfl⟩:=Int.eq_ofNat_of_zero_le h
 rw [u8_or _ _ (by omega) (by omega) (by omega) (by omega)]
 have e1:(((m:Int) % 256).toNat:Nat)=m % 256:=by omega
 have e2:(128:Int).toNat=128:=rfl
 have e3:(UInt8.ofNat ((m:Int).toNat % 128+128)).toNat=m % 128+128:=by
  rw [UInt8.toNat_ofNat']; simp; omega
 rw [e1,e2,e3]
 have key:∀ x:Fin 256,(x.val ||| 128)=x.val % 128+128:=by decide +kernel
 have:=key ⟨m % 256,by omega⟩
 simp only at this
 rw [this]
 omega
end Go.Proofs.YtbllgmociapjeaaGreatDoor
