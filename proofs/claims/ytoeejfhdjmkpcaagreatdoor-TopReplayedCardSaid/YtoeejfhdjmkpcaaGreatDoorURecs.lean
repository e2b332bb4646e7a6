/- Of the proof of a statement: Recs, PlRx, PlGone, Chk, Read, Reads, TextR. -/
import Derived.Deep.AppendLies
import Derived.Lib.ValidLaws
import Derived.Test.YtoeejfhdjmkpcaaGreatDoorUPlSum
import Derived.Test.YtoeejfhdjmkpcaaGreatDoorURTab
set_option linter.unusedVariables false
set_option linter.unusedSimpArgs false
set_option maxRecDepth 100000
set_option maxHeartbeats 8000000
/- Rows of records: lists of elements of several cells each. -/
namespace Go.Proofs.YtoeejfhdjmkpcaaGreatDoor
open Go.Lib (hid)
open Go.RowKit
def au {α:Type} (enc:α→List Value) (l:List α):List Value:=l.flatMap enc
section
variable {α:Type} {enc:α→List Value} {sz:Nat}
theorem bS (l k:List α):au enc (l ++ k)=au enc l ++ au enc k:=List.flatMap_append
theorem nL (a:α):au enc [a]=enc a:=by simp [au]
theorem iK (h:∀ a,(enc a).length=sz):∀ l:List α,(au enc l).length=l.length*sz
 | []=>by simp [au]
 | a :: l=>by
  have:=iK h l
  unfold au at this ⊢
  rw [List.flatMap_cons,List.length_append,this,h,List.length_cons,Nat.add_mul]; omega
theorem qc (h:∀ a,(enc a).length=sz):∀ (l:List α) (i j:Nat) (a:α),l[i]? = some a→j<sz→(au enc l)[i*sz+j]? = (enc a)[j]?
 | [],i,j,a,hi,_=>by simp at hi
 | b :: l,0,j,a,hi,hj=>by
  simp only [List.getElem?_cons_zero,Option.some.injEq] at hi
  subst hi
  unfold au
  rw [List.flatMap_cons,Nat.zero_mul,Nat.zero_add,List.getElem?_append_left (by rw [h]; exact hj)]
 | b :: l,i+1,j,a,hi,hj=>by
  have:=qc h l i j a (by simpa using hi) hj
  unfold au at this ⊢
  rw [List.flatMap_cons,List.getElem?_append_right (by rw [h,Nat.add_mul]; omega),h,show (i+1)*sz+j - sz=i*sz+j from by rw [Nat.add_mul]; omega]
  exact this
theorem aQ.cR {w:World} {B n:Nat} {A:Option Addr} {l:List α} (hz:∀ a,(enc a).length=sz) (h:aQ w B sz A n (au enc l)) (hl:l.length=n) {i:Nat} {a:α} (hi:l[i]? = some a) :
 ∃ b off,A=some ⟨b,off,none⟩∧b<B∧∀ j u,(enc a)[j]? = some u→w.cell? ⟨b,off+i*sz+j,none⟩=some u:=by
 have hin:i<n:=by
  rw [← hl]
  rcases Nat.lt_or_ge i l.length with h1 | h1
  · exact h1
  · rw [List.getElem?_eq_none h1] at hi; cases hi
 obtain⟨b,off,e,hB,hr⟩:=h.at_ (by omega)
 refine⟨b,off,e,hB,fun j u hu=>?_⟩
 rw [Nat.add_assoc]
 refine hr _ _ ?_
 have hj:j<sz:=by
  rw [← hz a]
  rcases Nat.lt_or_ge j (enc a).length with h1 | h1
  · exact h1
  · rw [List.getElem?_eq_none h1] at hu; cases hu
 rw [qc hz l i j a hi hj]; exact hu
end
theorem cP {w:World} {base:Nat} {e:TypeId} {sz n c:Nat} {A:Option Addr} {xs:List Value} (h:w.ownsRow base e sz (.slice A n c) n xs):aQ w w.heap.size sz A n xs:=
 ⟨h.1,fun hn=>by
  obtain⟨g,cap,hv,hb,hg⟩:=h.form hn
  injection hv with hA _ hc
  subst hA; subst hc
  refine⟨g,0,rfl,hg,fun j u hu=>?_⟩
  have hj:j<n*sz:=by
   rw [← h.1]
   rcases Nat.lt_or_ge j xs.length with h1 | h1
   · exact h1
   · rw [List.getElem?_eq_none h1] at hu; cases hu
  rw [Nat.zero_add,h.cellAt j hj]; exact hu⟩
section
variable {P:Program} {w:World} {ops:Array Oper} {rest:List Oper} {o:Oper} {a:Act} {Q:Exit→Act→World→Prop}
theorem iB {α:Type} (enc:α→List Value) (hgd:o.guard=none) (s x:Operand) (t e:TypeId) (z:Value) (sz bytes:Nat) (ho:o.op = .call { callee:=.builtin .append,args:=#[s,x],argTypes:=#[t,t] })
 (ht:P.underlying t=some (.slice e)) (hinfo:(P.info? e).map (fun i=>(i.zero,i.size,i.bytes))=some (some z,sz,bytes)) (hzs:z.cells.size=sz) (hsz:0<sz)
 (henc:∀ a,(enc a).length=sz) (h1:∀ a,∀ u ∈ enc a,u.oneCell'=true)
 (base:Nat) (A:Option Addr) (m c:Nat) (l:List α) (hs:a.eval s = .slice A m c) (hown:w.ownsRow base e sz (.slice A m c) m (au enc l))
 (cs:Array Value) (b:α) (hu:cs.toList=enc b) (g:Nat) (hg:w.heap.size=g) (hx:a.eval x = .slice (some ⟨g,0,none⟩) 1 1) (hm:(m+1)*bytes≤140737488355328) (h63:m+1≤maxLen) (hbase:base≤w.heap.size)
 (h:∀ A' c' w',w'.ownsRow base e sz (.slice A' (m+1) c') (m+1) (au enc (l ++ [b]))→cE w w' (.slice A m c) (.slice A' (m+1) c')→wpList P ops Q rest (a.put o.dst (.slice A' (m+1) c')) w') :
 wpList P ops Q (o :: rest) a (w.alloc (.cells cs e)):=by
 subst hg
 obtain⟨i0,hi,hz0,hz1,hz2⟩:=info_parts hinfo
 have hcs:cs.size=1*sz:=by rw [← Array.length_toList,hu,henc,Nat.one_mul]
 refine vW hgd s x t ho base e i0 z sz bytes ht hi hz0 hz1 hz2 hzs hsz _ m _ hs hown cs 1 (by omega) hx hcs (fun u hu'=>?_) h63 hm hbase (fun v' w' o' g' b' _=>?_)
 · rw [hu] at hu'
   exact h1 _ _ hu'
 · have e1:au enc l ++ cs.toList=au enc (l ++ [b]):=by rw [hu,bS,nL]
   rw [e1] at o'
   obtain⟨g,cap,hv,_⟩:=o'.form (by omega)
   subst hv
   exact h _ _ _ o' ⟨g',b'⟩
end
end Go.Proofs.YtoeejfhdjmkpcaaGreatDoor
/- What a reader of bytes gives: plain. -/
namespace Go.Proofs.YtoeejfhdjmkpcaaGreatDoor
open Go.Lib (hid)
inductive RR (α:Type) where
 | ok (a:α) (r:ByteArray)
 | bad (e:Nat)
def RR.bind {α β:Type} (x:RR α) (f:α→ByteArray→RR β):RR β:=match x with
 | .ok a r=>f a r
 | .bad e=>.bad e
theorem RR.bind_ok {α β:Type} (a:α) (r:ByteArray) (f:α→ByteArray→RR β):(RR.ok a r).bind f=f a r:=rfl
theorem RR.fI {α β:Type} (e:Nat) (f:α→ByteArray→RR β):(RR.bad e:RR α).bind f = .bad e:=rfl
def RR.st {α:Type} (x:RR α):RR Unit:=x.bind fun _ r=>.ok () r
def RR.Good {α:Type} (N:Nat) (x:RR α):Prop:=match x with
 | .ok _ r=>r.size≤N
 | .bad e=>e≠0∧e≤10
theorem RR.Good.bind {α β:Type} {N:Nat} {x:RR α} {f:α→ByteArray→RR β} (h:x.Good N) (hf:∀ a r,r.size≤N→(f a r).Good N):(x.bind f).Good N:=by
 cases x with
 | ok a r=>exact hf a r h
 | bad e=>exact h
theorem RR.Good.st {α:Type} {N:Nat} {x:RR α} (h:x.Good N):x.st.Good N:=h.bind fun _ _ hr=>hr
def cO (s:ByteArray):RR Nat:=if (rdNum s).2.2=0 then (if 4611686018427387904<(rdNum s).1 then .bad 2 else .ok (rdNum s).1 (s.extract (rdNum s).2.1 s.size)) else .bad (rdNum s).2.2
def bH (s:ByteArray):RR ByteArray:=if (lI s).2.2=0 then .ok (lI s).1 (s.extract (lI s).2.1 s.size) else .bad (lI s).2.2
theorem Av {s:ByteArray} {a k:Nat} (h:rdNum s=(a,k,0)) (hl:¬ 4611686018427387904<a):cO s = .ok a (s.extract k s.size):=by unfold cO; rw [h]; simp only; rw [if_pos trivial,if_neg hl]
theorem yI {s:ByteArray} {a k:Nat} (h:rdNum s=(a,k,0)) (hl:4611686018427387904<a):cO s = .bad 2:=by unfold cO; rw [h]; simp only; rw [if_pos trivial,if_pos hl]
theorem Ct {s:ByteArray} {a k e:Nat} (h:rdNum s=(a,k,e)) (he:e≠0):cO s = .bad e:=by unfold cO; rw [h]; simp only; rw [if_neg he]
theorem tu {s t:ByteArray} {k:Nat} (h:lI s=(t,k,0)):bH s = .ok t (s.extract k s.size):=by unfold bH; rw [h]; simp only; rw [if_pos trivial]
theorem vv {s t:ByteArray} {k e:Nat} (h:lI s=(t,k,e)) (he:e≠0):bH s = .bad e:=by unfold bH; rw [h]; simp only; rw [if_neg he]
theorem qT {s:ByteArray} {k N:Nat} (h:s.size≤N):(s.extract k s.size).size≤N:=by
 rw [ByteArray.size_extract]; omega
theorem zX {s:ByteArray} {N:Nat} (h:s.size≤N):(cO s).Good N:=by
 rcases hr:rdNum s with ⟨a,k,e⟩
 have hf:=jE hr
 by_cases he:e=0
 · subst he
   by_cases hl:4611686018427387904<a
   · rw [yI hr hl]; exact⟨by decide,by decide⟩
   · rw [Av hr hl]; exact qT h
 · rw [Ct hr he]; exact⟨he,by omega⟩
theorem KU {s r:ByteArray} {a:Nat} (h:cO s = .ok a r):a≤4611686018427387904:=by
 unfold cO at h
 split at h
 · split at h
   · cases h
   · injection h with h1 h2; omega
 · cases h
theorem rW {s t:ByteArray} {k e:Nat} (h:lI s=(t,k,e)):e≤10∧t.size≤16∧(e=0→k≤s.size):=by
 rcases hr:rdNum s with ⟨a,n,e'⟩
 have hf:=jE hr
 by_cases he:e'=0
 · subst he
   by_cases h1:16<a
   · rw [yB hr h1] at h; injection h with h2 h3; injection h3 with h4 h5; subst h2; subst h5
     exact⟨by omega,by decide,fun hh=>absurd hh (by decide)⟩
   · by_cases h2:s.size<n+a
     · rw [yC hr h1 h2] at h; injection h with h2 h3; injection h3 with h4 h5; subst h2; subst h5
       exact⟨by omega,by decide,fun hh=>absurd hh (by decide)⟩
     · cases hv:Lib.validD (s.extract n (n+a)).data.toList
       · rw [zU hr h1 h2 hv] at h; injection h with h2 h3; injection h3 with h4 h5; subst h2; subst h5
         exact⟨by omega,by decide,fun hh=>absurd hh (by decide)⟩
       · rw [Aw hr h1 h2 hv] at h; injection h with h2' h3; injection h3 with h4 h5; subst h2'; subst h5; subst h4
         exact⟨by omega,by rw [ByteArray.size_extract]; omega,fun _=>by omega⟩
 · rw [Cf hr he] at h; injection h with h2 h3; injection h3 with h4 h5; subst h2; subst h5
   exact⟨by omega,by decide,fun hh=>absurd hh he⟩
theorem DR {s:ByteArray} {N:Nat} (h:s.size≤N):(bH s).Good N:=by
 rcases hr:lI s with ⟨a,k,e⟩
 have hf:=rW hr
 by_cases he:e=0
 · subst he
   rw [tu hr]; exact qT h
 · rw [vv hr he]; exact⟨he,hf.1⟩
theorem jL {s t r:ByteArray} (h:bH s = .ok t r):t.size≤16:=by
 rcases hr:lI s with ⟨a,k,e⟩
 have hf:=rW hr
 by_cases he:e=0
 · subst he
   rw [tu hr] at h; injection h with h1 h2; subst h1; exact hf.2.1
 · rw [vv hr he] at h; cases h
def jc {α:Type} (res:RR α) (Z:α→Prop) (a:α):Prop:=match res with
 | .ok b _=>a=b
 | .bad _=>Z a
def mW (v:Int) (s:ByteArray):RR aA:=
 (bH s).bind fun name s=>(cO s).bind fun p s=>(cO s).bind fun need s=>
  (if 1<v then cO s else .ok 0 s).bind fun tries s=>(if 2<v then bH s else .ok ⟨#[]⟩ s).bind fun tag s=>.ok ⟨name,rO p,need,tries,tag⟩ s
def jM (v:Int) (s:ByteArray):RR av:=
 (bH s).bind fun name s=>(cO s).bind fun room s=>(if 1<v then bH s else .ok ⟨#[]⟩ s).bind fun zone s=>.ok ⟨name,room,zone⟩ s
def gT (s:ByteArray):RR ah:=(bH s).bind fun job s=>(bH s).bind fun node s=>(cO s).bind fun till s=>.ok ⟨job,node,till⟩ s
def uC {α:Type} (p:ByteArray→RR α):Nat→ByteArray→RR (List α)
 | 0,s=>.ok [] s
 | n+1,s=>(p s).bind fun a s=>(uC p n s).bind fun l s=>.ok (a :: l) s
def Ee (most:Nat) (s:ByteArray):RR Nat:=(cO s).bind fun n s=>if most<n then .bad 2 else .ok n s
def cW {α:Type} (most:Nat) (p:ByteArray→RR α) (s:ByteArray):RR (List α):=(Ee most s).bind fun n s=>uC p n s
end Go.Proofs.YtoeejfhdjmkpcaaGreatDoor
/- Names that are to go: in order, and none that is set: plain. -/
namespace Go.Proofs.YtoeejfhdjmkpcaaGreatDoor
open Go.Lib (hid)
open Go.Op (bytesLess)
def dQ (l:List ah) (s:ByteArray):Option ah:=l.find? fun x=>decide (x.job=s)
def cY (has:ByteArray→Bool):Option ByteArray→List ByteArray→Int
 | _,[]=>0
 | p,s :: l=>if bR s=true then (if before p s=true then (if has s=true then 7 else cY has (some s) l) else 8) else 4
def kH (has:ByteArray→Bool) (l:List ByteArray):Int:=cY has none l
def pE (s:ByteArray):ByteArray:=s
section
variable {has:ByteArray→Bool} {l:List ByteArray} {k:Nat} {s:ByteArray}
theorem uP (h:l[k]? = some s) (hn:bR s=false):cY has (prevK pE l k) (l.drop k)=4:=by
 rw [drop_cons h,cY,if_neg (by rw [hn]; simp)]
theorem rP {y:ByteArray} (h:l[k]? = some s) (hn:bR s=true) (hk:k≠0) (hy:l[k - 1]? = some y) (hl:bytesLess y.toList s.toList=false):cY has (prevK pE l k) (l.drop k)=8:=by
 rw [drop_cons h,cY,if_pos hn,if_neg]
 unfold prevK before
 rw [if_neg hk,hy]
 simp [pE,hl]
theorem wh (hb:k=0∨∃ y,l[k - 1]? = some y∧bytesLess y.toList s.toList=true):before (prevK pE l k) s=true:=by
 unfold prevK before
 rcases hb with rfl | ⟨y,hy,hl⟩
 · rfl
 · by_cases hk:k=0
   · rw [if_pos hk]
   · rw [if_neg hk,hy]; exact hl
theorem ko (h:l[k]? = some s) (hn:bR s=true) (hb:k=0∨∃ y,l[k - 1]? = some y∧bytesLess y.toList s.toList=true) (hh:has s=true):cY has (prevK pE l k) (l.drop k)=7:=by
 rw [drop_cons h,cY,if_pos hn,if_pos (wh hb),if_pos hh]
theorem lQ (h:l[k]? = some s) (hn:bR s=true) (hb:k=0∨∃ y,l[k - 1]? = some y∧bytesLess y.toList s.toList=true) (hh:has s=false) :
 cY has (prevK pE l k) (l.drop k)=cY has (prevK pE l (k+1)) (l.drop (k+1)):=by
 have e1:prevK pE l (k+1)=some s:=by unfold prevK; rw [if_neg (by omega),Nat.add_sub_cancel,h]; rfl
 rw [drop_cons h,cY,if_pos hn,if_pos (wh hb),if_neg (by rw [hh]; simp),e1]
theorem xP (h:l.length≤k) (p:Option ByteArray):cY has p (l.drop k)=0:=by
 rw [List.drop_of_length_le h]; rfl
end
def jh (s:ByteArray):List Value:=[.string s]
theorem eC (s:ByteArray):(jh s).length=1:=rfl
def lsE (l:ah):Int:=if bR l.job && bR l.node then (if ranged l.till 0 1099511627776 then 0 else 1) else 4
structure aM where
 from_:Int
 to_:Int
 jobs:List aA
 nodes:List av
 leases:List ah
 gj:List ByteArray
 gn:List ByteArray
 gl:List ByteArray
def iV (d:aM):Bool:=decide (d.jobs.length≤40) && decide (d.leases.length≤40) && decide (d.gj.length≤40) && decide (d.gl.length≤40) && decide (d.nodes.length≤20) && decide (d.gn.length≤20)
def jk (d:aM):Bool:=ranged d.from_ 0 1099511627776 && decide (d.from_<d.to_) && decide (d.to_≤1099511627776)
def iA:List Int→Int
 | []=>0
 | e :: l=>if e=0 then iA l else e
def mO (d:aM):List Int:=
 [bZ fE aA.name d.jobs,bZ eH av.name d.nodes,bZ lsE ah.job d.leases,
  kH (fun s=>(dA d.jobs s).isSome) d.gj,kH (fun s=>(dh d.nodes s).isSome) d.gn,kH (fun s=>(dQ d.leases s).isSome) d.gl]
def cD (d:aM):Int:=if jk d=false then 1 else if iV d=false then 2 else iA (mO d)
theorem gA {e:Int} {l:List Int} (h:e=0):iA (e :: l)=iA l:=by unfold iA; rw [if_pos h]; cases l <;> rfl
theorem vL {e:Int} {l:List Int} (h:e≠0):iA (e :: l)=e:=by unfold iA; rw [if_neg h]
end Go.Proofs.YtoeejfhdjmkpcaaGreatDoor
/- The walks of the checks of one row, in the program. -/
namespace Go.Proofs.YtoeejfhdjmkpcaaGreatDoor
open Go.Lib (hid)
open Go.RowKit
open Go.Lib (validD)
theorem rX (s:ByteArray) (w:World) (hs:s.size≤9223372036854775807) (hT:Tabs w):Calls Tryz.prog 257 #[.string s] w fun e w'=>e = .returned (.bool (iT s))∧Below w.heap.size w w':=by
 by_cases h:s.size≤16
 · rw [Ca h]
   have hV:=hid (vg s w hs hT)
   generalize validD s.data.toList=b at hV ⊢
   go_enter Tryz.func257,Tryz.ntmps257
   go_wp2_with fail
   refine Calls.mono hV.out ?_
   rintro e w1 ⟨rfl,hb⟩
   go_wp2
   go_ret
   exact⟨rfl,hb⟩
 · rw [rT h]
   go_enter Tryz.func257,Tryz.ntmps257
   go_wp2
   go_ret
   exact⟨rfl,Below.refl _ _⟩
theorem fU (s:ByteArray) (w:World) (hs:s.size≤9223372036854775807) (hT:Tabs w):Calls Tryz.prog 256 #[.string s] w fun e w'=>e = .returned (.bool (bR s))∧Below w.heap.size w w':=by
 by_cases h:s.size=0
 · rw [AH h]
   obtain rfl:=wV h
   go_enter Tryz.func256,Tryz.ntmps256
   go_wp2
   go_ret
   exact⟨rfl,Below.refl _ _⟩
 · rw [B9 h]
   have hV:=hid (rX s w hs hT)
   have e1:=sC h
   have e2:=uj h
   generalize iT s=b at hV ⊢
   go_enter Tryz.func256,Tryz.ntmps256
   go_wp2_with fail
   refine Calls.mono hV.out ?_
   rintro e w1 ⟨rfl,hb⟩
   go_wp2
   go_ret
   exact⟨rfl,hb⟩
theorem Cu (n lo hi:Int) (h1:lo≤n) (h2:n≤hi) (w:World):Calls Tryz.prog 234 #[.int .i64 n,.int .i64 lo,.int .i64 hi] w fun e w'=>e = .returned (.bool true)∧w=w':=by
 have e2:decide (n≤hi)=true:=decide_eq_true h2
 go_enter Tryz.func234,Tryz.ntmps234
 go_wp2
 go_ret
 exact⟨rfl,rfl⟩
theorem DU (n lo hi:Int) (h:n<lo∨hi<n) (w:World):Calls Tryz.prog 234 #[.int .i64 n,.int .i64 lo,.int .i64 hi] w fun e w'=>e = .returned (.bool false)∧w=w':=by
 by_cases h1:lo≤n
 · have h2:hi<n:=by omega
   have e2:decide (n≤hi)=false:=decide_eq_false (by omega)
   clear h
   go_enter Tryz.func234,Tryz.ntmps234
   go_wp2
   go_ret
   exact⟨rfl,rfl⟩
 · have e1:decide (lo≤n)=false:=decide_eq_false h1
   clear h
   go_enter Tryz.func234,Tryz.ntmps234
   go_wp2
   go_ret
   exact⟨rfl,rfl⟩
theorem jJ (n lo hi:Int) (w:World):Calls Tryz.prog 234 #[.int .i64 n,.int .i64 lo,.int .i64 hi] w fun e w'=>e = .returned (.bool (ranged n lo hi))∧w=w':=by
 cases h:ranged n lo hi
 · exact DU n lo hi (iw.1 h) w
 · exact Cu n lo hi (aZ.1 h).1 (aZ.1 h).2 w
theorem tZ (j:aA) (w:World) (h1:j.name.size≤9223372036854775807) (h2:j.tag.size≤9223372036854775807) (hT:Tabs w) :
 Calls Tryz.prog 156 #[.agg (aJ j).toArray] w fun e w'=>e = .returned (.int .i64 (fE j))∧Below w.heap.size w w':=by
 obtain⟨E,hE⟩:∃ E,fE j=E:=⟨_,rfl⟩
 rw [hE]
 have HE:=hid hE
 clear hE
 obtain⟨name,prio,need,tries,tag⟩:=j
 unfold aJ
 simp only at h1 h2 ⊢
 have hb0:Below w.heap.size w (w.alloc (.cells #[.string name,.int .i64 prio,.int .i64 need,.int .i64 tries,.string tag] 34)):=(Below.refl _ _).alloc (Nat.le_refl _) _
 have hT0:=hT.below hb0
 have hN:=hid (fU name _ h1 hT0)
 have HT:=hid hT0
 have HB:=hid hb0
 clear hT0 hb0 hT
 go_enter Tryz.func156,Tryz.ntmps156
 go_wp2_with fail
 refine Calls.mono hN.out ?_
 rintro e w1 ⟨rfl,hb1⟩
 have y1:w1.cell? ⟨w.heap.size,1,none⟩=some (.int .i64 prio):=by rw [(dN hb1).1 _ _ (by simp)]; simp [go_sem]
 have y2:w1.cell? ⟨w.heap.size,2,none⟩=some (.int .i64 need):=by rw [(dN hb1).1 _ _ (by simp)]; simp [go_sem]
 have y3:w1.cell? ⟨w.heap.size,3,none⟩=some (.int .i64 tries):=by rw [(dN hb1).1 _ _ (by simp)]; simp [go_sem]
 have y4:w1.cell? ⟨w.heap.size,4,none⟩=some (.string tag):=by rw [(dN hb1).1 _ _ (by simp)]; simp [go_sem]
 have HB1:=hid (HB.out.trans (hb1.mono HB.out.size))
 have HT1:=hid (HT.out.below hb1)
 have hsz:w.heap.size<w1.heap.size:=by have:=hb1.size; simp at this; omega
 clear hb1 HB HT hN
 cases hn:bR name
 · go_wp2
   go_ret
   exact⟨bA (by rw [← HE.out]; simp [fE,hn]),HB1.out⟩
 go_wp2_with fail
 refine Calls.mono (rX tag w1 h2 HT1.out) ?_
 rintro e w2 ⟨rfl,hb2⟩
 replace y1:=((dN hb2).1 _ _ hsz).trans y1
 replace y2:=((dN hb2).1 _ _ hsz).trans y2
 replace y3:=((dN hb2).1 _ _ hsz).trans y3
 have HB2:=hid (HB1.out.trans (hb2.mono HB1.out.size))
 clear y4 hb2 HB1 HT1 hsz
 cases ht:iT tag
 · go_wp2
   go_ret
   exact⟨bA (by rw [← HE.out]; simp [fE,hn,ht]),HB2.out⟩
 go_wp2_with fail
 refine Calls.mono (jJ _ _ _ _) ?_
 rintro e w3 ⟨rfl,rfl⟩
 cases hr1:ranged prio (-1000) 1000
 · go_wp2
   go_ret
   exact⟨bA (by rw [← HE.out]; simp [fE,hn,ht,hr1]),HB2.out⟩
 go_wp2_with fail
 refine Calls.mono (jJ _ _ _ _) ?_
 rintro e w3 ⟨rfl,rfl⟩
 cases hr2:ranged need 0 1000000
 · go_wp2
   go_ret
   exact⟨bA (by rw [← HE.out]; simp [fE,hn,ht,hr1,hr2]),HB2.out⟩
 go_wp2_with fail
 refine Calls.mono (jJ _ _ _ _) ?_
 rintro e w3 ⟨rfl,rfl⟩
 cases hr3:ranged tries 0 100
 · go_wp2
   go_ret
   exact⟨bA (by rw [← HE.out]; simp [fE,hn,ht,hr1,hr2,hr3]),HB2.out⟩
 · go_wp2
   go_ret
   exact⟨bA (by rw [← HE.out]; simp [fE,hn,ht,hr1,hr2,hr3]),HB2.out⟩
theorem qS (n:av) (w:World) (h1:n.name.size≤9223372036854775807) (h2:n.zone.size≤9223372036854775807) (hT:Tabs w) :
 Calls Tryz.prog 158 #[.agg (aB n).toArray] w fun e w'=>e = .returned (.int .i64 (eH n))∧Below w.heap.size w w':=by
 obtain⟨E,hE⟩:∃ E,eH n=E:=⟨_,rfl⟩
 rw [hE]
 have HE:=hid hE
 clear hE
 obtain⟨name,room,zone⟩:=n
 unfold aB
 simp only at h1 h2 ⊢
 have hb0:Below w.heap.size w (w.alloc (.cells #[.string name,.int .i64 room,.string zone] 36)):=(Below.refl _ _).alloc (Nat.le_refl _) _
 have hT0:=hT.below hb0
 have hN:=hid (fU name _ h1 hT0)
 have HT:=hid hT0
 have HB:=hid hb0
 clear hT0 hb0 hT
 go_enter Tryz.func158,Tryz.ntmps158
 go_wp2_with fail
 refine Calls.mono hN.out ?_
 rintro e w1 ⟨rfl,hb1⟩
 have y1:w1.cell? ⟨w.heap.size,1,none⟩=some (.int .i64 room):=by rw [(dN hb1).1 _ _ (by simp)]; simp [go_sem]
 have y2:w1.cell? ⟨w.heap.size,2,none⟩=some (.string zone):=by rw [(dN hb1).1 _ _ (by simp)]; simp [go_sem]
 have HB1:=hid (HB.out.trans (hb1.mono HB.out.size))
 have HT1:=hid (HT.out.below hb1)
 have hsz:w.heap.size<w1.heap.size:=by have:=hb1.size; simp at this; omega
 clear hb1 HB HT hN
 cases hn:bR name
 · go_wp2
   go_ret
   exact⟨bA (by rw [← HE.out]; simp [eH,hn]),HB1.out⟩
 go_wp2_with fail
 refine Calls.mono (rX zone w1 h2 HT1.out) ?_
 rintro e w2 ⟨rfl,hb2⟩
 replace y1:=((dN hb2).1 _ _ hsz).trans y1
 have HB2:=hid (HB1.out.trans (hb2.mono HB1.out.size))
 clear y2 hb2 HB1 HT1 hsz
 cases ht:iT zone
 · go_wp2
   go_ret
   exact⟨bA (by rw [← HE.out]; simp [eH,hn,ht]),HB2.out⟩
 go_wp2_with fail
 refine Calls.mono (jJ _ _ _ _) ?_
 rintro e w3 ⟨rfl,rfl⟩
 cases hr1:ranged room 0 1000000
 · go_wp2
   go_ret
   exact⟨bA (by rw [← HE.out]; simp [eH,hn,ht,hr1]),HB2.out⟩
 · go_wp2
   go_ret
   exact⟨bA (by rw [← HE.out]; simp [eH,hn,ht,hr1]),HB2.out⟩
end Go.Proofs.YtoeejfhdjmkpcaaGreatDoor
/- The walks of ReadNumber, in the program and in the reference. -/
namespace Go.Proofs.YtoeejfhdjmkpcaaGreatDoor
open Go.Lib (hid)
open Go.RowKit
theorem sX {s:ByteArray} {k c:Nat} (h:k<s.size) (hc:s[k].toNat=c) (W:World):(Instr.index 9 (.string s) (.int .i64 (k:Int))).run Tryz.prog W = .ok (.int .u8 (c:Int)) W:=by
 rw [run_index_string W 9 s .i64 (k:Int) Tryz.underlying9,dif_pos ⟨by omega,by omega⟩]
 subst hc
 simp only [Int.toNat_natCast]
def vw (s:ByteArray) (w:World) (e:Ending) (w':World):Prop:=e = .returned (rdV s)∧w=w'
theorem vw.mk' {s:ByteArray} {w:World} {a k e:Nat} (h:rdNum s=(a,k,e)):vw s w (.returned (.tuple #[.int .u64 (a:Int),.int .i64 (k:Int),.int .i64 (e:Int)])) w:=⟨by rw [IV h],rfl⟩
def MV (s:ByteArray) (n i:Value):Prop:=∃ (k acc:Nat),k≤9∧k≤s.size∧acc<128 ^ k∧i = .int .i64 k∧n = .int .u64 acc∧rdNum s=rdB s (10 - k) k acc
theorem Jb (s:ByteArray) (w:World) (hs:s.size≤9223372036854775807) :
 Calls Tryz.prog 54 #[.string s] w (vw s w):=by
 go_enter Tryz.func54,Tryz.ntmps54
 go_wp2
 go_loop [2,3,4,5,6,7,8,10] (fun _ _ _ n _ _ i _=>MV s n i) (fun _ _ _ _ _ _ i _=>10 - (intOf i).toNat)
 case atStart=>exact⟨0,0,by omega,by omega,by decide,rfl,rfl,rfl⟩
 case round=>
  obtain⟨k,acc,hk,hks,ha,rfl,rfl,hr⟩:=hrel
  have Hr:=hid hr
  have Ha:=hid ha
  clear hr ha
  by_cases hsz:k<s.size
  · have e3:((k:Int) == s.size)=false:=by simp; omega
    obtain⟨c,hc⟩:∃ c:Nat,s[k].toNat=c:=⟨_,rfl⟩
    have hc2:c<256:=by rw [← hc]; exact s[k].toNat_lt
    have Hi:=sX hsz hc
    have Hc:=hid hc
    clear hc
    have form:=fun (hb:(k=9∧1<c)∨(0<k∧c=0))=>vw.mk' (w:=w) (Hr.out.trans (IW (by omega) hsz Hc.out hb))
    have last:=fun (hb:¬ ((k=9∧1<c)∨(0<k∧c=0))) (h1:c<128)=>vw.mk' (w:=w) (Hr.out.trans (IX (by omega) hsz Hc.out hb h1))
    have more:=fun (hb:¬ ((k=9∧1<c)∨(0<k∧c=0))) (h1:¬ c<128)=>Hr.out.trans (IY (by omega) hsz Hc.out hb h1)
    have step:=fun (h9:k=9→c≤1)=>Ex (k:=k) (by omega) hc2 h9 Ha.out
    have Form:=hid form
    have Last:=hid last
    have More:=hid more
    have Step:=hid step
    clear form last more step
    by_cases b9:9≤k <;> by_cases b0:1≤c
    all_goals first | (have e1:((k:Int) == 9)=true:=by simp; omega) | (have e1:((k:Int) == 9)=false:=by simp; omega)
    all_goals first | (have e2:((c:Int) == 0)=true:=by simp; omega) | (have e2:((c:Int) == 0)=false:=by simp; omega)
    all_goals go_wp2
    all_goals first
     | (go_ret3; exact Form.out (by omega))
     | (have st:=(Step.out (by omega)).1; go_ret3; rw [st]; exact Last.out (by omega) (by omega))
     | (have st:=Step.out (by omega); exact⟨⟨k+1,_,by omega,by omega,st.2.1,by go_num,by rw [st.1],More.out (by omega) (by omega)⟩,by simp only [intOf]; omega⟩)
  · have e3:((k:Int) == s.size)=true:=by simp; omega
    have fin:=hid (vw.mk' (w:=w) (Hr.out.trans (FW (by omega) (by omega))))
    go_wp2
    go_ret3
    exact fin.out
end Go.Proofs.YtoeejfhdjmkpcaaGreatDoor
/- The law PrimReads. -/
namespace Go.Proofs.YtoeejfhdjmkpcaaGreatDoor
open Go.Lib (hid)
open Go.RowKit
theorem vA {s:ByteArray} {k:Nat} (h:k<s.size):s.data.toList.take (k+1)=s.data.toList.take k ++ [s[k]]:=by
 rw [List.take_succ_eq_append_getElem (by simpa using h)]; rfl
theorem qy {s:ByteArray} {a k e:Nat} (h:rdNum s=(a,k,e)) (w:World) (hs:s.size≤9223372036854775807) :
 Calls Tryz.prog 54 #[.string s] w fun x w'=>x = .returned (.tuple #[.int .u64 (a:Int),.int .i64 (k:Int),.int .i64 (e:Int)])∧w=w':=
 (Jb s w hs).mono fun _ _ ⟨h1,h2⟩=>⟨by rw [h1,IV h],h2⟩
end Go.Proofs.YtoeejfhdjmkpcaaGreatDoor
/- The walks of ReadText and TextRead. -/
namespace Go.Proofs.YtoeejfhdjmkpcaaGreatDoor
open Go.Lib (hid)
open Go.RowKit
open Go.Lib (validD)
def lJ (s:ByteArray) (w:World) (e:Ending) (w':World):Prop:=e = .returned (.tuple #[.string (lI s).1,.int .i64 ((lI s).2.1:Int),.int .i64 ((lI s).2.2:Int)])∧Below w.heap.size w w'
theorem lJ.mk' {s a:ByteArray} {n e:Nat} {w w':World} (h:lI s=(a,n,e)) (hb:Below w.heap.size w w'):lJ s w (.returned (.tuple #[.string a,.int .i64 (n:Int),.int .i64 (e:Int)])) w':=⟨by rw [h],hb⟩
theorem AW (s:ByteArray) (w:World) (hs:s.size≤9223372036854775807) (hT:Tabs w):Calls Tryz.prog 170 #[.string s] w (lJ s w):=by
 obtain⟨n,k,e,hr⟩:∃ n k e,rdNum s=(n,k,e):=⟨_,_,_,rfl⟩
 have h1:=hid (qy hr w hs)
 obtain⟨f1,f2,f3,f4⟩:=jE hr
 have HR:=hid hr
 clear hr
 by_cases he:e=0
 · subst he
   have f5:=f4 rfl
   clear f4 f3
   by_cases hn:16<n
   · have fin:=hid (lJ.mk' (w:=w) (w':=w) (yB HR.out hn) (Below.refl _ _))
     go_enter Tryz.func170,Tryz.ntmps170
     go_wp2_with fail
     refine Calls.mono h1.out ?_
     rintro x w' ⟨rfl,rfl⟩
     go_wp2
     refine bodyPost_ret (v:=.tuple #[.string ⟨#[]⟩,.int .i64 0,.int .i64 2]) (by simp [results,Tryz.results170,go_sem]) rfl fin.out
   · by_cases hl:s.size<k+n
     · have fin:=hid (lJ.mk' (w:=w) (w':=w) (yC HR.out hn hl) (Below.refl _ _))
       clear f1
       go_enter Tryz.func170,Tryz.ntmps170
       go_wp2_with fail
       refine Calls.mono h1.out ?_
       rintro x w' ⟨rfl,rfl⟩
       go_wp2
       refine bodyPost_ret (v:=.tuple #[.string ⟨#[]⟩,.int .i64 0,.int .i64 3]) (by simp [results,Tryz.results170,go_sem]) rfl fin.out
     · clear f1
       have hV:=hid (vg (s.extract k (k+n)) w (by rw [ByteArray.size_extract]; omega) hT)
       cases hv:validD (s.extract k (k+n)).data.toList
       · have fin:=hid (fun w'=>lJ.mk' (w:=w) (w':=w') (zU HR.out hn hl hv))
         rw [hv] at hV
         go_enter Tryz.func170,Tryz.ntmps170
         go_wp2_with fail
         refine Calls.mono h1.out ?_
         rintro x w' ⟨rfl,rfl⟩
         go_wp2_with fail
         refine Calls.mono hV.out ?_
         rintro x w1 ⟨rfl,hb⟩
         go_wp2
         refine bodyPost_ret (v:=.tuple #[.string ⟨#[]⟩,.int .i64 0,.int .i64 4]) (by simp [results,Tryz.results170,go_sem]) rfl (fin.out _ hb)
       · have fin:=hid (fun w'=>lJ.mk' (w:=w) (w':=w') (Aw HR.out hn hl hv))
         rw [hv] at hV
         go_enter Tryz.func170,Tryz.ntmps170
         go_wp2_with fail
         refine Calls.mono h1.out ?_
         rintro x w' ⟨rfl,rfl⟩
         go_wp2_with fail
         refine Calls.mono hV.out ?_
         rintro x w1 ⟨rfl,hb⟩
         go_wp2
         refine bodyPost_ret (v:=.tuple #[.string (s.extract k (k+n)),.int .i64 ((k:Int)+n),.int .i64 0]) (by simp [results,Tryz.results170,go_sem]) rfl ?_
         have:=fin.out _ hb
         rw [Int.natCast_add] at this
         exact this
 · have fin:=hid (lJ.mk' (w:=w) (w':=w) (Cf HR.out he) (Below.refl _ _))
   clear f4 f1
   go_enter Tryz.func170,Tryz.ntmps170
   go_wp2_with fail
   refine Calls.mono h1.out ?_
   rintro x w' ⟨rfl,rfl⟩
   go_wp2
   refine bodyPost_ret (v:=.tuple #[.string ⟨#[]⟩,.int .i64 0,.int .i64 (e:Int)]) (by simp [results,Tryz.results170,go_sem]) rfl fin.out
end Go.Proofs.YtoeejfhdjmkpcaaGreatDoor
