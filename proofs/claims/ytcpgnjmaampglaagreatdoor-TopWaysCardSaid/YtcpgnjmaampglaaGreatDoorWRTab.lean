/- Of the proof of a statement: PlRows, PlSt, RTab. -/
import Derived.Orders
import Derived.Below
import Derived.Test.YtcpgnjmaampglaaGreatDoorWPlChk
set_option linter.unusedVariables false
set_option linter.unusedSimpArgs false
set_option maxRecDepth 100000
set_option maxHeartbeats 8000000
/- Rows of a table, each as it should be and in order: plain. -/
namespace Go.Proofs.YtcpgnjmaampglaaGreatDoor
open Go.Lib (hid)
open Go.Op (bytesLess)
open Go.RowKit
theorem iH:∀ a b:List UInt8,(!bytesLess a b)=(bytesLess b a || b == a)
 | [],[]=>by simp [bytesLess]
 | [],_ :: _=>by simp [bytesLess]
 | _ :: _,[]=>by simp [bytesLess]
 | x :: a,y :: b=>by
  have ih:=iH a b
  simp only [bytesLess]
  by_cases h1:x<y
  · have h2:¬ y<x:=fun h=>absurd (UInt8.lt_trans h1 h) (UInt8.lt_irrefl _)
    have h3:¬ y=x:=fun h=>by subst h; exact absurd h1 (UInt8.lt_irrefl _)
    simp [h1,h2,h3]
  · by_cases h2:y<x
    · have h3:¬ x=y:=fun h=>by subst h; exact absurd h2 (UInt8.lt_irrefl _)
      simp [h1,h2,h3]
    · have h3:x=y:=UInt8.le_antisymm (UInt8.not_lt.1 h2) (UInt8.not_lt.1 h1)
      subst h3
      simpa [h1] using ih
section
variable {α:Type} (E:α→Int) (key:α→ByteArray)
def before (p:Option ByteArray) (s:ByteArray):Bool:=match p with
 | none=>true
 | some q=>bytesLess q.toList s.toList
def dS:Option ByteArray→List α→Int
 | _,[]=>0
 | p,x :: l=>if E x=0 then (if before p (key x)=true then dS (some (key x)) l else 8) else E x
def bM (l:List α):Int:=dS E key none l
def prevK (l:List α) (k:Nat):Option ByteArray:=if k=0 then none else l[k - 1]?.map key
variable {E key} {l:List α} {k:Nat} {x:α}
theorem drop_cons (h:l[k]? = some x):l.drop k=x :: l.drop (k+1):=by
 obtain⟨hlt,rfl⟩:=List.getElem?_eq_some_iff.1 h
 exact List.drop_eq_getElem_cons hlt
theorem uL (h:l[k]? = some x) (he:E x≠0):dS E key (prevK key l k) (l.drop k)=E x:=by
 rw [drop_cons h,dS,if_neg he]
theorem pX {y:α} (h:l[k]? = some x) (he:E x=0) (hk:k≠0) (hy:l[k - 1]? = some y) (hl:bytesLess (key y).toList (key x).toList=false):dS E key (prevK key l k) (l.drop k)=8:=by
 rw [drop_cons h,dS,if_pos he,if_neg]
 unfold prevK before
 rw [if_neg hk,hy]
 simp [hl]
theorem jN (h:l[k]? = some x) (he:E x=0) (hb:k=0∨∃ y,l[k - 1]? = some y∧bytesLess (key y).toList (key x).toList=true) :
 dS E key (prevK key l k) (l.drop k)=dS E key (prevK key l (k+1)) (l.drop (k+1)):=by
 have e1:prevK key l (k+1)=some (key x):=by unfold prevK; rw [if_neg (by omega),Nat.add_sub_cancel,h]; rfl
 rw [drop_cons h,dS,if_pos he,e1,if_pos]
 unfold prevK before
 rcases hb with rfl | ⟨y,hy,hl⟩
 · rfl
 · by_cases hk:k=0
   · rw [if_pos hk]
   · rw [if_neg hk,hy]; exact hl
theorem Ah (h:l.length≤k) (p:Option ByteArray):dS E key p (l.drop k)=0:=by
 rw [List.drop_of_length_le h]; rfl
end
theorem aN (j:aB):(aH j).length=5:=rfl
theorem bF (n:av):(aI n).length=3:=rfl
theorem bB (l:ak):(aE l).length=3:=rfl
structure ah where
 rev:Int
 jobs:List aB
 nodes:List av
 leases:List ak
def eu (l:List aB) (s:ByteArray):Option aB:=l.find? fun j=>decide (j.name=s)
def dX (l:List av) (s:ByteArray):Option av:=l.find? fun n=>decide (n.name=s)
def eN (st:ah) (l:ak):Int:=if (eu st.jobs l.job).isSome && (dX st.nodes l.node).isSome then (if ranged l.till 0 1099511627776 then 0 else 1) else 6
def gR (st:ah) (l:ak) (s:ByteArray):Int:=if l.node=s then (match eu st.jobs l.job with | some j=>j.need | none=>0) else 0
def gJ (st:ah) (s:ByteArray):List ak→Int
 | []=>0
 | l :: r=>gR st l s+gJ st s r
def uH (st:ah) (s:ByteArray):Int:=gJ st s st.leases
def dR (st:ah):Bool:=decide (st.jobs.length≤40) && decide (st.leases.length≤40) && decide (st.nodes.length≤20)
def om (st:ah):Bool:=st.nodes.all fun n=>decide (uH st n.name≤n.room)
def ay (st:ah):Int:=
 if ranged st.rev 0 1099511627776=false then 1
 else if dR st=false then 2
 else if bM eZ aB.name st.jobs≠0 then bM eZ aB.name st.jobs
 else if bM eV av.name st.nodes≠0 then bM eV av.name st.nodes
 else if bM (eN st) ak.job st.leases≠0 then bM (eN st) ak.job st.leases
 else if om st=true then 0 else 9
theorem lP:∀ a:List UInt8,bytesLess a a=false
 | []=>rfl
 | a :: r=>by simp [bytesLess,lP r]
theorem pJ:∀ a b c:List UInt8,bytesLess a b=true→bytesLess b c=true→bytesLess a c=true
 | _,[],_,h,_=>by simp [bytesLess] at h
 | _,_ :: _,[],_,h=>by simp [bytesLess] at h
 | [],_ :: _,_ :: _,_,_=>rfl
 | a :: x,b :: y,c :: z,h1,h2=>by
  simp only [bytesLess,Bool.or_eq_true,decide_eq_true_eq,Bool.and_eq_true,beq_iff_eq] at h1 h2 ⊢
  rcases h1 with h1 | ⟨rfl,h1⟩
  · rcases h2 with h2 | ⟨rfl,h2⟩
    · exact .inl (UInt8.lt_trans h1 h2)
    · exact .inl h1
  · rcases h2 with h2 | ⟨rfl,h2⟩
    · exact .inl h2
    · exact .inr ⟨rfl,pJ x y z h1 h2⟩
section
variable {α:Type} {E:α→Int} {key:α→ByteArray}
theorem lU:∀ (p:Option ByteArray) (l:List α),dS E key p l=0→(∀ x ∈ l,E x=0∧before p (key x)=true)∧l.Pairwise (fun a b=>bytesLess (key a).toList (key b).toList=true)
 | _,[],_=>⟨by simp,List.Pairwise.nil⟩
 | p,x :: l,h=>by
  unfold dS at h
  by_cases h1:E x=0
  · rw [if_pos h1] at h
    by_cases h2:before p (key x)=true
    · rw [if_pos h2] at h
      obtain⟨i1,i2⟩:=lU (some (key x)) l h
      refine⟨fun y hy=>?_,List.pairwise_cons.2 ⟨fun y hy=>(i1 y hy).2,i2⟩⟩
      rcases List.mem_cons.1 hy with rfl | hy
      · exact⟨h1,h2⟩
      · refine⟨(i1 y hy).1,?_⟩
        have h3:=(i1 y hy).2
        unfold before at h2 h3 ⊢
        cases p with
        | none=>rfl
        | some q=>exact pJ _ _ _ h2 h3
    · rw [if_neg h2] at h; omega
  · rw [if_neg h1] at h; exact absurd h h1
theorem cI {l:List α} (h:bM E key l=0) {x:α} (hx:x ∈ l):E x=0:=((lU none l h).1 x hx).1
theorem Aq {l:List α} (h:bM E key l=0):l.Pairwise (fun a b=>key a≠key b):=
 (lU none l h).2.imp fun {a b} hlt e=>by rw [e,lP] at hlt; cases hlt
end
theorem J9 {j:aB} (h:eZ j=0):0≤j.need∧j.need≤1000000:=by
 unfold eZ at h
 split at h
 · split at h
   · rename_i h2
     simp only [Bool.and_eq_true] at h2
     exact aZ.1 h2.1.2
   · omega
 · omega
theorem rI {α:Type} (key:α→ByteArray) {l:List α} (hp:l.Pairwise (fun a b=>key a≠key b)) {k:Nat} {x:α} (hx:l[k]? = some x) (s:ByteArray) :
 (l.take (k+1)).find? (fun a=>decide (key a=s))=if s=key x then some x else (l.take k).find? (fun a=>decide (key a=s)):=by
 have e:l.take (k+1)=l.take k ++ [x]:=by
  obtain⟨hlt,rfl⟩:=List.getElem?_eq_some_iff.1 hx
  exact (List.take_append_getElem hlt).symm
 rw [e,List.find?_append]
 by_cases hs:s=key x
 · rw [if_pos hs]
   have hnone:(l.take k).find? (fun a=>decide (key a=s))=none:=by
    rw [List.find?_eq_none]
    intro a ha hd
    have hk:key a=s:=by simpa using hd
    obtain⟨hlt,rfl⟩:=List.getElem?_eq_some_iff.1 hx
    obtain⟨i,hi,rfl⟩:=List.mem_iff_getElem.1 ha
    rw [List.length_take] at hi
    rw [List.getElem_take] at hk
    exact List.pairwise_iff_getElem.1 hp i k (by omega) hlt (by omega) (hk.trans hs)
   rw [hnone]
   simp [hs]
 · rw [if_neg hs]
   have:[x].find? (fun a=>decide (key a=s))=none:=by simpa using fun e=>hs (Eq.symm e)
   rw [this]
   simp
theorem uS (st:ah) (s:ByteArray):∀ a b:List ak,gJ st s (a ++ b)=gJ st s a+gJ st s b
 | [],b=>by simp [gJ]
 | x :: a,b=>by
  have ih:=uS st s a b
  simp only [List.cons_append,gJ,ih]; omega
theorem GM (st:ah) (s:ByteArray) {l:List ak} {k:Nat} {x:ak} (h:l[k]? = some x):gJ st s (l.take (k+1))=gJ st s (l.take k)+gR st x s:=by
 have e:l.take (k+1)=l.take k ++ [x]:=by
  obtain⟨hlt,rfl⟩:=List.getElem?_eq_some_iff.1 h
  exact (List.take_append_getElem hlt).symm
 rw [e,uS]; simp [gJ]
def uF (st:ah):Prop:=∀ j ∈ st.jobs,0≤j.need∧j.need≤1000000
theorem uG {st:ah} (h:uF st) (x:ak) (s:ByteArray):0≤gR st x s∧gR st x s≤1000000:=by
 unfold gR
 split
 · cases hx:eu st.jobs x.job with
   | none=>simp
   | some j=>exact h j (List.mem_of_find?_eq_some hx)
 · omega
theorem xG {st:ah} (h:uF st) (s:ByteArray):∀ l:List ak,0≤gJ st s l∧gJ st s l≤(l.length:Int)*1000000
 | []=>by simp [gJ]
 | x :: l=>by
  have h1:=uG h x s
  have h2:=xG h s l
  simp only [gJ,List.length_cons]
  omega
theorem EL {st:ah} (h:bM eZ aB.name st.jobs=0):uF st:=fun _ hj=>J9 (cI h hj)
abbrev Ext (w w':World):Prop:=Below w.heap.size w w'
theorem Ext.trans {a b c:World} (h:Ext a b) (k:Ext b c):Ext a c:=Below.trans h (k.mono h.size)
theorem fG {w w':World} {a:Addr} {v:Value} (h:w.cell? a=some v) (hw:Ext w w'):w'.cell? a=some v:=(hw.cell (block_lt_of_cell h)).trans h
section
variable {P:Program} {ops:Array Oper} {V:Nat→Value→World→Prop} {a0:Act} {w0:World}
structure RInv (ops:Array Oper) (V:Nat→Value→World→Prop) (a0:Act) (w0:World) (listed:Array Bool) (a:Act) (w:World):Prop where
 le:Ext w0 w
 size:a.tmps.size=a0.tmps.size
 defers:a.defers=a0.defers
 keep:∀ t,(∀ (i:Nat) (o:Oper),ops[i]? = some o→o.dst≠some t)→a.tmps[t]? = a0.tmps[t]?
 done:∀ (i:Nat) (o:Oper) t,ops[i]? = some o→listed.getD i false=true→o.dst=some t→∃ u,a.tmps[t]? = some u∧V i u w
def Bd (ops:Array Oper) (n:Nat):Bool:=
 (List.range ops.size).all fun i=>match ops[i]? with
  | some o=>(match o.dst with | some t=>decide (t<n) && (List.range i).all (fun j=>match ops[j]? with | some p=>p.dst != some t | none=>true) | none=>true) && o.after.all (fun e=>decide (e.on<i))
  | none=>true
theorem jO {n:Nat} (h:Bd ops n=true) {i:Nat} {o:Oper} (ho:ops[i]? = some o) :
 (∀ t,o.dst=some t→t<n∧∀ (j:Nat) (p:Oper),ops[j]? = some p→j<i→p.dst≠some t)∧∀ e ∈ o.after,e.on<i:=by
 unfold Bd at h
 rw [List.all_eq_true] at h
 have hi:i<ops.size:=(Array.getElem?_eq_some_iff.1 ho).1
 have h1:=h i (List.mem_range.2 hi)
 rw [ho] at h1
 simp only [Bool.and_eq_true] at h1
 obtain⟨h1,h2⟩:=h1
 refine⟨fun t ht=>?_,fun e he=>?_⟩
 · rw [ht] at h1
   simp only [Bool.and_eq_true,decide_eq_true_eq] at h1
   refine⟨h1.1,fun j p hp hj=>?_⟩
   have h3:=List.all_eq_true.1 h1.2 j (List.mem_range.2 hj)
   rw [hp] at h3
   simpa using h3
 · have:=(Array.all_eq_true_iff_forall_mem.1 h2) e he
   simpa using this
theorem gD {n:Nat} (hB:Bd ops n=true) {listed:Array Bool} (hs:listed.size=ops.size) (hr:Region.ready .any ops listed=[]):∀ i,i<ops.size→listed.getD i false=true:=by
 intro i
 induction i using Nat.strongRecOn with
 | _ i ih=>
  intro hi
  have ho:ops[i]? = some ops[i]:=Array.getElem?_eq_getElem hi
  by_cases hl:listed.getD i false=true
  · exact hl
  · exfalso
    have hm:i ∈ Region.ready .any ops listed:=mem_ready.2 ⟨by
     have hx:listed[i]? = some listed[i]:=Array.getElem?_eq_getElem (by omega)
     rw [Array.getD_eq_getD_getElem?,hx] at hl ⊢
     simpa using hl,_,ho,fun e he _=>?_⟩
    · rw [hr] at hm; cases hm
    · have hlt:=(jO hB ho).2 e he
      exact ih e.on hlt (by omega)
def Pb (ops:Array Oper) (t:Tmp):Bool:=ops.all fun o=>o.dst != some t
theorem GR {t:Tmp} (h:Pb ops t=true) (i:Nat) (o:Oper) (ho:ops[i]? = some o):o.dst≠some t:=by
 have:=(Array.all_eq_true_iff_forall_mem.1 h) o (Array.mem_of_getElem? ho)
 simpa using this
def waitsFor (o:Oper) (j:Nat):Bool:=o.after.any fun e=>e.on == j && Region.binds .any e
def Ou (P:Program) (ops:Array Oper) (V:Nat→Value→World→Prop) (a0:Act) (w0:World) (Q:Exit→Act→World→Prop) (i:Nat) (o:Oper):Prop:=
 ∀ (a:Act) (w:World),Ext w0 w→(∀ t v,a0.tmps[t]? = some v→Pb ops t=true→a.tmps[t]? = some v) →
  (∀ (j:Nat) (p:Oper) t,ops[j]? = some p→p.dst=some t→waitsFor o j=true→∃ u,a.tmps[t]? = some u∧V j u w) →
  o.guard=none∧o.wp P a w (fun a' w'=>∃ u,a'=a.put o.dst u∧Ext w w'∧V i u w') Q
theorem RInv.step {n:Nat} (hB:Bd ops n=true) (hn:a0.tmps.size=n) (hV:∀ i u w w',V i u w→Ext w w'→V i u w') {listed:Array Bool} {a:Act} {w:World} (hs:listed.size=ops.size)
 (h:RInv ops V a0 w0 listed a w) {i:Nat} {o:Oper} (ho:ops[i]? = some o) {u:Value} {w':World} (hw:Ext w w') (hu:V i u w'):RInv ops V a0 w0 (listed.setIfInBounds i true) (a.put o.dst u) w':=by
 have hi:i<ops.size:=(Array.getElem?_eq_some_iff.1 ho).1
 have hput:∀ t,o.dst≠some t→(a.put o.dst u).tmps[t]? = a.tmps[t]?:=by
  intro t ht
  unfold Act.put
  cases hd:o.dst with
  | none=>rfl
  | some d=>
   have hne:d≠t:=fun e=>ht (by rw [hd,e])
   simp [Array.getElem?_setIfInBounds,hne]
 refine⟨h.le.trans hw,?_,?_,fun t ht=>?_,fun j p t hp hl ht=>?_⟩
 · unfold Act.put; split <;> simp [h.size]
 · unfold Act.put; split <;> simp [h.defers]
 · rw [hput t (ht i o ho)]; exact h.keep t ht
 · by_cases hij:i=j
   · subst hij
     rw [ho] at hp; injection hp with hp; subst hp
     have hlt:=((jO hB ho).1 t ht).1
     refine⟨u,?_,hu⟩
     unfold Act.put
     rw [ht]
     simp only [Array.getElem?_setIfInBounds]
     rw [if_pos trivial,if_pos (by rw [h.size,hn]; exact hlt)]
   · have hl':listed.getD j false=true:=by
      rw [Array.getD_eq_getD_getElem?] at hl ⊢
      rw [Array.getElem?_setIfInBounds,if_neg hij] at hl
      exact hl
     obtain⟨u',h1,h2⟩:=h.done j p t hp hl' ht
     refine⟨u',?_,hV _ _ _ _ h2 hw⟩
     rw [hput t ?_]; exact h1
     intro e
     rcases Nat.lt_or_gt_of_ne hij with hlt | hlt
     · exact ((jO hB hp).1 t ht).2 i o ho hlt e
     · exact ((jO hB ho).1 t e).2 j p hp hlt ht
theorem count_set:∀ (l:List Bool) (i:Nat),l[i]? = some false→((l.set i true).filter (! ·)).length+1=(l.filter (! ·)).length
 | [],i,h=>by simp at h
 | x :: l,0,h=>by
  have hx:x=false:=by simpa using h
  subst hx; simp
 | x :: l,i+1,h=>by
  have ih:=count_set l i (by simpa using h)
  cases x <;> simp <;> omega
theorem rD {n:Nat} {Q:Exit→Act→World→Prop} (hB:Bd ops n=true) (hn:a0.tmps.size=n) (hV:∀ i u w w',V i u w→Ext w w'→V i u w')
 (hop:∀ (i:Nat) (o:Oper),ops[i]? = some o→Ou P ops V a0 w0 Q i o)
 (hQ:∀ a w,(∀ listed,(∀ i,i<ops.size→listed.getD i false=true)→RInv ops V a0 w0 listed a w→Q .normal a w)) :
 ∀ (fuel:Nat) (listed:Array Bool) (a:Act) (w:World),listed.size=ops.size→(listed.toList.filter (! ·)).length≤fuel→RInv ops V a0 w0 listed a w→wpAny P .any ops Q fuel listed a w
 | 0,listed,a,w,hs,hf,h=>by
  have hr:Region.ready .any ops listed=[]:=by
   cases hr:Region.ready .any ops listed with
   | nil=>rfl
   | cons i r=>
    exfalso
    have hm:i ∈ Region.ready .any ops listed:=by rw [hr]; exact List.mem_cons_self
    obtain⟨h1,o,ho,_⟩:=mem_ready.1 hm
    have hi:i<ops.size:=(Array.getElem?_eq_some_iff.1 ho).1
    have hx:listed[i]? = some listed[i]:=Array.getElem?_eq_getElem (by omega)
    rw [Array.getD_eq_getD_getElem?,hx] at h1
    have h2:false ∈ listed.toList.filter (! ·):=List.mem_filter.2 ⟨by rw [← show listed[i]=false from by simpa using h1]; exact Array.getElem_mem_toList (by omega),rfl⟩
    have:=List.length_pos_of_mem h2
    omega
  exact⟨hr,hQ a w listed (gD hB hs hr) h⟩
 | fuel+1,listed,a,w,hs,hf,h=>by
  refine⟨fun hr=>hQ a w listed (gD hB hs hr) h,fun i hi=>?_⟩
  obtain⟨h1,o,ho,hall⟩:=mem_ready.1 hi
  have hil:i<ops.size:=(Array.getElem?_eq_some_iff.1 ho).1
  have hk:=hop i o ho a w h.le (fun t v hv hn=>by rw [h.keep t (fun i o ho=>GR hn i o ho)]; exact hv) (fun j p t hp ht hj=>by
   unfold waitsFor at hj
   obtain⟨e,he,h2⟩:=Array.any_eq_true'.1 hj
   simp only [Bool.and_eq_true,beq_iff_eq] at h2
   obtain⟨h2,h3⟩:=h2
   subst h2
   exact h.done e.on p t hp (hall e he h3) ht)
  unfold wpOp
  rw [ho]
  simp only [Region.wanted,hk.1,if_true]
  refine .inl (Oper.wp_mono (fun a' w' hh=>?_) hk.2)
  obtain⟨u,rfl,hw,hu⟩:=hh
  refine rD hB hn hV hop hQ fuel _ _ _ (by simpa using hs) ?_ (h.step hB hn hV hs ho hw hu)
  have hx:listed[i]? = some listed[i]:=Array.getElem?_eq_getElem (by omega)
  rw [Array.getD_eq_getD_getElem?,hx] at h1
  have h2:listed.toList[i]? = some false:=by
   rw [Array.getElem?_toList,hx]
   simpa using h1
  have h3:=count_set listed.toList i h2
  simp only [Array.toList_setIfInBounds]
  omega
structure B5 (ops:Array Oper) (V:Nat→Value→World→Prop) (a0:Act) (w0:World) (a:Act) (w:World):Prop where
 le:Ext w0 w
 size:a.tmps.size=a0.tmps.size
 defers:a.defers=a0.defers
 keep:∀ t,(∀ (i:Nat) (o:Oper),ops[i]? = some o→o.dst≠some t)→a.tmps[t]? = a0.tmps[t]?
 done:∀ (i:Nat) (o:Oper) t,ops[i]? = some o→o.dst=some t→∃ u,a.tmps[t]? = some u∧V i u w
theorem xV {id:Nat} {n:Nat} {Q:Exit→Act→World→Prop} (hm:P.follows .mixedOrders=true) (V:Nat→Value→World→Prop) (hB:Bd ops n=true) (hn:a0.tmps.size=n) (hV:∀ i u w w',V i u w→Ext w w'→V i u w')
 (hop:∀ (i:Nat) (o:Oper),ops[i]? = some o→Ou P ops V a0 w0 Q i o) (hQ:∀ a w,B5 ops V a0 w0 a w→Q .normal a w):(Code.region id ops true).wp P Q a0 w0:=by
 refine wp_region_any hm (rD hB hn hV hop (fun a w listed hl h=>hQ a w ⟨h.le,h.size,h.defers,h.keep,fun i o t ho ht=>h.done i o t ho (hl i (Array.getElem?_eq_some_iff.1 ho).1) ht⟩) ops.size (Array.replicate ops.size false) a0 _ (by simp) ?_ ?_)
 · exact Nat.le_trans (List.length_filter_le _ _) (by simp)
 · refine⟨⟨rfl,rfl,rfl,Nat.le_refl _,fun _ _=>rfl⟩,rfl,rfl,fun _ _=>rfl,fun i o t ho hl _=>?_⟩
   rw [Array.getD_eq_getD_getElem?,Array.getElem?_replicate] at hl
   split at hl <;> simp at hl
def IJ (P:Program) (ops:Array Oper) (V:Nat→Value→World→Prop) (a0:Act) (w0:World) (Q:Exit→Act→World→Prop):Nat→List Oper→Prop
 | _,[]=>True
 | i,o :: l=>Ou P ops V a0 w0 Q i o∧IJ P ops V a0 w0 Q (i+1) l
theorem IJ.all {Q:Exit→Act→World→Prop}:∀ {l:List Oper} {k:Nat},IJ P ops V a0 w0 Q k l→∀ (i:Nat) (o:Oper),l[i]? = some o→Ou P ops V a0 w0 Q (k+i) o
 | [],_,_,i,o,h=>by simp at h
 | x :: l,k,hh,0,o,h=>by
  have e:x=o:=by simpa using h
  subst e; exact hh.1
 | x :: l,k,hh,i+1,o,h=>by
  have:=hh.2.all i o (by simpa using h)
  rwa [show k+(i+1)=k+1+i from by omega]
theorem eO {id:Nat} {n:Nat} {l:List Oper} {Q:Exit→Act→World→Prop} (hm:P.follows .mixedOrders=true) (V:Nat→Value→World→Prop) (hB:Bd l.toArray n=true) (hn:a0.tmps.size=n) (hV:∀ i u w w',V i u w→Ext w w'→V i u w')
 (hop:IJ P l.toArray V a0 w0 Q 0 l) (hQ:∀ a w,B5 l.toArray V a0 w0 a w→Q .normal a w):(Code.region id l.toArray true).wp P Q a0 w0:=
 xV hm V hB hn hV (fun i o ho=>by
  have:=hop.all i o (by simpa using ho)
  rwa [Nat.zero_add] at this) hQ
theorem Am (f:Nat→Value):∀ (ds:List Nat) (t0:Array Value) (i:Nat),(ds.foldl (fun t d=>t.setIfInBounds d (f d)) t0)[i]? = if i ∈ ds∧i<t0.size then some (f i) else t0[i]?
 | [],t0,i=>by simp
 | d :: ds,t0,i=>by
  rw [List.foldl_cons,Am f ds,Array.getElem?_setIfInBounds,Array.size_setIfInBounds]
  by_cases hi:i<t0.size
  · by_cases h1:i ∈ ds
    · simp [h1,hi]
    · by_cases h2:d=i
      · subst h2; simp [h1,hi]
      · have h3:¬ i=d:=fun e=>h2 e.symm
        simp [h1,h2,h3]
  · by_cases h2:d=i
    · subst h2
      simp [hi]
    · simp [hi,h2]
theorem B5.frame {a:Act} {w:World} (h:B5 ops V a0 w0 a w) (ds:List Nat) (hds:ops.toList.filterMap (·.dst)=ds):a = { tmps:=ds.foldl (fun t d=>t.setIfInBounds d ((a.tmps[d]?).getD undef)) a0.tmps,defers:=a0.defers }:=by
 obtain⟨t,d⟩:=a
 have h1:=h.size
 have h2:=h.defers
 have h3:=h.keep
 simp only at h1 h2 h3
 subst h2
 congr 1
 apply Array.ext_getElem?
 intro i
 rw [Am (fun d=>(t[d]?).getD undef) ds a0.tmps i]
 by_cases hi:i<a0.tmps.size
 · by_cases hm:i ∈ ds
   · rw [if_pos ⟨hm,hi⟩,Array.getElem?_eq_getElem (by omega)]; rfl
   · rw [if_neg (fun h=>hm h.1)]
     refine h3 i (fun j o ho hd=>hm ?_)
     rw [← hds]
     exact List.mem_filterMap.2 ⟨o,Array.mem_toList_iff.2 (Array.mem_of_getElem? ho),hd⟩
 · rw [if_neg (fun h=>hi h.2),Array.getElem?_eq_none (by omega),Array.getElem?_eq_none (by omega)]
theorem B5.frame' {a:Act} {w:World} (h:B5 ops V a0 w0 a w) (ds:List Nat) (hds:ops.toList.filterMap (·.dst)=ds) :
 ∃ f:Nat→Value,a = { tmps:=ds.foldl (fun t d=>t.setIfInBounds d (f d)) a0.tmps,defers:=a0.defers }∧∀ (i:Nat) (o:Oper) t,ops[i]? = some o→o.dst=some t→V i (f t) w:=
 ⟨fun d=>(a.tmps[d]?).getD undef,h.frame ds hds,fun i o t ho ht=>by
  obtain⟨u,h1,h2⟩:=h.done i o t ho ht
  simp only [h1,Option.getD_some]
  exact h2⟩
end
end Go.Proofs.YtcpgnjmaampglaaGreatDoor
