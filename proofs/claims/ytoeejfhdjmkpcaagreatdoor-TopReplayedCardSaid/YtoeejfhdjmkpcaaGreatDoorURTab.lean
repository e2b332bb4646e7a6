/- Of the proof of a statement: Tabs, PlRdF, PlTextR, Put, RTab. -/
import Derived.Shelf.Unicode.ValidAny
import Derived.Lib.LaidU8T
import Derived.Lib.ValidLaws
import Derived.Orders
import Derived.Below
import Derived.Test.YtoeejfhdjmkpcaaGreatDoorUPush
set_option linter.unusedVariables false
set_option linter.unusedSimpArgs false
set_option maxRecDepth 100000
set_option maxHeartbeats 8000000
/- The contract of utf8.ValidString, laid at this program: numbers only. -/
namespace Go.Proofs.YtoeejfhdjmkpcaaGreatDoor
open Go.Lib (hid)
open Go.RowKit Go.Shelf Go.Lib
def ren:Ren:={
 f:=fun x=>match x with
  | 196=>262
  | 259=>352
  | n=>n
 t:=fun x=>match x with
  | 0=>0
  | 3=>3
  | 4=>4
  | 5=>5
  | 9=>9
  | 12=>12
  | 46=>243
  | 53=>121
  | 119=>411
  | 138=>413
  | 139=>414
  | n=>n
 g:=fun x=>match x with
  | 3=>0
  | 4=>1
  | n=>n }
theorem Lo:Lays.n196 Tryz.prog ren:={
 mixed:=by kernel_rfl
 f196:=Tryz.func262.trans (congrArg some (by kernel_rfl))
 f259:=Tryz.func352.trans (congrArg some (by kernel_rfl))
 t0:=Tryz.underlying0
 a0:=Tryz.isAgg0
 z0:=Tryz.sizeOf0
 v0:=Tryz.zeroValue0
 t3:=Tryz.underlying3
 a3:=Tryz.isAgg3
 z3:=Tryz.sizeOf3
 v3:=Tryz.zeroValue3
 t4:=Tryz.underlying4
 a4:=Tryz.isAgg4
 z4:=Tryz.sizeOf4
 v4:=Tryz.zeroValue4
 t5:=Tryz.underlying5
 a5:=Tryz.isAgg5
 z5:=Tryz.sizeOf5
 v5:=Tryz.zeroValue5
 t9:=Tryz.underlying9
 a9:=Tryz.isAgg9
 z9:=Tryz.sizeOf9
 v9:=Tryz.zeroValue9
 t12:=Tryz.underlying12
 a12:=Tryz.isAgg12
 z12:=Tryz.sizeOf12
 v12:=Tryz.zeroValue12
 t46:=Tryz.underlying243
 a46:=Tryz.isAgg243
 z46:=Tryz.sizeOf243
 v46:=Tryz.zeroValue243
 t53:=Tryz.underlying121
 a53:=Tryz.isAgg121
 z53:=Tryz.sizeOf121
 v53:=Tryz.zeroValue121
 t119:=Tryz.underlying411
 a119:=Tryz.isAgg411
 z119:=Tryz.sizeOf411
 t138:=Tryz.underlying413
 a138:=Tryz.isAgg413
 z138:=Tryz.sizeOf413
 v138:=Tryz.zeroValue413
 t139:=Tryz.underlying414
 a139:=Tryz.isAgg414
 z139:=Tryz.sizeOf414
 v139:=Tryz.zeroValue414
 g3:=by kernel_rfl
 g4:=by kernel_rfl }
def Tabs (w:World):Prop:=Utf8Tabs (ren.g 3) (ren.g 4) w
theorem Tabs.below {w w':World} (h:Tabs w) (hb:Below w.heap.size w w'):Tabs w':=Utf8Tabs_below h hb
theorem Kr {w : World} {l : List (String × DataW Unit)} (hL : laidMet Tryz.prog l w) (h1 : ("unicode/utf8.first", firstData) ∈ l) (h2 : ("unicode/utf8.acceptRanges", acceptData) ∈ l) : Tabs w :=
 utf8Tabs_of_readsT (U8Types.of196 Lo) ⟨by kernel_rfl,by kernel_rfl,by kernel_rfl,by kernel_rfl,by kernel_rfl,by kernel_rfl,by kernel_rfl⟩ (laidMet.reads hL h1) (laidMet.reads hL h2)
theorem vg (s:ByteArray) (w:World) (hs:s.size≤9223372036854775807) (hT:Tabs w) :
 Calls Tryz.prog 262 #[.string s] w fun e w'=>e = .returned (.bool (validD s.data.toList))∧Below w.heap.size w w':=
 Any.utf8_ValidString Lo s w hs hT
end Go.Proofs.YtoeejfhdjmkpcaaGreatDoor
/- What reading a number gives: its bounds. -/
namespace Go.Proofs.YtoeejfhdjmkpcaaGreatDoor
open Go.Lib (hid)
theorem zT (s:ByteArray):∀ (f k acc:Nat),f+k=10→k≤s.size→acc<128 ^ k→∀ a n e,rdB s f k acc=(a,n,e)→a<18446744073709551616∧n≤10∧e≤4∧(e=0→1≤n∧n≤s.size)
 | 0,k,acc,_,_,_,a,n,e,h=>by
  simp only [rdB,Prod.mk.injEq] at h
  omega
 | f+1,k,acc,hf,hk,ha,a,n,e,h=>by
  rw [rdB] at h
  by_cases hs:k<s.size
  · rw [dif_pos hs] at h
    have hc:s[k].toNat<256:=s[k].toNat_lt
    by_cases hb:(k=9∧1<s[k].toNat)∨(0<k∧s[k].toNat=0)
    · rw [if_pos hb] at h
      simp only [Prod.mk.injEq] at h
      omega
    · rw [if_neg hb] at h
      obtain⟨_,h2,h3⟩:=Ex (k:=k) (acc:=acc) (c:=s[k].toNat) (by omega) hc (by omega) ha
      by_cases h1:s[k].toNat<128
      · rw [if_pos h1] at h
        simp only [Prod.mk.injEq] at h
        obtain⟨rfl,rfl,rfl⟩:=h
        exact⟨h3,by omega,by omega,fun _=>⟨by omega,by omega⟩⟩
      · rw [if_neg h1] at h
        exact zT s f (k+1) _ (by omega) (by omega) h2 a n e h
  · rw [dif_neg hs] at h
    simp only [Prod.mk.injEq] at h
    omega
theorem jE {s:ByteArray} {a n e:Nat} (h:rdNum s=(a,n,e)):a<18446744073709551616∧n≤10∧e≤4∧(e=0→1≤n∧n≤s.size):=
 zT s 10 0 0 rfl (Nat.zero_le _) (by decide) a n e h
end Go.Proofs.YtoeejfhdjmkpcaaGreatDoor
/- What ReadText gives: plain. -/
namespace Go.Proofs.YtoeejfhdjmkpcaaGreatDoor
open Go.Lib (hid)
open Go.Lib (validD)
def lI (s:ByteArray):ByteArray × Nat × Nat:=
 match rdNum s with
 | (n,k,e)=>
  if e=0 then
   if 16<n then (⟨#[]⟩,0,2)
   else if s.size<k+n then (⟨#[]⟩,0,3)
   else if validD (s.extract k (k+n)).data.toList=true then (s.extract k (k+n),k+n,0)
   else (⟨#[]⟩,0,4)
  else (⟨#[]⟩,0,e)
variable {s:ByteArray} {n k e:Nat}
theorem Cf (h:rdNum s=(n,k,e)) (he:e≠0):lI s=(⟨#[]⟩,0,e):=by unfold lI; rw [h]; simp only; rw [if_neg he]
theorem yB (h:rdNum s=(n,k,0)) (hn:16<n):lI s=(⟨#[]⟩,0,2):=by unfold lI; rw [h]; simp only; rw [if_pos trivial,if_pos hn]
theorem yC (h:rdNum s=(n,k,0)) (hn:¬ 16<n) (hl:s.size<k+n):lI s=(⟨#[]⟩,0,3):=by unfold lI; rw [h]; simp only; rw [if_pos trivial,if_neg hn,if_pos hl]
theorem Aw (h:rdNum s=(n,k,0)) (hn:¬ 16<n) (hl:¬ s.size<k+n) (hv:validD (s.extract k (k+n)).data.toList=true):lI s=(s.extract k (k+n),k+n,0):=by unfold lI; rw [h]; simp only; rw [if_pos trivial,if_neg hn,if_neg hl,if_pos hv]
theorem zU (h:rdNum s=(n,k,0)) (hn:¬ 16<n) (hl:¬ s.size<k+n) (hv:validD (s.extract k (k+n)).data.toList=false):lI s=(⟨#[]⟩,0,4):=by unfold lI; rw [h]; simp only; rw [if_pos trivial,if_neg hn,if_neg hl,if_neg (by rw [hv]; simp)]
end Go.Proofs.YtoeejfhdjmkpcaaGreatDoor
/- The walks of Put and Number, in the program and in the reference. -/
namespace Go.Proofs.YtoeejfhdjmkpcaaGreatDoor
open Go.Lib (hid)
open Go.RowKit
def KJ (base:Nat) (A:Option Addr) (m c:Nat) (l:List UInt8) (w:World) (e:Ending) (w':World):Prop:=
 ∃ A' m' c',e = .returned (.slice A' m' c')∧w'.ownsRow base 5 1 (.slice A' m' c') m' (bq l)∧cE w w' (.slice A m c) (.slice A' m' c')
def Mg (base:Nat) (A:Option Addr) (m c:Nat) (l:List UInt8) (w:World) (v i:Value) (wr:World):Prop:=
 ∃ (A':Option Addr) (m' c':Nat) (k:Int) (l':List UInt8),v = .slice A' m' c'∧i = .int .u64 k∧0≤k∧k<18446744073709551616∧l=l' ++ bJ k.toNat∧wr.ownsRow base 5 1 (.slice A' m' c') m' (bq l')∧cE w wr (.slice A m c) (.slice A' m' c')
theorem AN (base:Nat) (A:Option Addr) (m c:Nat) (l:List UInt8) (n:Int) (w:World) (h0:0≤n) (h1:n<18446744073709551616) (hown:w.ownsRow base 5 1 (.slice A m c) m (bq l)) (hm:m≤140737488355000) (hb:base≤w.heap.size) :
 Calls Tryz.prog 164 #[.slice A m c,.int .u64 n] w (KJ base A m c (l ++ bJ n.toNat) w):=by
 go_enter Tryz.func164,Tryz.ntmps164
 go_wp2
 go_loopw [0,1] (fun v i wr=>Mg base A m c (l ++ bJ n.toNat) w v i wr) (fun _ i _=>(intOf i).toNat)
 case atStart=>exact⟨A,m,c,n,l,rfl,rfl,h0,h1,rfl,hown,cE.refl _ _⟩
 case round=>
  obtain⟨A',m',c',k,l',rfl,rfl,hk0,hk,hl,ho,hg⟩:=hrel
  have hlen:m'≤m+11:=by
   have e1:=congrArg List.length hl
   have e2:l'.length=m':=by have:=ho.1; simpa [bq] using this
   have e3:l.length=m:=by have:=hown.1; simpa [bq] using this
   have:=dM n.toNat
   have:=dM k.toNat
   simp at e1; omega
  have Hl:=hid hl
  have Hm:=hid (show m'+1≤140737488355328 from by omega)
  have hbr:base≤wr.heap.size:=Nat.le_trans hb hg.grown.size
  clear hl hown hm hlen h0 h1
  by_cases hlt:128≤k
  · have hbt:=hid (IU k (by omega) (by omega))
    have hst:=hid (show bJ k.toNat=UInt8.ofNat (k.toNat % 128+128) :: bJ (k / 128).toNat from by
     rw [FV (by omega) (by omega),show k.toNat / 128=(k / 128).toNat from by omega])
    go_wp2_with (at_builtin; refine Ew rfl _ _ rfl base _ _ _ _ rfl ho _ (UInt8.ofNat (k.toNat % 128+128)) hbt.out rfl Hm.out hbr ?_; intro A2 c2 w2 ho2 hg2)
    go_roundw
    case rel=>exact⟨A2,m'+1,c2,k / 128,l' ++ [UInt8.ofNat (k.toNat % 128+128)],rfl,rfl,by omega,by omega,by rw [Hl.out,hst.out]; simp,ho2,hg.trans hg2⟩
    case measure=>simp [intOf]; omega
  · have hbt:=hid (show k=(((UInt8.ofNat k.toNat).toNat:Nat):Int) from by rw [UInt8.toNat_ofNat']; omega)
    have hst:=hid (show bJ k.toNat=[UInt8.ofNat k.toNat] from rN (by omega))
    go_wp2_with (at_builtin; refine Ew rfl _ _ rfl base _ _ _ _ rfl ho _ (UInt8.ofNat k.toNat) hbt.out rfl Hm.out hbr ?_; intro A2 c2 w2 ho2 hg2)
    go_ret
    exact⟨A2,m'+1,c2,rfl,by rw [Hl.out,hst.out]; exact ho2,hg.trans hg2⟩
def KK (n:Nat) (w:World) (e:Ending) (w':World):Prop:=e = .returned (.string ⟨(bJ n).toArray⟩)∧Below w.heap.size w w'
theorem xM (n:Int) (w:World) (h0:0≤n) (h1:n<18446744073709551616) :
 Calls Tryz.prog 153 #[.int .u64 n] w (KK n.toNat w):=by
 go_enter Tryz.func153,Tryz.ntmps153
 go_wp2_with fail
 refine Calls.mono (AN w.heap.size none 0 0 [] n w h0 h1 (World.ownsRow_nil _ _ _ _) (by omega) (Nat.le_refl _)) ?_
 rintro e w' ⟨A',m',c',rfl,ho,hg⟩
 have hb:Below w.heap.size w w':=hg.below (Nat.le_refl _) (fun g h=>by simp [Value.ownBlock] at h)
 have hrun:=iE Tryz.underlying129 Tryz.underlying5 Tryz.underlying9 ho
 clear ho hg
 go_wp2
 go_ret
 exact⟨rfl,hb⟩
end Go.Proofs.YtoeejfhdjmkpcaaGreatDoor
/- A region that draws its order, by a table: what each operation leaves is said of its value and the world, and stays true while blocks are laid behind. Whatever order the tape picks. -/
namespace Go.Proofs.YtoeejfhdjmkpcaaGreatDoor
open Go.Lib (hid)
open Go.RowKit
abbrev Ext (w w':World):Prop:=Below w.heap.size w w'
theorem Ext.trans {a b c:World} (h:Ext a b) (k:Ext b c):Ext a c:=Below.trans h (k.mono h.size)
theorem eX {w w':World} {a:Addr} {v:Value} (h:w.cell? a=some v) (hw:Ext w w'):w'.cell? a=some v:=(hw.cell (block_lt_of_cell h)).trans h
section
variable {P:Program} {ops:Array Oper} {V:Nat→Value→World→Prop} {a0:Act} {w0:World}
structure RInv (ops:Array Oper) (V:Nat→Value→World→Prop) (a0:Act) (w0:World) (listed:Array Bool) (a:Act) (w:World):Prop where
 le:Ext w0 w
 size:a.tmps.size=a0.tmps.size
 defers:a.defers=a0.defers
 keep:∀ t,(∀ (i:Nat) (o:Oper),ops[i]? = some o→o.dst≠some t)→a.tmps[t]? = a0.tmps[t]?
 done:∀ (i:Nat) (o:Oper) t,ops[i]? = some o→listed.getD i false=true→o.dst=some t→∃ u,a.tmps[t]? = some u∧V i u w
def za (ops:Array Oper) (n:Nat):Bool:=
 (List.range ops.size).all fun i=>match ops[i]? with
  | some o=>(match o.dst with | some t=>decide (t<n) && (List.range i).all (fun j=>match ops[j]? with | some p=>p.dst != some t | none=>true) | none=>true) && o.after.all (fun e=>decide (e.on<i))
  | none=>true
theorem jI {n:Nat} (h:za ops n=true) {i:Nat} {o:Oper} (ho:ops[i]? = some o) :
 (∀ t,o.dst=some t→t<n∧∀ (j:Nat) (p:Oper),ops[j]? = some p→j<i→p.dst≠some t)∧∀ e ∈ o.after,e.on<i:=by
 unfold za at h
 rw [List.all_eq_true] at h
 have hi:i<ops.size:=(Array.getElem?_eq_some_iff.1 ho).1
 have h1:=h i (List.mem_range.2 hi)
 rw [ho] at h1
 simp only [Bool.and_eq_true] at h1
 obtain⟨h1,h2⟩:=h1
 refine⟨fun t ht=>?_,fun e he=>?_⟩
 · rw [ht] at h1
   simp only [Bool.and_eq_true,decide_eq_true_eq] at h1
   refine⟨h1.1,fun j p hp hj=>?_⟩
   have h3:=List.all_eq_true.1 h1.2 j (List.mem_range.2 hj)
   rw [hp] at h3
   simpa using h3
 · have:=(Array.all_eq_true_iff_forall_mem.1 h2) e he
   simpa using this
theorem fX {n:Nat} (hB:za ops n=true) {listed:Array Bool} (hs:listed.size=ops.size) (hr:Region.ready .any ops listed=[]):∀ i,i<ops.size→listed.getD i false=true:=by
 intro i
 induction i using Nat.strongRecOn with
 | _ i ih=>
  intro hi
  have ho:ops[i]? = some ops[i]:=Array.getElem?_eq_getElem hi
  by_cases hl:listed.getD i false=true
  · exact hl
  · exfalso
    have hm:i ∈ Region.ready .any ops listed:=mem_ready.2 ⟨by
     have hx:listed[i]? = some listed[i]:=Array.getElem?_eq_getElem (by omega)
     rw [Array.getD_eq_getD_getElem?,hx] at hl ⊢
     simpa using hl,_,ho,fun e he _=>?_⟩
    · rw [hr] at hm; cases hm
    · have hlt:=(jI hB ho).2 e he
      exact ih e.on hlt (by omega)
def Lp (ops:Array Oper) (t:Tmp):Bool:=ops.all fun o=>o.dst != some t
theorem DJ {t:Tmp} (h:Lp ops t=true) (i:Nat) (o:Oper) (ho:ops[i]? = some o):o.dst≠some t:=by
 have:=(Array.all_eq_true_iff_forall_mem.1 h) o (Array.mem_of_getElem? ho)
 simpa using this
def waitsFor (o:Oper) (j:Nat):Bool:=o.after.any fun e=>e.on == j && Region.binds .any e
def KL (P:Program) (ops:Array Oper) (V:Nat→Value→World→Prop) (a0:Act) (w0:World) (Q:Exit→Act→World→Prop) (i:Nat) (o:Oper):Prop:=
 ∀ (a:Act) (w:World),Ext w0 w→(∀ t v,a0.tmps[t]? = some v→Lp ops t=true→a.tmps[t]? = some v) →
  (∀ (j:Nat) (p:Oper) t,ops[j]? = some p→p.dst=some t→waitsFor o j=true→∃ u,a.tmps[t]? = some u∧V j u w) →
  o.guard=none∧o.wp P a w (fun a' w'=>∃ u,a'=a.put o.dst u∧Ext w w'∧V i u w') Q
theorem RInv.step {n:Nat} (hB:za ops n=true) (hn:a0.tmps.size=n) (hV:∀ i u w w',V i u w→Ext w w'→V i u w') {listed:Array Bool} {a:Act} {w:World} (hs:listed.size=ops.size)
 (h:RInv ops V a0 w0 listed a w) {i:Nat} {o:Oper} (ho:ops[i]? = some o) {u:Value} {w':World} (hw:Ext w w') (hu:V i u w'):RInv ops V a0 w0 (listed.setIfInBounds i true) (a.put o.dst u) w':=by
 have hi:i<ops.size:=(Array.getElem?_eq_some_iff.1 ho).1
 have hput:∀ t,o.dst≠some t→(a.put o.dst u).tmps[t]? = a.tmps[t]?:=by
  intro t ht
  unfold Act.put
  cases hd:o.dst with
  | none=>rfl
  | some d=>
   have hne:d≠t:=fun e=>ht (by rw [hd,e])
   simp [Array.getElem?_setIfInBounds,hne]
 refine⟨h.le.trans hw,?_,?_,fun t ht=>?_,fun j p t hp hl ht=>?_⟩
 · unfold Act.put; split <;> simp [h.size]
 · unfold Act.put; split <;> simp [h.defers]
 · rw [hput t (ht i o ho)]; exact h.keep t ht
 · by_cases hij:i=j
   · subst hij
     rw [ho] at hp; injection hp with hp; subst hp
     have hlt:=((jI hB ho).1 t ht).1
     refine⟨u,?_,hu⟩
     unfold Act.put
     rw [ht]
     simp only [Array.getElem?_setIfInBounds]
     rw [if_pos trivial,if_pos (by rw [h.size,hn]; exact hlt)]
   · have hl':listed.getD j false=true:=by
      rw [Array.getD_eq_getD_getElem?] at hl ⊢
      rw [Array.getElem?_setIfInBounds,if_neg hij] at hl
      exact hl
     obtain⟨u',h1,h2⟩:=h.done j p t hp hl' ht
     refine⟨u',?_,hV _ _ _ _ h2 hw⟩
     rw [hput t ?_]; exact h1
     intro e
     rcases Nat.lt_or_gt_of_ne hij with hlt | hlt
     · exact ((jI hB hp).1 t ht).2 i o ho hlt e
     · exact ((jI hB ho).1 t e).2 j p hp hlt ht
theorem count_set:∀ (l:List Bool) (i:Nat),l[i]? = some false→((l.set i true).filter (! ·)).length+1=(l.filter (! ·)).length
 | [],i,h=>by simp at h
 | x :: l,0,h=>by
  have hx:x=false:=by simpa using h
  subst hx; simp
 | x :: l,i+1,h=>by
  have ih:=count_set l i (by simpa using h)
  cases x <;> simp <;> omega
theorem pR {n:Nat} {Q:Exit→Act→World→Prop} (hB:za ops n=true) (hn:a0.tmps.size=n) (hV:∀ i u w w',V i u w→Ext w w'→V i u w')
 (hop:∀ (i:Nat) (o:Oper),ops[i]? = some o→KL P ops V a0 w0 Q i o)
 (hQ:∀ a w,(∀ listed,(∀ i,i<ops.size→listed.getD i false=true)→RInv ops V a0 w0 listed a w→Q .normal a w)) :
 ∀ (fuel:Nat) (listed:Array Bool) (a:Act) (w:World),listed.size=ops.size→(listed.toList.filter (! ·)).length≤fuel→RInv ops V a0 w0 listed a w→wpAny P .any ops Q fuel listed a w
 | 0,listed,a,w,hs,hf,h=>by
  have hr:Region.ready .any ops listed=[]:=by
   cases hr:Region.ready .any ops listed with
   | nil=>rfl
   | cons i r=>
    exfalso
    have hm:i ∈ Region.ready .any ops listed:=by rw [hr]; exact List.mem_cons_self
    obtain⟨h1,o,ho,_⟩:=mem_ready.1 hm
    have hi:i<ops.size:=(Array.getElem?_eq_some_iff.1 ho).1
    have hx:listed[i]? = some listed[i]:=Array.getElem?_eq_getElem (by omega)
    rw [Array.getD_eq_getD_getElem?,hx] at h1
    have h2:false ∈ listed.toList.filter (! ·):=List.mem_filter.2 ⟨by rw [← show listed[i]=false from by simpa using h1]; exact Array.getElem_mem_toList (by omega),rfl⟩
    have:=List.length_pos_of_mem h2
    omega
  exact⟨hr,hQ a w listed (fX hB hs hr) h⟩
 | fuel+1,listed,a,w,hs,hf,h=>by
  refine⟨fun hr=>hQ a w listed (fX hB hs hr) h,fun i hi=>?_⟩
  obtain⟨h1,o,ho,hall⟩:=mem_ready.1 hi
  have hil:i<ops.size:=(Array.getElem?_eq_some_iff.1 ho).1
  have hk:=hop i o ho a w h.le (fun t v hv hn=>by rw [h.keep t (fun i o ho=>DJ hn i o ho)]; exact hv) (fun j p t hp ht hj=>by
   unfold waitsFor at hj
   obtain⟨e,he,h2⟩:=Array.any_eq_true'.1 hj
   simp only [Bool.and_eq_true,beq_iff_eq] at h2
   obtain⟨h2,h3⟩:=h2
   subst h2
   exact h.done e.on p t hp (hall e he h3) ht)
  unfold wpOp
  rw [ho]
  simp only [Region.wanted,hk.1,if_true]
  refine .inl (Oper.wp_mono (fun a' w' hh=>?_) hk.2)
  obtain⟨u,rfl,hw,hu⟩:=hh
  refine pR hB hn hV hop hQ fuel _ _ _ (by simpa using hs) ?_ (h.step hB hn hV hs ho hw hu)
  have hx:listed[i]? = some listed[i]:=Array.getElem?_eq_getElem (by omega)
  rw [Array.getD_eq_getD_getElem?,hx] at h1
  have h2:listed.toList[i]? = some false:=by
   rw [Array.getElem?_toList,hx]
   simpa using h1
  have h3:=count_set listed.toList i h2
  simp only [Array.toList_setIfInBounds]
  omega
structure zV (ops:Array Oper) (V:Nat→Value→World→Prop) (a0:Act) (w0:World) (a:Act) (w:World):Prop where
 le:Ext w0 w
 size:a.tmps.size=a0.tmps.size
 defers:a.defers=a0.defers
 keep:∀ t,(∀ (i:Nat) (o:Oper),ops[i]? = some o→o.dst≠some t)→a.tmps[t]? = a0.tmps[t]?
 done:∀ (i:Nat) (o:Oper) t,ops[i]? = some o→o.dst=some t→∃ u,a.tmps[t]? = some u∧V i u w
theorem wJ {id:Nat} {n:Nat} {Q:Exit→Act→World→Prop} (hm:P.follows .mixedOrders=true) (V:Nat→Value→World→Prop) (hB:za ops n=true) (hn:a0.tmps.size=n) (hV:∀ i u w w',V i u w→Ext w w'→V i u w')
 (hop:∀ (i:Nat) (o:Oper),ops[i]? = some o→KL P ops V a0 w0 Q i o) (hQ:∀ a w,zV ops V a0 w0 a w→Q .normal a w):(Code.region id ops true).wp P Q a0 w0:=by
 refine wp_region_any hm (pR hB hn hV hop (fun a w listed hl h=>hQ a w ⟨h.le,h.size,h.defers,h.keep,fun i o t ho ht=>h.done i o t ho (hl i (Array.getElem?_eq_some_iff.1 ho).1) ht⟩) ops.size (Array.replicate ops.size false) a0 _ (by simp) ?_ ?_)
 · exact Nat.le_trans (List.length_filter_le _ _) (by simp)
 · refine⟨⟨rfl,rfl,rfl,Nat.le_refl _,fun _ _=>rfl⟩,rfl,rfl,fun _ _=>rfl,fun i o t ho hl _=>?_⟩
   rw [Array.getD_eq_getD_getElem?,Array.getElem?_replicate] at hl
   split at hl <;> simp at hl
def Ez (P:Program) (ops:Array Oper) (V:Nat→Value→World→Prop) (a0:Act) (w0:World) (Q:Exit→Act→World→Prop):Nat→List Oper→Prop
 | _,[]=>True
 | i,o :: l=>KL P ops V a0 w0 Q i o∧Ez P ops V a0 w0 Q (i+1) l
theorem Ez.all {Q:Exit→Act→World→Prop}:∀ {l:List Oper} {k:Nat},Ez P ops V a0 w0 Q k l→∀ (i:Nat) (o:Oper),l[i]? = some o→KL P ops V a0 w0 Q (k+i) o
 | [],_,_,i,o,h=>by simp at h
 | x :: l,k,hh,0,o,h=>by
  have e:x=o:=by simpa using h
  subst e; exact hh.1
 | x :: l,k,hh,i+1,o,h=>by
  have:=hh.2.all i o (by simpa using h)
  rwa [show k+(i+1)=k+1+i from by omega]
theorem lu {id:Nat} {n:Nat} {l:List Oper} {Q:Exit→Act→World→Prop} (hm:P.follows .mixedOrders=true) (V:Nat→Value→World→Prop) (hB:za l.toArray n=true) (hn:a0.tmps.size=n) (hV:∀ i u w w',V i u w→Ext w w'→V i u w')
 (hop:Ez P l.toArray V a0 w0 Q 0 l) (hQ:∀ a w,zV l.toArray V a0 w0 a w→Q .normal a w):(Code.region id l.toArray true).wp P Q a0 w0:=
 wJ hm V hB hn hV (fun i o ho=>by
  have:=hop.all i o (by simpa using ho)
  rwa [Nat.zero_add] at this) hQ
theorem yx (f:Nat→Value):∀ (ds:List Nat) (t0:Array Value) (i:Nat),(ds.foldl (fun t d=>t.setIfInBounds d (f d)) t0)[i]? = if i ∈ ds∧i<t0.size then some (f i) else t0[i]?
 | [],t0,i=>by simp
 | d :: ds,t0,i=>by
  rw [List.foldl_cons,yx f ds,Array.getElem?_setIfInBounds,Array.size_setIfInBounds]
  by_cases hi:i<t0.size
  · by_cases h1:i ∈ ds
    · simp [h1,hi]
    · by_cases h2:d=i
      · subst h2; simp [h1,hi]
      · have h3:¬ i=d:=fun e=>h2 e.symm
        simp [h1,h2,h3]
  · by_cases h2:d=i
    · subst h2
      simp [hi]
    · simp [hi,h2]
theorem zV.frame {a:Act} {w:World} (h:zV ops V a0 w0 a w) (ds:List Nat) (hds:ops.toList.filterMap (·.dst)=ds):a = { tmps:=ds.foldl (fun t d=>t.setIfInBounds d ((a.tmps[d]?).getD undef)) a0.tmps,defers:=a0.defers }:=by
 obtain⟨t,d⟩:=a
 have h1:=h.size
 have h2:=h.defers
 have h3:=h.keep
 simp only at h1 h2 h3
 subst h2
 congr 1
 apply Array.ext_getElem?
 intro i
 rw [yx (fun d=>(t[d]?).getD undef) ds a0.tmps i]
 by_cases hi:i<a0.tmps.size
 · by_cases hm:i ∈ ds
   · rw [if_pos ⟨hm,hi⟩,Array.getElem?_eq_getElem (by omega)]; rfl
   · rw [if_neg (fun h=>hm h.1)]
     refine h3 i (fun j o ho hd=>hm ?_)
     rw [← hds]
     exact List.mem_filterMap.2 ⟨o,Array.mem_toList_iff.2 (Array.mem_of_getElem? ho),hd⟩
 · rw [if_neg (fun h=>hi h.2),Array.getElem?_eq_none (by omega),Array.getElem?_eq_none (by omega)]
theorem zV.frame' {a:Act} {w:World} (h:zV ops V a0 w0 a w) (ds:List Nat) (hds:ops.toList.filterMap (·.dst)=ds) :
 ∃ f:Nat→Value,a = { tmps:=ds.foldl (fun t d=>t.setIfInBounds d (f d)) a0.tmps,defers:=a0.defers }∧∀ (i:Nat) (o:Oper) t,ops[i]? = some o→o.dst=some t→V i (f t) w:=
 ⟨fun d=>(a.tmps[d]?).getD undef,h.frame ds hds,fun i o t ho ht=>by
  obtain⟨u,h1,h2⟩:=h.done i o t ho ht
  simp only [h1,Option.getD_some]
  exact h2⟩
end
end Go.Proofs.YtoeejfhdjmkpcaaGreatDoor
