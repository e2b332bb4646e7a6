/- Of the proof of a statement: Put, Read, Reads, TextR, RTab. -/
import Derived.Lib.ValidLaws
import Derived.Orders
import Derived.Below
import Derived.Test.YtoeejfhdjmkpcaaGreatDoorTPlRows
set_option linter.unusedVariables false
set_option linter.unusedSimpArgs false
set_option maxRecDepth 100000
set_option maxHeartbeats 8000000
/- The walks of Put and Number, in the program and in the reference. -/
namespace Go.Proofs.YtoeejfhdjmkpcaaGreatDoor
open Go.Lib (hid)
open Go.RowKit
def GB (base:Nat) (A:Option Addr) (m c:Nat) (l:List UInt8) (w:World) (e:Ending) (w':World):Prop:=
 ∃ A' m' c',e = .returned (.slice A' m' c')∧w'.ownsRow base 5 1 (.slice A' m' c') m' (bf l)∧cu w w' (.slice A m c) (.slice A' m' c')
def ID (base:Nat) (A:Option Addr) (m c:Nat) (l:List UInt8) (w:World) (v i:Value) (wr:World):Prop:=
 ∃ (A':Option Addr) (m' c':Nat) (k:Int) (l':List UInt8),v = .slice A' m' c'∧i = .int .u64 k∧0≤k∧k<18446744073709551616∧l=l' ++ bI k.toNat∧wr.ownsRow base 5 1 (.slice A' m' c') m' (bf l')∧cu w wr (.slice A m c) (.slice A' m' c')
theorem xF (base:Nat) (A:Option Addr) (m c:Nat) (l:List UInt8) (n:Int) (w:World) (h0:0≤n) (h1:n<18446744073709551616) (hown:w.ownsRow base 5 1 (.slice A m c) m (bf l)) (hm:m≤140737488355000) (hb:base≤w.heap.size) :
 Calls Tryz.prog 164 #[.slice A m c,.int .u64 n] w (GB base A m c (l ++ bI n.toNat) w):=by
 go_enter Tryz.func164,Tryz.ntmps164
 go_wp2
 go_loopw [0,1] (fun v i wr=>ID base A m c (l ++ bI n.toNat) w v i wr) (fun _ i _=>(intOf i).toNat)
 case atStart=>exact⟨A,m,c,n,l,rfl,rfl,h0,h1,rfl,hown,cu.refl _ _⟩
 case round=>
  obtain⟨A',m',c',k,l',rfl,rfl,hk0,hk,hl,ho,hg⟩:=hrel
  have hlen:m'≤m+11:=by
   have e1:=congrArg List.length hl
   have e2:l'.length=m':=by have:=ho.1; simpa [bf] using this
   have e3:l.length=m:=by have:=hown.1; simpa [bf] using this
   have:=dB n.toNat
   have:=dB k.toNat
   simp at e1; omega
  have Hl:=hid hl
  have Hm:=hid (show m'+1≤140737488355328 from by omega)
  have hbr:base≤wr.heap.size:=Nat.le_trans hb hg.grown.size
  clear hl hown hm hlen h0 h1
  by_cases hlt:128≤k
  · have hbt:=hid (EH k (by omega) (by omega))
    have hst:=hid (show bI k.toNat=UInt8.ofNat (k.toNat % 128+128) :: bI (k / 128).toNat from by
     rw [CP (by omega) (by omega),show k.toNat / 128=(k / 128).toNat from by omega])
    go_wp2_with (at_builtin; refine BF rfl _ _ rfl base _ _ _ _ rfl ho _ (UInt8.ofNat (k.toNat % 128+128)) hbt.out rfl Hm.out hbr ?_; intro A2 c2 w2 ho2 hg2)
    go_roundw
    case rel=>exact⟨A2,m'+1,c2,k / 128,l' ++ [UInt8.ofNat (k.toNat % 128+128)],rfl,rfl,by omega,by omega,by rw [Hl.out,hst.out]; simp,ho2,hg.trans hg2⟩
    case measure=>simp [intOf]; omega
  · have hbt:=hid (show k=(((UInt8.ofNat k.toNat).toNat:Nat):Int) from by rw [UInt8.toNat_ofNat']; omega)
    have hst:=hid (show bI k.toNat=[UInt8.ofNat k.toNat] from o8 (by omega))
    go_wp2_with (at_builtin; refine BF rfl _ _ rfl base _ _ _ _ rfl ho _ (UInt8.ofNat k.toNat) hbt.out rfl Hm.out hbr ?_; intro A2 c2 w2 ho2 hg2)
    go_ret
    exact⟨A2,m'+1,c2,rfl,by rw [Hl.out,hst.out]; exact ho2,hg.trans hg2⟩
def GC (n:Nat) (w:World) (e:Ending) (w':World):Prop:=e = .returned (.string ⟨(bI n).toArray⟩)∧Below w.heap.size w w'
theorem tX (n:Int) (w:World) (h0:0≤n) (h1:n<18446744073709551616) :
 Calls Tryz.prog 153 #[.int .u64 n] w (GC n.toNat w):=by
 go_enter Tryz.func153,Tryz.ntmps153
 go_wp2_with fail
 refine Calls.mono (xF w.heap.size none 0 0 [] n w h0 h1 (World.ownsRow_nil _ _ _ _) (by omega) (Nat.le_refl _)) ?_
 rintro e w' ⟨A',m',c',rfl,ho,hg⟩
 have hb:Below w.heap.size w w':=hg.below (Nat.le_refl _) (fun g h=>by simp [Value.ownBlock] at h)
 have hrun:=gJ Tryz.underlying129 Tryz.underlying5 Tryz.underlying9 ho
 clear ho hg
 go_wp2
 go_ret
 exact⟨rfl,hb⟩
end Go.Proofs.YtoeejfhdjmkpcaaGreatDoor
/- The walks of ReadNumber, in the program and in the reference. -/
namespace Go.Proofs.YtoeejfhdjmkpcaaGreatDoor
open Go.Lib (hid)
open Go.RowKit
theorem pY {s:ByteArray} {k c:Nat} (h:k<s.size) (hc:s[k].toNat=c) (W:World):(Instr.index 9 (.string s) (.int .i64 (k:Int))).run Tryz.prog W = .ok (.int .u8 (c:Int)) W:=by
 rw [run_index_string W 9 s .i64 (k:Int) Tryz.underlying9,dif_pos ⟨by omega,by omega⟩]
 subst hc
 simp only [Int.toNat_natCast]
def rH (s:ByteArray) (w:World) (e:Ending) (w':World):Prop:=e = .returned (rdV s)∧w=w'
theorem rH.mk' {s:ByteArray} {w:World} {a k e:Nat} (h:rdNum s=(a,k,e)):rH s w (.returned (.tuple #[.int .u64 (a:Int),.int .i64 (k:Int),.int .i64 (e:Int)])) w:=⟨by rw [ED h],rfl⟩
def Ji (s:ByteArray) (n i:Value):Prop:=∃ (k acc:Nat),k≤9∧k≤s.size∧acc<128 ^ k∧i = .int .i64 k∧n = .int .u64 acc∧rdNum s=rdB s (10 - k) k acc
theorem EK (s:ByteArray) (w:World) (hs:s.size≤9223372036854775807) :
 Calls Tryz.prog 54 #[.string s] w (rH s w):=by
 go_enter Tryz.func54,Tryz.ntmps54
 go_wp2
 go_loop [2,3,4,5,6,7,8,10] (fun _ _ _ n _ _ i _=>Ji s n i) (fun _ _ _ _ _ _ i _=>10 - (intOf i).toNat)
 case atStart=>exact⟨0,0,by omega,by omega,by decide,rfl,rfl,rfl⟩
 case round=>
  obtain⟨k,acc,hk,hks,ha,rfl,rfl,hr⟩:=hrel
  have Hr:=hid hr
  have Ha:=hid ha
  clear hr ha
  by_cases hsz:k<s.size
  · have e3:((k:Int) == s.size)=false:=by simp; omega
    obtain⟨c,hc⟩:∃ c:Nat,s[k].toNat=c:=⟨_,rfl⟩
    have hc2:c<256:=by rw [← hc]; exact s[k].toNat_lt
    have Hi:=pY hsz hc
    have Hc:=hid hc
    clear hc
    have form:=fun (hb:(k=9∧1<c)∨(0<k∧c=0))=>rH.mk' (w:=w) (Hr.out.trans (EE (by omega) hsz Hc.out hb))
    have last:=fun (hb:¬ ((k=9∧1<c)∨(0<k∧c=0))) (h1:c<128)=>rH.mk' (w:=w) (Hr.out.trans (EF (by omega) hsz Hc.out hb h1))
    have more:=fun (hb:¬ ((k=9∧1<c)∨(0<k∧c=0))) (h1:¬ c<128)=>Hr.out.trans (EG (by omega) hsz Hc.out hb h1)
    have step:=fun (h9:k=9→c≤1)=>BE (k:=k) (by omega) hc2 h9 Ha.out
    have Form:=hid form
    have Last:=hid last
    have More:=hid more
    have Step:=hid step
    clear form last more step
    by_cases b9:9≤k <;> by_cases b0:1≤c
    all_goals first | (have e1:((k:Int) == 9)=true:=by simp; omega) | (have e1:((k:Int) == 9)=false:=by simp; omega)
    all_goals first | (have e2:((c:Int) == 0)=true:=by simp; omega) | (have e2:((c:Int) == 0)=false:=by simp; omega)
    all_goals go_wp2
    all_goals first
     | (go_ret3; exact Form.out (by omega))
     | (have st:=(Step.out (by omega)).1; go_ret3; rw [st]; exact Last.out (by omega) (by omega))
     | (have st:=Step.out (by omega); exact⟨⟨k+1,_,by omega,by omega,st.2.1,by go_num,by rw [st.1],More.out (by omega) (by omega)⟩,by simp only [intOf]; omega⟩)
  · have e3:((k:Int) == s.size)=true:=by simp; omega
    have fin:=hid (rH.mk' (w:=w) (Hr.out.trans (CJ (by omega) (by omega))))
    go_wp2
    go_ret3
    exact fin.out
end Go.Proofs.YtoeejfhdjmkpcaaGreatDoor
/- The law PrimReads. -/
namespace Go.Proofs.YtoeejfhdjmkpcaaGreatDoor
open Go.Lib (hid)
open Go.RowKit
theorem rA {s:ByteArray} {k:Nat} (h:k<s.size):s.data.toList.take (k+1)=s.data.toList.take k ++ [s[k]]:=by
 rw [List.take_succ_eq_append_getElem (by simpa using h)]; rfl
theorem nY {s:ByteArray} {a k e:Nat} (h:rdNum s=(a,k,e)) (w:World) (hs:s.size≤9223372036854775807) :
 Calls Tryz.prog 54 #[.string s] w fun x w'=>x = .returned (.tuple #[.int .u64 (a:Int),.int .i64 (k:Int),.int .i64 (e:Int)])∧w=w':=
 (EK s w hs).mono fun _ _ ⟨h1,h2⟩=>⟨by rw [h1,ED h],h2⟩
end Go.Proofs.YtoeejfhdjmkpcaaGreatDoor
/- The walks of ReadText and TextRead. -/
namespace Go.Proofs.YtoeejfhdjmkpcaaGreatDoor
open Go.Lib (hid)
open Go.RowKit
open Go.Lib (validD)
def jX (s:ByteArray) (w:World) (e:Ending) (w':World):Prop:=e = .returned (.tuple #[.string (kE s).1,.int .i64 ((kE s).2.1:Int),.int .i64 ((kE s).2.2:Int)])∧Below w.heap.size w w'
theorem jX.mk' {s a:ByteArray} {n e:Nat} {w w':World} (h:kE s=(a,n,e)) (hb:Below w.heap.size w w'):jX s w (.returned (.tuple #[.string a,.int .i64 (n:Int),.int .i64 (e:Int)])) w':=⟨by rw [h],hb⟩
theorem xG (s:ByteArray) (w:World) (hs:s.size≤9223372036854775807) (hT:Tabs w):Calls Tryz.prog 170 #[.string s] w (jX s w):=by
 obtain⟨n,k,e,hr⟩:∃ n k e,rdNum s=(n,k,e):=⟨_,_,_,rfl⟩
 have h1:=hid (nY hr w hs)
 obtain⟨f1,f2,f3,f4⟩:=iH hr
 have HR:=hid hr
 clear hr
 by_cases he:e=0
 · subst he
   have f5:=f4 rfl
   clear f4 f3
   by_cases hn:16<n
   · have fin:=hid (jX.mk' (w:=w) (w':=w) (tA HR.out hn) (Below.refl _ _))
     go_enter Tryz.func170,Tryz.ntmps170
     go_wp2_with fail
     refine Calls.mono h1.out ?_
     rintro x w' ⟨rfl,rfl⟩
     go_wp2
     refine bodyPost_ret (v:=.tuple #[.string ⟨#[]⟩,.int .i64 0,.int .i64 2]) (by simp [results,Tryz.results170,go_sem]) rfl fin.out
   · by_cases hl:s.size<k+n
     · have fin:=hid (jX.mk' (w:=w) (w':=w) (tB HR.out hn hl) (Below.refl _ _))
       clear f1
       go_enter Tryz.func170,Tryz.ntmps170
       go_wp2_with fail
       refine Calls.mono h1.out ?_
       rintro x w' ⟨rfl,rfl⟩
       go_wp2
       refine bodyPost_ret (v:=.tuple #[.string ⟨#[]⟩,.int .i64 0,.int .i64 3]) (by simp [results,Tryz.results170,go_sem]) rfl fin.out
     · clear f1
       have hV:=hid (qQ (s.extract k (k+n)) w (by rw [ByteArray.size_extract]; omega) hT)
       cases hv:validD (s.extract k (k+n)).data.toList
       · have fin:=hid (fun w'=>jX.mk' (w:=w) (w':=w') (vJ HR.out hn hl hv))
         rw [hv] at hV
         go_enter Tryz.func170,Tryz.ntmps170
         go_wp2_with fail
         refine Calls.mono h1.out ?_
         rintro x w' ⟨rfl,rfl⟩
         go_wp2_with fail
         refine Calls.mono hV.out ?_
         rintro x w1 ⟨rfl,hb⟩
         go_wp2
         refine bodyPost_ret (v:=.tuple #[.string ⟨#[]⟩,.int .i64 0,.int .i64 4]) (by simp [results,Tryz.results170,go_sem]) rfl (fin.out _ hb)
       · have fin:=hid (fun w'=>jX.mk' (w:=w) (w':=w') (wP HR.out hn hl hv))
         rw [hv] at hV
         go_enter Tryz.func170,Tryz.ntmps170
         go_wp2_with fail
         refine Calls.mono h1.out ?_
         rintro x w' ⟨rfl,rfl⟩
         go_wp2_with fail
         refine Calls.mono hV.out ?_
         rintro x w1 ⟨rfl,hb⟩
         go_wp2
         refine bodyPost_ret (v:=.tuple #[.string (s.extract k (k+n)),.int .i64 ((k:Int)+n),.int .i64 0]) (by simp [results,Tryz.results170,go_sem]) rfl ?_
         have:=fin.out _ hb
         rw [Int.natCast_add] at this
         exact this
 · have fin:=hid (jX.mk' (w:=w) (w':=w) (yt HR.out he) (Below.refl _ _))
   clear f4 f1
   go_enter Tryz.func170,Tryz.ntmps170
   go_wp2_with fail
   refine Calls.mono h1.out ?_
   rintro x w' ⟨rfl,rfl⟩
   go_wp2
   refine bodyPost_ret (v:=.tuple #[.string ⟨#[]⟩,.int .i64 0,.int .i64 (e:Int)]) (by simp [results,Tryz.results170,go_sem]) rfl fin.out
end Go.Proofs.YtoeejfhdjmkpcaaGreatDoor
/- A region that draws its order, by a table: what each operation leaves is said of its value and the world, and stays true while blocks are laid behind. Whatever order the tape picks. -/
namespace Go.Proofs.YtoeejfhdjmkpcaaGreatDoor
open Go.Lib (hid)
open Go.RowKit
abbrev Ext (w w':World):Prop:=Below w.heap.size w w'
theorem Ext.trans {a b c:World} (h:Ext a b) (k:Ext b c):Ext a c:=Below.trans h (k.mono h.size)
theorem eG {w w':World} {a:Addr} {v:Value} (h:w.cell? a=some v) (hw:Ext w w'):w'.cell? a=some v:=(hw.cell (block_lt_of_cell h)).trans h
section
variable {P:Program} {ops:Array Oper} {V:Nat→Value→World→Prop} {a0:Act} {w0:World}
structure RInv (ops:Array Oper) (V:Nat→Value→World→Prop) (a0:Act) (w0:World) (listed:Array Bool) (a:Act) (w:World):Prop where
 le:Ext w0 w
 size:a.tmps.size=a0.tmps.size
 defers:a.defers=a0.defers
 keep:∀ t,(∀ (i:Nat) (o:Oper),ops[i]? = some o→o.dst≠some t)→a.tmps[t]? = a0.tmps[t]?
 done:∀ (i:Nat) (o:Oper) t,ops[i]? = some o→listed.getD i false=true→o.dst=some t→∃ u,a.tmps[t]? = some u∧V i u w
def vB (ops:Array Oper) (n:Nat):Bool:=
 (List.range ops.size).all fun i=>match ops[i]? with
  | some o=>(match o.dst with | some t=>decide (t<n) && (List.range i).all (fun j=>match ops[j]? with | some p=>p.dst != some t | none=>true) | none=>true) && o.after.all (fun e=>decide (e.on<i))
  | none=>true
theorem iP {n:Nat} (h:vB ops n=true) {i:Nat} {o:Oper} (ho:ops[i]? = some o) :
 (∀ t,o.dst=some t→t<n∧∀ (j:Nat) (p:Oper),ops[j]? = some p→j<i→p.dst≠some t)∧∀ e ∈ o.after,e.on<i:=by
 unfold vB at h
 rw [List.all_eq_true] at h
 have hi:i<ops.size:=(Array.getElem?_eq_some_iff.1 ho).1
 have h1:=h i (List.mem_range.2 hi)
 rw [ho] at h1
 simp only [Bool.and_eq_true] at h1
 obtain⟨h1,h2⟩:=h1
 refine⟨fun t ht=>?_,fun e he=>?_⟩
 · rw [ht] at h1
   simp only [Bool.and_eq_true,decide_eq_true_eq] at h1
   refine⟨h1.1,fun j p hp hj=>?_⟩
   have h3:=List.all_eq_true.1 h1.2 j (List.mem_range.2 hj)
   rw [hp] at h3
   simpa using h3
 · have:=(Array.all_eq_true_iff_forall_mem.1 h2) e he
   simpa using this
theorem fG {n:Nat} (hB:vB ops n=true) {listed:Array Bool} (hs:listed.size=ops.size) (hr:Region.ready .any ops listed=[]):∀ i,i<ops.size→listed.getD i false=true:=by
 intro i
 induction i using Nat.strongRecOn with
 | _ i ih=>
  intro hi
  have ho:ops[i]? = some ops[i]:=Array.getElem?_eq_getElem hi
  by_cases hl:listed.getD i false=true
  · exact hl
  · exfalso
    have hm:i ∈ Region.ready .any ops listed:=mem_ready.2 ⟨by
     have hx:listed[i]? = some listed[i]:=Array.getElem?_eq_getElem (by omega)
     rw [Array.getD_eq_getD_getElem?,hx] at hl ⊢
     simpa using hl,_,ho,fun e he _=>?_⟩
    · rw [hr] at hm; cases hm
    · have hlt:=(iP hB ho).2 e he
      exact ih e.on hlt (by omega)
def G6 (ops:Array Oper) (t:Tmp):Bool:=ops.all fun o=>o.dst != some t
theorem A8 {t:Tmp} (h:G6 ops t=true) (i:Nat) (o:Oper) (ho:ops[i]? = some o):o.dst≠some t:=by
 have:=(Array.all_eq_true_iff_forall_mem.1 h) o (Array.mem_of_getElem? ho)
 simpa using this
def waitsFor (o:Oper) (j:Nat):Bool:=o.after.any fun e=>e.on == j && Region.binds .any e
def GD (P:Program) (ops:Array Oper) (V:Nat→Value→World→Prop) (a0:Act) (w0:World) (Q:Exit→Act→World→Prop) (i:Nat) (o:Oper):Prop:=
 ∀ (a:Act) (w:World),Ext w0 w→(∀ t v,a0.tmps[t]? = some v→G6 ops t=true→a.tmps[t]? = some v) →
  (∀ (j:Nat) (p:Oper) t,ops[j]? = some p→p.dst=some t→waitsFor o j=true→∃ u,a.tmps[t]? = some u∧V j u w) →
  o.guard=none∧o.wp P a w (fun a' w'=>∃ u,a'=a.put o.dst u∧Ext w w'∧V i u w') Q
theorem RInv.step {n:Nat} (hB:vB ops n=true) (hn:a0.tmps.size=n) (hV:∀ i u w w',V i u w→Ext w w'→V i u w') {listed:Array Bool} {a:Act} {w:World} (hs:listed.size=ops.size)
 (h:RInv ops V a0 w0 listed a w) {i:Nat} {o:Oper} (ho:ops[i]? = some o) {u:Value} {w':World} (hw:Ext w w') (hu:V i u w'):RInv ops V a0 w0 (listed.setIfInBounds i true) (a.put o.dst u) w':=by
 have hi:i<ops.size:=(Array.getElem?_eq_some_iff.1 ho).1
 have hput:∀ t,o.dst≠some t→(a.put o.dst u).tmps[t]? = a.tmps[t]?:=by
  intro t ht
  unfold Act.put
  cases hd:o.dst with
  | none=>rfl
  | some d=>
   have hne:d≠t:=fun e=>ht (by rw [hd,e])
   simp [Array.getElem?_setIfInBounds,hne]
 refine⟨h.le.trans hw,?_,?_,fun t ht=>?_,fun j p t hp hl ht=>?_⟩
 · unfold Act.put; split <;> simp [h.size]
 · unfold Act.put; split <;> simp [h.defers]
 · rw [hput t (ht i o ho)]; exact h.keep t ht
 · by_cases hij:i=j
   · subst hij
     rw [ho] at hp; injection hp with hp; subst hp
     have hlt:=((iP hB ho).1 t ht).1
     refine⟨u,?_,hu⟩
     unfold Act.put
     rw [ht]
     simp only [Array.getElem?_setIfInBounds]
     rw [if_pos trivial,if_pos (by rw [h.size,hn]; exact hlt)]
   · have hl':listed.getD j false=true:=by
      rw [Array.getD_eq_getD_getElem?] at hl ⊢
      rw [Array.getElem?_setIfInBounds,if_neg hij] at hl
      exact hl
     obtain⟨u',h1,h2⟩:=h.done j p t hp hl' ht
     refine⟨u',?_,hV _ _ _ _ h2 hw⟩
     rw [hput t ?_]; exact h1
     intro e
     rcases Nat.lt_or_gt_of_ne hij with hlt | hlt
     · exact ((iP hB hp).1 t ht).2 i o ho hlt e
     · exact ((iP hB ho).1 t e).2 j p hp hlt ht
theorem count_set:∀ (l:List Bool) (i:Nat),l[i]? = some false→((l.set i true).filter (! ·)).length+1=(l.filter (! ·)).length
 | [],i,h=>by simp at h
 | x :: l,0,h=>by
  have hx:x=false:=by simpa using h
  subst hx; simp
 | x :: l,i+1,h=>by
  have ih:=count_set l i (by simpa using h)
  cases x <;> simp <;> omega
theorem nP {n:Nat} {Q:Exit→Act→World→Prop} (hB:vB ops n=true) (hn:a0.tmps.size=n) (hV:∀ i u w w',V i u w→Ext w w'→V i u w')
 (hop:∀ (i:Nat) (o:Oper),ops[i]? = some o→GD P ops V a0 w0 Q i o)
 (hQ:∀ a w,(∀ listed,(∀ i,i<ops.size→listed.getD i false=true)→RInv ops V a0 w0 listed a w→Q .normal a w)) :
 ∀ (fuel:Nat) (listed:Array Bool) (a:Act) (w:World),listed.size=ops.size→(listed.toList.filter (! ·)).length≤fuel→RInv ops V a0 w0 listed a w→wpAny P .any ops Q fuel listed a w
 | 0,listed,a,w,hs,hf,h=>by
  have hr:Region.ready .any ops listed=[]:=by
   cases hr:Region.ready .any ops listed with
   | nil=>rfl
   | cons i r=>
    exfalso
    have hm:i ∈ Region.ready .any ops listed:=by rw [hr]; exact List.mem_cons_self
    obtain⟨h1,o,ho,_⟩:=mem_ready.1 hm
    have hi:i<ops.size:=(Array.getElem?_eq_some_iff.1 ho).1
    have hx:listed[i]? = some listed[i]:=Array.getElem?_eq_getElem (by omega)
    rw [Array.getD_eq_getD_getElem?,hx] at h1
    have h2:false ∈ listed.toList.filter (! ·):=List.mem_filter.2 ⟨by rw [← show listed[i]=false from by simpa using h1]; exact Array.getElem_mem_toList (by omega),rfl⟩
    have:=List.length_pos_of_mem h2
    omega
  exact⟨hr,hQ a w listed (fG hB hs hr) h⟩
 | fuel+1,listed,a,w,hs,hf,h=>by
  refine⟨fun hr=>hQ a w listed (fG hB hs hr) h,fun i hi=>?_⟩
  obtain⟨h1,o,ho,hall⟩:=mem_ready.1 hi
  have hil:i<ops.size:=(Array.getElem?_eq_some_iff.1 ho).1
  have hk:=hop i o ho a w h.le (fun t v hv hn=>by rw [h.keep t (fun i o ho=>A8 hn i o ho)]; exact hv) (fun j p t hp ht hj=>by
   unfold waitsFor at hj
   obtain⟨e,he,h2⟩:=Array.any_eq_true'.1 hj
   simp only [Bool.and_eq_true,beq_iff_eq] at h2
   obtain⟨h2,h3⟩:=h2
   subst h2
   exact h.done e.on p t hp (hall e he h3) ht)
  unfold wpOp
  rw [ho]
  simp only [Region.wanted,hk.1,if_true]
  refine .inl (Oper.wp_mono (fun a' w' hh=>?_) hk.2)
  obtain⟨u,rfl,hw,hu⟩:=hh
  refine nP hB hn hV hop hQ fuel _ _ _ (by simpa using hs) ?_ (h.step hB hn hV hs ho hw hu)
  have hx:listed[i]? = some listed[i]:=Array.getElem?_eq_getElem (by omega)
  rw [Array.getD_eq_getD_getElem?,hx] at h1
  have h2:listed.toList[i]? = some false:=by
   rw [Array.getElem?_toList,hx]
   simpa using h1
  have h3:=count_set listed.toList i h2
  simp only [Array.toList_setIfInBounds]
  omega
structure wD (ops:Array Oper) (V:Nat→Value→World→Prop) (a0:Act) (w0:World) (a:Act) (w:World):Prop where
 le:Ext w0 w
 size:a.tmps.size=a0.tmps.size
 defers:a.defers=a0.defers
 keep:∀ t,(∀ (i:Nat) (o:Oper),ops[i]? = some o→o.dst≠some t)→a.tmps[t]? = a0.tmps[t]?
 done:∀ (i:Nat) (o:Oper) t,ops[i]? = some o→o.dst=some t→∃ u,a.tmps[t]? = some u∧V i u w
theorem sF {id:Nat} {n:Nat} {Q:Exit→Act→World→Prop} (hm:P.follows .mixedOrders=true) (V:Nat→Value→World→Prop) (hB:vB ops n=true) (hn:a0.tmps.size=n) (hV:∀ i u w w',V i u w→Ext w w'→V i u w')
 (hop:∀ (i:Nat) (o:Oper),ops[i]? = some o→GD P ops V a0 w0 Q i o) (hQ:∀ a w,wD ops V a0 w0 a w→Q .normal a w):(Code.region id ops true).wp P Q a0 w0:=by
 refine wp_region_any hm (nP hB hn hV hop (fun a w listed hl h=>hQ a w ⟨h.le,h.size,h.defers,h.keep,fun i o t ho ht=>h.done i o t ho (hl i (Array.getElem?_eq_some_iff.1 ho).1) ht⟩) ops.size (Array.replicate ops.size false) a0 _ (by simp) ?_ ?_)
 · exact Nat.le_trans (List.length_filter_le _ _) (by simp)
 · refine⟨⟨rfl,rfl,rfl,Nat.le_refl _,fun _ _=>rfl⟩,rfl,rfl,fun _ _=>rfl,fun i o t ho hl _=>?_⟩
   rw [Array.getD_eq_getD_getElem?,Array.getElem?_replicate] at hl
   split at hl <;> simp at hl
def BH (P:Program) (ops:Array Oper) (V:Nat→Value→World→Prop) (a0:Act) (w0:World) (Q:Exit→Act→World→Prop):Nat→List Oper→Prop
 | _,[]=>True
 | i,o :: l=>GD P ops V a0 w0 Q i o∧BH P ops V a0 w0 Q (i+1) l
theorem BH.all {Q:Exit→Act→World→Prop}:∀ {l:List Oper} {k:Nat},BH P ops V a0 w0 Q k l→∀ (i:Nat) (o:Oper),l[i]? = some o→GD P ops V a0 w0 Q (k+i) o
 | [],_,_,i,o,h=>by simp at h
 | x :: l,k,hh,0,o,h=>by
  have e:x=o:=by simpa using h
  subst e; exact hh.1
 | x :: l,k,hh,i+1,o,h=>by
  have:=hh.2.all i o (by simpa using h)
  rwa [show k+(i+1)=k+1+i from by omega]
theorem jL {id:Nat} {n:Nat} {l:List Oper} {Q:Exit→Act→World→Prop} (hm:P.follows .mixedOrders=true) (V:Nat→Value→World→Prop) (hB:vB l.toArray n=true) (hn:a0.tmps.size=n) (hV:∀ i u w w',V i u w→Ext w w'→V i u w')
 (hop:BH P l.toArray V a0 w0 Q 0 l) (hQ:∀ a w,wD l.toArray V a0 w0 a w→Q .normal a w):(Code.region id l.toArray true).wp P Q a0 w0:=
 sF hm V hB hn hV (fun i o ho=>by
  have:=hop.all i o (by simpa using ho)
  rwa [Nat.zero_add] at this) hQ
theorem uL (f:Nat→Value):∀ (ds:List Nat) (t0:Array Value) (i:Nat),(ds.foldl (fun t d=>t.setIfInBounds d (f d)) t0)[i]? = if i ∈ ds∧i<t0.size then some (f i) else t0[i]?
 | [],t0,i=>by simp
 | d :: ds,t0,i=>by
  rw [List.foldl_cons,uL f ds,Array.getElem?_setIfInBounds,Array.size_setIfInBounds]
  by_cases hi:i<t0.size
  · by_cases h1:i ∈ ds
    · simp [h1,hi]
    · by_cases h2:d=i
      · subst h2; simp [h1,hi]
      · have h3:¬ i=d:=fun e=>h2 e.symm
        simp [h1,h2,h3]
  · by_cases h2:d=i
    · subst h2
      simp [hi]
    · simp [hi,h2]
theorem wD.frame {a:Act} {w:World} (h:wD ops V a0 w0 a w) (ds:List Nat) (hds:ops.toList.filterMap (·.dst)=ds):a = { tmps:=ds.foldl (fun t d=>t.setIfInBounds d ((a.tmps[d]?).getD undef)) a0.tmps,defers:=a0.defers }:=by
 obtain⟨t,d⟩:=a
 have h1:=h.size
 have h2:=h.defers
 have h3:=h.keep
 simp only at h1 h2 h3
 subst h2
 congr 1
 apply Array.ext_getElem?
 intro i
 rw [uL (fun d=>(t[d]?).getD undef) ds a0.tmps i]
 by_cases hi:i<a0.tmps.size
 · by_cases hm:i ∈ ds
   · rw [if_pos ⟨hm,hi⟩,Array.getElem?_eq_getElem (by omega)]; rfl
   · rw [if_neg (fun h=>hm h.1)]
     refine h3 i (fun j o ho hd=>hm ?_)
     rw [← hds]
     exact List.mem_filterMap.2 ⟨o,Array.mem_toList_iff.2 (Array.mem_of_getElem? ho),hd⟩
 · rw [if_neg (fun h=>hi h.2),Array.getElem?_eq_none (by omega),Array.getElem?_eq_none (by omega)]
theorem wD.frame' {a:Act} {w:World} (h:wD ops V a0 w0 a w) (ds:List Nat) (hds:ops.toList.filterMap (·.dst)=ds) :
 ∃ f:Nat→Value,a = { tmps:=ds.foldl (fun t d=>t.setIfInBounds d (f d)) a0.tmps,defers:=a0.defers }∧∀ (i:Nat) (o:Oper) t,ops[i]? = some o→o.dst=some t→V i (f t) w:=
 ⟨fun d=>(a.tmps[d]?).getD undef,h.frame ds hds,fun i o t ho ht=>by
  obtain⟨u,h1,h2⟩:=h.done i o t ho ht
  simp only [h1,Option.getD_some]
  exact h2⟩
end
end Go.Proofs.YtoeejfhdjmkpcaaGreatDoor
