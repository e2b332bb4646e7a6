/- Of the proof of a statement: PlRx, PlWDec, Chk, RTab, PlGood, Text, PlSum, PlJp, PlJr. -/
import Derived.Orders
import Derived.Below
import Derived.Lib.ValidLaws
import Derived.Lib.AtoiAll
import Derived.Lib.AtoiAllCases
import Derived.Lib.Small
import Derived.Lib.ItoaNum
import Derived.Lib.Join
import Derived.Test.YtbllgmociapjeaaGreatDoorVPk
import Derived.Test.YtbllgmociapjeaaGreatDoorVRead
set_option linter.unusedVariables false
set_option linter.unusedSimpArgs false
set_option maxRecDepth 100000
set_option maxHeartbeats 8000000
/- What a reader of bytes gives: plain. -/
namespace Go.Proofs.YtbllgmociapjeaaGreatDoor
open Go.Lib (hid)
inductive RR (α:Type) where
 | ok (a:α) (r:ByteArray)
 | bad (e:Nat)
def RR.bind {α β:Type} (x:RR α) (f:α→ByteArray→RR β):RR β:=match x with
 | .ok a r=>f a r
 | .bad e=>.bad e
theorem RR.bind_ok {α β:Type} (a:α) (r:ByteArray) (f:α→ByteArray→RR β):(RR.ok a r).bind f=f a r:=rfl
theorem RR.gG {α β:Type} (e:Nat) (f:α→ByteArray→RR β):(RR.bad e:RR α).bind f = .bad e:=rfl
def RR.st {α:Type} (x:RR α):RR Unit:=x.bind fun _ r=>.ok () r
def RR.Good {α:Type} (N:Nat) (x:RR α):Prop:=match x with
 | .ok _ r=>r.size≤N
 | .bad e=>e≠0∧e≤10
theorem RR.Good.bind {α β:Type} {N:Nat} {x:RR α} {f:α→ByteArray→RR β} (h:x.Good N) (hf:∀ a r,r.size≤N→(f a r).Good N):(x.bind f).Good N:=by
 cases x with
 | ok a r=>exact hf a r h
 | bad e=>exact h
theorem RR.Good.st {α:Type} {N:Nat} {x:RR α} (h:x.Good N):x.st.Good N:=h.bind fun _ _ hr=>hr
def eT (s:ByteArray):RR Nat:=if (rdNum s).2.2=0 then (if 4611686018427387904<(rdNum s).1 then .bad 2 else .ok (rdNum s).1 (s.extract (rdNum s).2.1 s.size)) else .bad (rdNum s).2.2
def cV (s:ByteArray):RR ByteArray:=if (lV s).2.2=0 then .ok (lV s).1 (s.extract (lV s).2.1 s.size) else .bad (lV s).2.2
theorem ze {s:ByteArray} {a k:Nat} (h:rdNum s=(a,k,0)) (hl:¬ 4611686018427387904<a):eT s = .ok a (s.extract k s.size):=by unfold eT; rw [h]; simp only; rw [if_pos trivial,if_neg hl]
theorem wu {s:ByteArray} {a k:Nat} (h:rdNum s=(a,k,0)) (hl:4611686018427387904<a):eT s = .bad 2:=by unfold eT; rw [h]; simp only; rw [if_pos trivial,if_pos hl]
theorem AT {s:ByteArray} {a k e:Nat} (h:rdNum s=(a,k,e)) (he:e≠0):eT s = .bad e:=by unfold eT; rw [h]; simp only; rw [if_neg he]
theorem wA {s t:ByteArray} {k:Nat} (h:lV s=(t,k,0)):cV s = .ok t (s.extract k s.size):=by unfold cV; rw [h]; simp only; rw [if_pos trivial]
theorem x9 {s t:ByteArray} {k e:Nat} (h:lV s=(t,k,e)) (he:e≠0):cV s = .bad e:=by unfold cV; rw [h]; simp only; rw [if_neg he]
theorem pP {s:ByteArray} {k N:Nat} (h:s.size≤N):(s.extract k s.size).size≤N:=by
 rw [ByteArray.size_extract]; omega
theorem yc {s:ByteArray} {N:Nat} (h:s.size≤N):(eT s).Good N:=by
 rcases hr:rdNum s with ⟨a,k,e⟩
 have hf:=jl hr
 by_cases he:e=0
 · subst he
   by_cases hl:4611686018427387904<a
   · rw [wu hr hl]; exact⟨by decide,by decide⟩
   · rw [ze hr hl]; exact pP h
 · rw [AT hr he]; exact⟨he,by omega⟩
theorem JE {s r:ByteArray} {a:Nat} (h:eT s = .ok a r):a≤4611686018427387904:=by
 unfold eT at h
 split at h
 · split at h
   · cases h
   · injection h with h1 h2; omega
 · cases h
theorem wB {s t:ByteArray} {k e:Nat} (h:lV s=(t,k,e)):e≤10∧t.size≤16∧(e=0→k≤s.size):=by
 rcases hr:rdNum s with ⟨a,n,e'⟩
 have hf:=jl hr
 by_cases he:e'=0
 · subst he
   by_cases h1:16<a
   · rw [wC hr h1] at h; injection h with h2 h3; injection h3 with h4 h5; subst h2; subst h5
     exact⟨by omega,by decide,fun hh=>absurd hh (by decide)⟩
   · by_cases h2:s.size<n+a
     · rw [wD hr h1 h2] at h; injection h with h2 h3; injection h3 with h4 h5; subst h2; subst h5
       exact⟨by omega,by decide,fun hh=>absurd hh (by decide)⟩
     · cases hv:Lib.validD (s.extract n (n+a)).data.toList
       · rw [yg hr h1 h2 hv] at h; injection h with h2 h3; injection h3 with h4 h5; subst h2; subst h5
         exact⟨by omega,by decide,fun hh=>absurd hh (by decide)⟩
       · rw [zf hr h1 h2 hv] at h; injection h with h2' h3; injection h3 with h4 h5; subst h2'; subst h5; subst h4
         exact⟨by omega,by rw [ByteArray.size_extract]; omega,fun _=>by omega⟩
 · rw [AU hr he] at h; injection h with h2 h3; injection h3 with h4 h5; subst h2; subst h5
   exact⟨by omega,by decide,fun hh=>absurd hh he⟩
theorem Cv {s:ByteArray} {N:Nat} (h:s.size≤N):(cV s).Good N:=by
 rcases hr:lV s with ⟨a,k,e⟩
 have hf:=wB hr
 by_cases he:e=0
 · subst he
   rw [wA hr]; exact pP h
 · rw [x9 hr he]; exact⟨he,hf.1⟩
def kF {α:Type} (res:RR α) (Z:α→Prop) (a:α):Prop:=match res with
 | .ok b _=>a=b
 | .bad _=>Z a
def AV (v:Int) (s:ByteArray):RR aC:=
 (cV s).bind fun name s=>(eT s).bind fun p s=>(eT s).bind fun need s=>
  (if 1<v then eT s else .ok 0 s).bind fun tries s=>(if 2<v then cV s else .ok ⟨#[]⟩ s).bind fun tag s=>.ok ⟨name,qx p,need,tries,tag⟩ s
def tV (v:Int) (s:ByteArray):RR aA:=
 (cV s).bind fun name s=>(eT s).bind fun room s=>(if 1<v then cV s else .ok ⟨#[]⟩ s).bind fun zone s=>.ok ⟨name,room,zone⟩ s
def oH (s:ByteArray):RR ak:=(cV s).bind fun job s=>(cV s).bind fun node s=>(eT s).bind fun till s=>.ok ⟨job,node,till⟩ s
end Go.Proofs.YtbllgmociapjeaaGreatDoor
/- What Decode of a state says: plain. -/
namespace Go.Proofs.YtbllgmociapjeaaGreatDoor
open Go.Lib (hid)
def iH:ah:=⟨0,[],[],[]⟩
def Fv (σ:RR Unit):Nat:=match σ with
 | .ok _ s=>if s.size=0 then 0 else 4
 | .bad x=>x
theorem Bx {s:ByteArray} (h:s.size≠0):s.toList.isEmpty=false:=by
 have:=oX h
 cases hl:s.toList with
 | nil=>rw [hl] at this; exact absurd this (by decide)
 | cons a l=>rfl
end Go.Proofs.YtbllgmociapjeaaGreatDoor
/- The walks of the checks of one row, in the program. -/
namespace Go.Proofs.YtbllgmociapjeaaGreatDoor
open Go.Lib (hid)
open Go.RowKit
open Go.Lib (validD)
theorem qB (s:ByteArray) (w:World) (hs:s.size≤9223372036854775807) (hT:Tabs w):Calls Tryz.prog 189 #[.string s] w fun e w'=>e = .returned (.bool (iy s))∧Below w.heap.size w w':=by
 by_cases h:s.size≤16
 · rw [AM h]
   have hV:=hid (sX s w hs hT)
   generalize validD s.data.toList=b at hV ⊢
   go_enter Tryz.func189,Tryz.ntmps189
   go_wp2_with fail
   refine Calls.mono hV.out ?_
   rintro e w1 ⟨rfl,hb⟩
   go_wp2
   go_ret
   exact⟨rfl,hb⟩
 · rw [qp h]
   go_enter Tryz.func189,Tryz.ntmps189
   go_wp2
   go_ret
   exact⟨rfl,Below.refl _ _⟩
theorem fI (s:ByteArray) (w:World) (hs:s.size≤9223372036854775807) (hT:Tabs w):Calls Tryz.prog 188 #[.string s] w fun e w'=>e = .returned (.bool (bF s))∧Below w.heap.size w w':=by
 by_cases h:s.size=0
 · rw [yU h]
   obtain rfl:=qM h
   go_enter Tryz.func188,Tryz.ntmps188
   go_wp2
   go_ret
   exact⟨rfl,Below.refl _ _⟩
 · rw [AL h]
   have hV:=hid (qB s w hs hT)
   have e1:=oX h
   have e2:=oY h
   generalize iy s=b at hV ⊢
   go_enter Tryz.func188,Tryz.ntmps188
   go_wp2_with fail
   refine Calls.mono hV.out ?_
   rintro e w1 ⟨rfl,hb⟩
   go_wp2
   go_ret
   exact⟨rfl,hb⟩
theorem AW (n lo hi:Int) (h1:lo≤n) (h2:n≤hi) (w:World):Calls Tryz.prog 142 #[.int .i64 n,.int .i64 lo,.int .i64 hi] w fun e w'=>e = .returned (.bool true)∧w=w':=by
 have e2:decide (n≤hi)=true:=decide_eq_true h2
 go_enter Tryz.func142,Tryz.ntmps142
 go_wp2
 go_ret
 exact⟨rfl,rfl⟩
theorem Cw (n lo hi:Int) (h:n<lo∨hi<n) (w:World):Calls Tryz.prog 142 #[.int .i64 n,.int .i64 lo,.int .i64 hi] w fun e w'=>e = .returned (.bool false)∧w=w':=by
 by_cases h1:lo≤n
 · have h2:hi<n:=by omega
   have e2:decide (n≤hi)=false:=decide_eq_false (by omega)
   clear h
   go_enter Tryz.func142,Tryz.ntmps142
   go_wp2
   go_ret
   exact⟨rfl,rfl⟩
 · have e1:decide (lo≤n)=false:=decide_eq_false h1
   clear h
   go_enter Tryz.func142,Tryz.ntmps142
   go_wp2
   go_ret
   exact⟨rfl,rfl⟩
theorem gU (n lo hi:Int) (w:World):Calls Tryz.prog 142 #[.int .i64 n,.int .i64 lo,.int .i64 hi] w fun e w'=>e = .returned (.bool (ranged n lo hi))∧w=w':=by
 cases h:ranged n lo hi
 · exact Cw n lo hi (gT.1 h) w
 · exact AW n lo hi (aL.1 h).1 (aL.1 h).2 w
theorem rM (j:aC) (w:World) (h1:j.name.size≤9223372036854775807) (h2:j.tag.size≤9223372036854775807) (hT:Tabs w) :
 Calls Tryz.prog 145 #[.agg (aI j).toArray] w fun e w'=>e = .returned (.int .i64 (fB j))∧Below w.heap.size w w':=by
 obtain⟨E,hE⟩:∃ E,fB j=E:=⟨_,rfl⟩
 rw [hE]
 have HE:=hid hE
 clear hE
 obtain⟨name,prio,need,tries,tag⟩:=j
 unfold aI
 simp only at h1 h2 ⊢
 have hb0:Below w.heap.size w (w.alloc (.cells #[.string name,.int .i64 prio,.int .i64 need,.int .i64 tries,.string tag] 32)):=(Below.refl _ _).alloc (Nat.le_refl _) _
 have hT0:=hT.below hb0
 have hN:=hid (fI name _ h1 hT0)
 have HT:=hid hT0
 have HB:=hid hb0
 clear hT0 hb0 hT
 go_enter Tryz.func145,Tryz.ntmps145
 go_wp2_with fail
 refine Calls.mono hN.out ?_
 rintro e w1 ⟨rfl,hb1⟩
 have y1:w1.cell? ⟨w.heap.size,1,none⟩=some (.int .i64 prio):=by rw [(dI hb1).1 _ _ (by simp)]; simp [go_sem]
 have y2:w1.cell? ⟨w.heap.size,2,none⟩=some (.int .i64 need):=by rw [(dI hb1).1 _ _ (by simp)]; simp [go_sem]
 have y3:w1.cell? ⟨w.heap.size,3,none⟩=some (.int .i64 tries):=by rw [(dI hb1).1 _ _ (by simp)]; simp [go_sem]
 have y4:w1.cell? ⟨w.heap.size,4,none⟩=some (.string tag):=by rw [(dI hb1).1 _ _ (by simp)]; simp [go_sem]
 have HB1:=hid (HB.out.trans (hb1.mono HB.out.size))
 have HT1:=hid (HT.out.below hb1)
 have hsz:w.heap.size<w1.heap.size:=by have:=hb1.size; simp at this; omega
 clear hb1 HB HT hN
 cases hn:bF name
 · go_wp2
   go_ret
   exact⟨bg (by rw [← HE.out]; simp [fB,hn]),HB1.out⟩
 go_wp2_with fail
 refine Calls.mono (qB tag w1 h2 HT1.out) ?_
 rintro e w2 ⟨rfl,hb2⟩
 replace y1:=((dI hb2).1 _ _ hsz).trans y1
 replace y2:=((dI hb2).1 _ _ hsz).trans y2
 replace y3:=((dI hb2).1 _ _ hsz).trans y3
 have HB2:=hid (HB1.out.trans (hb2.mono HB1.out.size))
 clear y4 hb2 HB1 HT1 hsz
 cases ht:iy tag
 · go_wp2
   go_ret
   exact⟨bg (by rw [← HE.out]; simp [fB,hn,ht]),HB2.out⟩
 go_wp2_with fail
 refine Calls.mono (gU _ _ _ _) ?_
 rintro e w3 ⟨rfl,rfl⟩
 cases hr1:ranged prio (-1000) 1000
 · go_wp2
   go_ret
   exact⟨bg (by rw [← HE.out]; simp [fB,hn,ht,hr1]),HB2.out⟩
 go_wp2_with fail
 refine Calls.mono (gU _ _ _ _) ?_
 rintro e w3 ⟨rfl,rfl⟩
 cases hr2:ranged need 0 1000000
 · go_wp2
   go_ret
   exact⟨bg (by rw [← HE.out]; simp [fB,hn,ht,hr1,hr2]),HB2.out⟩
 go_wp2_with fail
 refine Calls.mono (gU _ _ _ _) ?_
 rintro e w3 ⟨rfl,rfl⟩
 cases hr3:ranged tries 0 100
 · go_wp2
   go_ret
   exact⟨bg (by rw [← HE.out]; simp [fB,hn,ht,hr1,hr2,hr3]),HB2.out⟩
 · go_wp2
   go_ret
   exact⟨bg (by rw [← HE.out]; simp [fB,hn,ht,hr1,hr2,hr3]),HB2.out⟩
theorem pQ (n:aA) (w:World) (h1:n.name.size≤9223372036854775807) (h2:n.zone.size≤9223372036854775807) (hT:Tabs w) :
 Calls Tryz.prog 148 #[.agg (aB n).toArray] w fun e w'=>e = .returned (.int .i64 (dO n))∧Below w.heap.size w w':=by
 obtain⟨E,hE⟩:∃ E,dO n=E:=⟨_,rfl⟩
 rw [hE]
 have HE:=hid hE
 clear hE
 obtain⟨name,room,zone⟩:=n
 unfold aB
 simp only at h1 h2 ⊢
 have hb0:Below w.heap.size w (w.alloc (.cells #[.string name,.int .i64 room,.string zone] 34)):=(Below.refl _ _).alloc (Nat.le_refl _) _
 have hT0:=hT.below hb0
 have hN:=hid (fI name _ h1 hT0)
 have HT:=hid hT0
 have HB:=hid hb0
 clear hT0 hb0 hT
 go_enter Tryz.func148,Tryz.ntmps148
 go_wp2_with fail
 refine Calls.mono hN.out ?_
 rintro e w1 ⟨rfl,hb1⟩
 have y1:w1.cell? ⟨w.heap.size,1,none⟩=some (.int .i64 room):=by rw [(dI hb1).1 _ _ (by simp)]; simp [go_sem]
 have y2:w1.cell? ⟨w.heap.size,2,none⟩=some (.string zone):=by rw [(dI hb1).1 _ _ (by simp)]; simp [go_sem]
 have HB1:=hid (HB.out.trans (hb1.mono HB.out.size))
 have HT1:=hid (HT.out.below hb1)
 have hsz:w.heap.size<w1.heap.size:=by have:=hb1.size; simp at this; omega
 clear hb1 HB HT hN
 cases hn:bF name
 · go_wp2
   go_ret
   exact⟨bg (by rw [← HE.out]; simp [dO,hn]),HB1.out⟩
 go_wp2_with fail
 refine Calls.mono (qB zone w1 h2 HT1.out) ?_
 rintro e w2 ⟨rfl,hb2⟩
 replace y1:=((dI hb2).1 _ _ hsz).trans y1
 have HB2:=hid (HB1.out.trans (hb2.mono HB1.out.size))
 clear y2 hb2 HB1 HT1 hsz
 cases ht:iy zone
 · go_wp2
   go_ret
   exact⟨bg (by rw [← HE.out]; simp [dO,hn,ht]),HB2.out⟩
 go_wp2_with fail
 refine Calls.mono (gU _ _ _ _) ?_
 rintro e w3 ⟨rfl,rfl⟩
 cases hr1:ranged room 0 1000000
 · go_wp2
   go_ret
   exact⟨bg (by rw [← HE.out]; simp [dO,hn,ht,hr1]),HB2.out⟩
 · go_wp2
   go_ret
   exact⟨bg (by rw [← HE.out]; simp [dO,hn,ht,hr1]),HB2.out⟩
end Go.Proofs.YtbllgmociapjeaaGreatDoor
/- A region that draws its order, by a table: what each operation leaves is said of its value and the world, and stays true while blocks are laid behind. Whatever order the tape picks. -/
namespace Go.Proofs.YtbllgmociapjeaaGreatDoor
open Go.Lib (hid)
open Go.RowKit
abbrev Ext (w w':World):Prop:=Below w.heap.size w w'
theorem Ext.trans {a b c:World} (h:Ext a b) (k:Ext b c):Ext a c:=Below.trans h (k.mono h.size)
theorem eX {w w':World} {a:Addr} {v:Value} (h:w.cell? a=some v) (hw:Ext w w'):w'.cell? a=some v:=(hw.cell (block_lt_of_cell h)).trans h
section
variable {P:Program} {ops:Array Oper} {V:Nat→Value→World→Prop} {a0:Act} {w0:World}
structure RInv (ops:Array Oper) (V:Nat→Value→World→Prop) (a0:Act) (w0:World) (listed:Array Bool) (a:Act) (w:World):Prop where
 le:Ext w0 w
 size:a.tmps.size=a0.tmps.size
 defers:a.defers=a0.defers
 keep:∀ t,(∀ (i:Nat) (o:Oper),ops[i]? = some o→o.dst≠some t)→a.tmps[t]? = a0.tmps[t]?
 done:∀ (i:Nat) (o:Oper) t,ops[i]? = some o→listed.getD i false=true→o.dst=some t→∃ u,a.tmps[t]? = some u∧V i u w
def xC (ops:Array Oper) (n:Nat):Bool:=
 (List.range ops.size).all fun i=>match ops[i]? with
  | some o=>(match o.dst with | some t=>decide (t<n) && (List.range i).all (fun j=>match ops[j]? with | some p=>p.dst != some t | none=>true) | none=>true) && o.after.all (fun e=>decide (e.on<i))
  | none=>true
theorem jo {n:Nat} (h:xC ops n=true) {i:Nat} {o:Oper} (ho:ops[i]? = some o) :
 (∀ t,o.dst=some t→t<n∧∀ (j:Nat) (p:Oper),ops[j]? = some p→j<i→p.dst≠some t)∧∀ e ∈ o.after,e.on<i:=by
 unfold xC at h
 rw [List.all_eq_true] at h
 have hi:i<ops.size:=(Array.getElem?_eq_some_iff.1 ho).1
 have h1:=h i (List.mem_range.2 hi)
 rw [ho] at h1
 simp only [Bool.and_eq_true] at h1
 obtain⟨h1,h2⟩:=h1
 refine⟨fun t ht=>?_,fun e he=>?_⟩
 · rw [ht] at h1
   simp only [Bool.and_eq_true,decide_eq_true_eq] at h1
   refine⟨h1.1,fun j p hp hj=>?_⟩
   have h3:=List.all_eq_true.1 h1.2 j (List.mem_range.2 hj)
   rw [hp] at h3
   simpa using h3
 · have:=(Array.all_eq_true_iff_forall_mem.1 h2) e he
   simpa using this
theorem fO {n:Nat} (hB:xC ops n=true) {listed:Array Bool} (hs:listed.size=ops.size) (hr:Region.ready .any ops listed=[]):∀ i,i<ops.size→listed.getD i false=true:=by
 intro i
 induction i using Nat.strongRecOn with
 | _ i ih=>
  intro hi
  have ho:ops[i]? = some ops[i]:=Array.getElem?_eq_getElem hi
  by_cases hl:listed.getD i false=true
  · exact hl
  · exfalso
    have hm:i ∈ Region.ready .any ops listed:=mem_ready.2 ⟨by
     have hx:listed[i]? = some listed[i]:=Array.getElem?_eq_getElem (by omega)
     rw [Array.getD_eq_getD_getElem?,hx] at hl ⊢
     simpa using hl,_,ho,fun e he _=>?_⟩
    · rw [hr] at hm; cases hm
    · have hlt:=(jo hB ho).2 e he
      exact ih e.on hlt (by omega)
def Ko (ops:Array Oper) (t:Tmp):Bool:=ops.all fun o=>o.dst != some t
theorem Cx {t:Tmp} (h:Ko ops t=true) (i:Nat) (o:Oper) (ho:ops[i]? = some o):o.dst≠some t:=by
 have:=(Array.all_eq_true_iff_forall_mem.1 h) o (Array.mem_of_getElem? ho)
 simpa using this
def waitsFor (o:Oper) (j:Nat):Bool:=o.after.any fun e=>e.on == j && Region.binds .any e
def JF (P:Program) (ops:Array Oper) (V:Nat→Value→World→Prop) (a0:Act) (w0:World) (Q:Exit→Act→World→Prop) (i:Nat) (o:Oper):Prop:=
 ∀ (a:Act) (w:World),Ext w0 w→(∀ t v,a0.tmps[t]? = some v→Ko ops t=true→a.tmps[t]? = some v) →
  (∀ (j:Nat) (p:Oper) t,ops[j]? = some p→p.dst=some t→waitsFor o j=true→∃ u,a.tmps[t]? = some u∧V j u w) →
  o.guard=none∧o.wp P a w (fun a' w'=>∃ u,a'=a.put o.dst u∧Ext w w'∧V i u w') Q
theorem RInv.step {n:Nat} (hB:xC ops n=true) (hn:a0.tmps.size=n) (hV:∀ i u w w',V i u w→Ext w w'→V i u w') {listed:Array Bool} {a:Act} {w:World} (hs:listed.size=ops.size)
 (h:RInv ops V a0 w0 listed a w) {i:Nat} {o:Oper} (ho:ops[i]? = some o) {u:Value} {w':World} (hw:Ext w w') (hu:V i u w'):RInv ops V a0 w0 (listed.setIfInBounds i true) (a.put o.dst u) w':=by
 have hi:i<ops.size:=(Array.getElem?_eq_some_iff.1 ho).1
 have hput:∀ t,o.dst≠some t→(a.put o.dst u).tmps[t]? = a.tmps[t]?:=by
  intro t ht
  unfold Act.put
  cases hd:o.dst with
  | none=>rfl
  | some d=>
   have hne:d≠t:=fun e=>ht (by rw [hd,e])
   simp [Array.getElem?_setIfInBounds,hne]
 refine⟨h.le.trans hw,?_,?_,fun t ht=>?_,fun j p t hp hl ht=>?_⟩
 · unfold Act.put; split <;> simp [h.size]
 · unfold Act.put; split <;> simp [h.defers]
 · rw [hput t (ht i o ho)]; exact h.keep t ht
 · by_cases hij:i=j
   · subst hij
     rw [ho] at hp; injection hp with hp; subst hp
     have hlt:=((jo hB ho).1 t ht).1
     refine⟨u,?_,hu⟩
     unfold Act.put
     rw [ht]
     simp only [Array.getElem?_setIfInBounds]
     rw [if_pos trivial,if_pos (by rw [h.size,hn]; exact hlt)]
   · have hl':listed.getD j false=true:=by
      rw [Array.getD_eq_getD_getElem?] at hl ⊢
      rw [Array.getElem?_setIfInBounds,if_neg hij] at hl
      exact hl
     obtain⟨u',h1,h2⟩:=h.done j p t hp hl' ht
     refine⟨u',?_,hV _ _ _ _ h2 hw⟩
     rw [hput t ?_]; exact h1
     intro e
     rcases Nat.lt_or_gt_of_ne hij with hlt | hlt
     · exact ((jo hB hp).1 t ht).2 i o ho hlt e
     · exact ((jo hB ho).1 t e).2 j p hp hlt ht
theorem count_set:∀ (l:List Bool) (i:Nat),l[i]? = some false→((l.set i true).filter (! ·)).length+1=(l.filter (! ·)).length
 | [],i,h=>by simp at h
 | x :: l,0,h=>by
  have hx:x=false:=by simpa using h
  subst hx; simp
 | x :: l,i+1,h=>by
  have ih:=count_set l i (by simpa using h)
  cases x <;> simp <;> omega
theorem oI {n:Nat} {Q:Exit→Act→World→Prop} (hB:xC ops n=true) (hn:a0.tmps.size=n) (hV:∀ i u w w',V i u w→Ext w w'→V i u w')
 (hop:∀ (i:Nat) (o:Oper),ops[i]? = some o→JF P ops V a0 w0 Q i o)
 (hQ:∀ a w,(∀ listed,(∀ i,i<ops.size→listed.getD i false=true)→RInv ops V a0 w0 listed a w→Q .normal a w)) :
 ∀ (fuel:Nat) (listed:Array Bool) (a:Act) (w:World),listed.size=ops.size→(listed.toList.filter (! ·)).length≤fuel→RInv ops V a0 w0 listed a w→wpAny P .any ops Q fuel listed a w
 | 0,listed,a,w,hs,hf,h=>by
  have hr:Region.ready .any ops listed=[]:=by
   cases hr:Region.ready .any ops listed with
   | nil=>rfl
   | cons i r=>
    exfalso
    have hm:i ∈ Region.ready .any ops listed:=by rw [hr]; exact List.mem_cons_self
    obtain⟨h1,o,ho,_⟩:=mem_ready.1 hm
    have hi:i<ops.size:=(Array.getElem?_eq_some_iff.1 ho).1
    have hx:listed[i]? = some listed[i]:=Array.getElem?_eq_getElem (by omega)
    rw [Array.getD_eq_getD_getElem?,hx] at h1
    have h2:false ∈ listed.toList.filter (! ·):=List.mem_filter.2 ⟨by rw [← show listed[i]=false from by simpa using h1]; exact Array.getElem_mem_toList (by omega),rfl⟩
    have:=List.length_pos_of_mem h2
    omega
  exact⟨hr,hQ a w listed (fO hB hs hr) h⟩
 | fuel+1,listed,a,w,hs,hf,h=>by
  refine⟨fun hr=>hQ a w listed (fO hB hs hr) h,fun i hi=>?_⟩
  obtain⟨h1,o,ho,hall⟩:=mem_ready.1 hi
  have hil:i<ops.size:=(Array.getElem?_eq_some_iff.1 ho).1
  have hk:=hop i o ho a w h.le (fun t v hv hn=>by rw [h.keep t (fun i o ho=>Cx hn i o ho)]; exact hv) (fun j p t hp ht hj=>by
   unfold waitsFor at hj
   obtain⟨e,he,h2⟩:=Array.any_eq_true'.1 hj
   simp only [Bool.and_eq_true,beq_iff_eq] at h2
   obtain⟨h2,h3⟩:=h2
   subst h2
   exact h.done e.on p t hp (hall e he h3) ht)
  unfold wpOp
  rw [ho]
  simp only [Region.wanted,hk.1,if_true]
  refine .inl (Oper.wp_mono (fun a' w' hh=>?_) hk.2)
  obtain⟨u,rfl,hw,hu⟩:=hh
  refine oI hB hn hV hop hQ fuel _ _ _ (by simpa using hs) ?_ (h.step hB hn hV hs ho hw hu)
  have hx:listed[i]? = some listed[i]:=Array.getElem?_eq_getElem (by omega)
  rw [Array.getD_eq_getD_getElem?,hx] at h1
  have h2:listed.toList[i]? = some false:=by
   rw [Array.getElem?_toList,hx]
   simpa using h1
  have h3:=count_set listed.toList i h2
  simp only [Array.toList_setIfInBounds]
  omega
structure yh (ops:Array Oper) (V:Nat→Value→World→Prop) (a0:Act) (w0:World) (a:Act) (w:World):Prop where
 le:Ext w0 w
 size:a.tmps.size=a0.tmps.size
 defers:a.defers=a0.defers
 keep:∀ t,(∀ (i:Nat) (o:Oper),ops[i]? = some o→o.dst≠some t)→a.tmps[t]? = a0.tmps[t]?
 done:∀ (i:Nat) (o:Oper) t,ops[i]? = some o→o.dst=some t→∃ u,a.tmps[t]? = some u∧V i u w
theorem uw {id:Nat} {n:Nat} {Q:Exit→Act→World→Prop} (hm:P.follows .mixedOrders=true) (V:Nat→Value→World→Prop) (hB:xC ops n=true) (hn:a0.tmps.size=n) (hV:∀ i u w w',V i u w→Ext w w'→V i u w')
 (hop:∀ (i:Nat) (o:Oper),ops[i]? = some o→JF P ops V a0 w0 Q i o) (hQ:∀ a w,yh ops V a0 w0 a w→Q .normal a w):(Code.region id ops true).wp P Q a0 w0:=by
 refine wp_region_any hm (oI hB hn hV hop (fun a w listed hl h=>hQ a w ⟨h.le,h.size,h.defers,h.keep,fun i o t ho ht=>h.done i o t ho (hl i (Array.getElem?_eq_some_iff.1 ho).1) ht⟩) ops.size (Array.replicate ops.size false) a0 _ (by simp) ?_ ?_)
 · exact Nat.le_trans (List.length_filter_le _ _) (by simp)
 · refine⟨⟨rfl,rfl,rfl,Nat.le_refl _,fun _ _=>rfl⟩,rfl,rfl,fun _ _=>rfl,fun i o t ho hl _=>?_⟩
   rw [Array.getD_eq_getD_getElem?,Array.getElem?_replicate] at hl
   split at hl <;> simp at hl
def Dm (P:Program) (ops:Array Oper) (V:Nat→Value→World→Prop) (a0:Act) (w0:World) (Q:Exit→Act→World→Prop):Nat→List Oper→Prop
 | _,[]=>True
 | i,o :: l=>JF P ops V a0 w0 Q i o∧Dm P ops V a0 w0 Q (i+1) l
theorem Dm.all {Q:Exit→Act→World→Prop}:∀ {l:List Oper} {k:Nat},Dm P ops V a0 w0 Q k l→∀ (i:Nat) (o:Oper),l[i]? = some o→JF P ops V a0 w0 Q (k+i) o
 | [],_,_,i,o,h=>by simp at h
 | x :: l,k,hh,0,o,h=>by
  have e:x=o:=by simpa using h
  subst e; exact hh.1
 | x :: l,k,hh,i+1,o,h=>by
  have:=hh.2.all i o (by simpa using h)
  rwa [show k+(i+1)=k+1+i from by omega]
theorem kJ {id:Nat} {n:Nat} {l:List Oper} {Q:Exit→Act→World→Prop} (hm:P.follows .mixedOrders=true) (V:Nat→Value→World→Prop) (hB:xC l.toArray n=true) (hn:a0.tmps.size=n) (hV:∀ i u w w',V i u w→Ext w w'→V i u w')
 (hop:Dm P l.toArray V a0 w0 Q 0 l) (hQ:∀ a w,yh l.toArray V a0 w0 a w→Q .normal a w):(Code.region id l.toArray true).wp P Q a0 w0:=
 uw hm V hB hn hV (fun i o ho=>by
  have:=hop.all i o (by simpa using ho)
  rwa [Nat.zero_add] at this) hQ
theorem wh (f:Nat→Value):∀ (ds:List Nat) (t0:Array Value) (i:Nat),(ds.foldl (fun t d=>t.setIfInBounds d (f d)) t0)[i]? = if i ∈ ds∧i<t0.size then some (f i) else t0[i]?
 | [],t0,i=>by simp
 | d :: ds,t0,i=>by
  rw [List.foldl_cons,wh f ds,Array.getElem?_setIfInBounds,Array.size_setIfInBounds]
  by_cases hi:i<t0.size
  · by_cases h1:i ∈ ds
    · simp [h1,hi]
    · by_cases h2:d=i
      · subst h2; simp [h1,hi]
      · have h3:¬ i=d:=fun e=>h2 e.symm
        simp [h1,h2,h3]
  · by_cases h2:d=i
    · subst h2
      simp [hi]
    · simp [hi,h2]
theorem yh.frame {a:Act} {w:World} (h:yh ops V a0 w0 a w) (ds:List Nat) (hds:ops.toList.filterMap (·.dst)=ds):a = { tmps:=ds.foldl (fun t d=>t.setIfInBounds d ((a.tmps[d]?).getD undef)) a0.tmps,defers:=a0.defers }:=by
 obtain⟨t,d⟩:=a
 have h1:=h.size
 have h2:=h.defers
 have h3:=h.keep
 simp only at h1 h2 h3
 subst h2
 congr 1
 apply Array.ext_getElem?
 intro i
 rw [wh (fun d=>(t[d]?).getD undef) ds a0.tmps i]
 by_cases hi:i<a0.tmps.size
 · by_cases hm:i ∈ ds
   · rw [if_pos ⟨hm,hi⟩,Array.getElem?_eq_getElem (by omega)]; rfl
   · rw [if_neg (fun h=>hm h.1)]
     refine h3 i (fun j o ho hd=>hm ?_)
     rw [← hds]
     exact List.mem_filterMap.2 ⟨o,Array.mem_toList_iff.2 (Array.mem_of_getElem? ho),hd⟩
 · rw [if_neg (fun h=>hi h.2),Array.getElem?_eq_none (by omega),Array.getElem?_eq_none (by omega)]
theorem yh.frame' {a:Act} {w:World} (h:yh ops V a0 w0 a w) (ds:List Nat) (hds:ops.toList.filterMap (·.dst)=ds) :
 ∃ f:Nat→Value,a = { tmps:=ds.foldl (fun t d=>t.setIfInBounds d (f d)) a0.tmps,defers:=a0.defers }∧∀ (i:Nat) (o:Oper) t,ops[i]? = some o→o.dst=some t→V i (f t) w:=
 ⟨fun d=>(a.tmps[d]?).getD undef,h.frame ds hds,fun i o t ho ht=>by
  obtain⟨u,h1,h2⟩:=h.done i o t ho ht
  simp only [h1,Option.getD_some]
  exact h2⟩
end
end Go.Proofs.YtbllgmociapjeaaGreatDoor
/- What a check that says yes gives: plain. -/
namespace Go.Proofs.YtbllgmociapjeaaGreatDoor
open Go.Lib (hid)
theorem bO {s:ByteArray} (h:bF s=true):s.size≤16:=by
 by_cases hs:s.size≤16
 · exact hs
 · unfold bF at h; rw [qp hs] at h; simp at h
theorem gy {s:ByteArray} (h:iy s=true):s.size≤16:=by
 by_cases hs:s.size≤16
 · exact hs
 · rw [qp hs] at h; simp at h
theorem gI {j:aC} (h:fB j=0):bF j.name=true∧iy j.tag=true∧(-1000≤j.prio∧j.prio≤1000)∧(0≤j.need∧j.need≤1000000)∧(0≤j.tries∧j.tries≤100):=by
 unfold fB at h
 by_cases h1:(bF j.name && iy j.tag)=true
 · rw [if_pos h1] at h
   by_cases h2:(ranged j.prio (-1000) 1000 && ranged j.need 0 1000000 && ranged j.tries 0 100)=true
   · simp only [Bool.and_eq_true] at h1 h2
     exact⟨h1.1,h1.2,aL.1 h2.1.1,aL.1 h2.1.2,aL.1 h2.2⟩
   · rw [if_neg h2] at h; exact absurd h (by decide)
 · rw [if_neg h1] at h; exact absurd h (by decide)
theorem iY {n:aA} (h:dO n=0):bF n.name=true∧iy n.zone=true∧(0≤n.room∧n.room≤1000000):=by
 unfold dO at h
 by_cases h1:(bF n.name && iy n.zone)=true
 · rw [if_pos h1] at h
   by_cases h2:ranged n.room 0 1000000=true
   · simp only [Bool.and_eq_true] at h1
     exact⟨h1.1,h1.2,aL.1 h2⟩
   · rw [if_neg h2] at h; exact absurd h (by decide)
 · rw [if_neg h1] at h; exact absurd h (by decide)
theorem wF {l:ak} (h:lsE l=0):bF l.job=true∧bF l.node=true∧(0≤l.till∧l.till≤1099511627776):=by
 unfold lsE at h
 by_cases h1:(bF l.job && bF l.node)=true
 · rw [if_pos h1] at h
   by_cases h2:ranged l.till 0 1099511627776=true
   · simp only [Bool.and_eq_true] at h1
     exact⟨h1.1,h1.2,aL.1 h2⟩
   · rw [if_neg h2] at h; exact absurd h (by decide)
 · rw [if_neg h1] at h; exact absurd h (by decide)
end Go.Proofs.YtbllgmociapjeaaGreatDoor
/- The walks of Text, in the program and in the reference. -/
namespace Go.Proofs.YtbllgmociapjeaaGreatDoor
open Go.Lib (hid)
open Go.RowKit
open Go.Lib (validD)
def rN (s:ByteArray):ByteArray × Int:=if 16<s.size then (⟨#[]⟩,2) else if validD s.data.toList=true then (⟨#[UInt8.ofNat s.size]⟩ ++ s,0) else (⟨#[]⟩,4)
def jY (s:ByteArray) (w:World) (e:Ending) (w':World):Prop:=e = .returned (.tuple #[.string (rN s).1,.int .i64 (rN s).2])∧Below w.heap.size w w'
theorem jY.large {s:ByteArray} {w w':World} (h:16<s.size) (hb:Below w.heap.size w w'):jY s w (.returned (.tuple #[.string ⟨#[]⟩,.int .i64 2])) w':=⟨by unfold rN; rw [if_pos h],hb⟩
theorem jY.form {s:ByteArray} {w w':World} (h:¬ 16<s.size) (hv:validD s.data.toList=false) (hb:Below w.heap.size w w'):jY s w (.returned (.tuple #[.string ⟨#[]⟩,.int .i64 4])) w':=⟨by unfold rN; rw [if_neg h,if_neg (by rw [hv]; simp)],hb⟩
theorem jY.ok {s x:ByteArray} {w w':World} (h:¬ 16<s.size) (hv:validD s.data.toList=true) (hx:x=⟨#[UInt8.ofNat s.size]⟩ ++ s) (hb:Below w.heap.size w w'):jY s w (.returned (.tuple #[.string x,.int .i64 0])) w':=⟨by unfold rN; rw [if_neg h,if_pos hv,hx],hb⟩
theorem GT (s:ByteArray) (w:World) (hs:s.size≤9223372036854775807) (hT:Tabs w):Calls Tryz.prog 219 #[.string s] w (jY s w):=by
 by_cases h:16<s.size
 · have fin:=hid (jY.large (w:=w) (w':=w) h (Below.refl _ _))
   go_enter Tryz.func219,Tryz.ntmps219
   go_wp2
   go_ret2
   exact fin.out
 · have hV:=hid (sX s w hs hT)
   cases hv:validD s.data.toList
   · have fin:=hid (fun w'=>jY.form (w:=w) (w':=w') h hv)
     rw [hv] at hV
     go_enter Tryz.func219,Tryz.ntmps219
     go_wp2_with fail
     refine Calls.mono hV.out ?_
     rintro e w1 ⟨rfl,hb⟩
     go_wp2
     go_ret2
     exact fin.out _ hb
   · have fin:=hid (fun x w'=>jY.ok (x:=x) (w:=w) (w':=w') h hv)
     rw [hv] at hV
     have hsz:=hid (qA (n:=s.size) (by omega))
     go_enter Tryz.func219,Tryz.ntmps219
     go_wp2_with fail
     refine Calls.mono hV.out ?_
     rintro e w1 ⟨rfl,hb⟩
     go_wp2_with fail
     refine Calls.mono (vA (s.size:Int) w1 (by omega) (by omega)) ?_
     rintro e w2 ⟨rfl,hb2⟩
     rw [show ((s.size:Int)).toNat=s.size from by omega,hsz.out]
     have hb3:=hid (hb.trans (hb2.mono hb.size))
     clear hb hb2
     go_wp2
     go_ret2
     exact fin.out _ _ rfl hb3.out
end Go.Proofs.YtbllgmociapjeaaGreatDoor
/- The sum of bytes: plain. -/
namespace Go.Proofs.YtbllgmociapjeaaGreatDoor
open Go.Lib (hid)
def zh (x:Nat):Nat:=(x / 2) ^^^ (x % 2*3988292384)
def mG:Nat→Nat→Nat
 | 0,x=>x
 | n+1,x=>zh (mG n x)
theorem JG {x:Nat} (h:x<4294967296):zh x<4294967296:=by
 unfold zh
 exact Nat.xor_lt_two_pow (n:=32) (by omega) (by have:x % 2<2:=Nat.mod_lt _ (by omega); omega)
theorem uG {x:Nat} (h:x<4294967296):∀ n,mG n x<4294967296
 | 0=>h
 | n+1=>JG (uG h n)
theorem GU (a b:Nat):(a ^^^ b) / 2=(a / 2) ^^^ (b / 2):=by
 have:=Nat.shiftRight_xor_distrib (a:=a) (b:=b) (i:=1)
 simpa [Nat.shiftRight_eq_div_pow] using this
theorem GV (a b:Nat):(a ^^^ b) % 2=(a % 2) ^^^ (b % 2):=by
 have:=Nat.xor_mod_two_pow (a:=a) (b:=b) (n:=1)
 simpa using this
theorem GW (a b:Nat):zh (a ^^^ b)=zh a ^^^ zh b:=by
 unfold zh
 rw [GU,GV]
 have ha:a % 2=0∨a % 2=1:=by omega
 have hb:b % 2=0∨b % 2=1:=by omega
 rcases ha with ha | ha <;> rcases hb with hb | hb <;> rw [ha,hb]
 · simp
 · simp [Nat.xor_assoc]
 · simp only [Nat.zero_xor,Nat.xor_zero,Nat.one_mul,Nat.zero_mul]
   rw [Nat.xor_assoc,Nat.xor_assoc,Nat.xor_comm (b / 2)]
 · simp only [Nat.xor_self,Nat.one_mul,Nat.zero_mul,Nat.xor_zero]
   rw [show a / 2 ^^^ 3988292384 ^^^ (b / 2 ^^^ 3988292384)=a / 2 ^^^ b / 2 ^^^ (3988292384 ^^^ 3988292384) from by ac_rfl]
   simp
theorem AX (a b:Nat):∀ n,mG n (a ^^^ b)=mG n a ^^^ mG n b
 | 0=>rfl
 | n+1=>by rw [mG,AX a b n,GW]; rfl
theorem yj:∀ n h,mG n (2 ^ n*h)=h
 | 0,h=>by simp [mG]
 | n+1,h=>by
  have e:2 ^ (n+1)*h=2 ^ n*(2*h):=by rw [Nat.pow_succ,Nat.mul_assoc]
  rw [mG,e,yj n (2*h)]
  unfold zh
  simp
theorem EB (y:Nat):mG 8 y=(y / 256) ^^^ mG 8 (y % 256):=by
 have e:y=(256*(y / 256)) ^^^ (y % 256):=by
  have h:=Nat.two_pow_add_eq_or_of_lt (i:=8) (b:=y % 256) (by omega) (y / 256)
  have h2:2 ^ 8*(y / 256) &&& y % 256=0:=by
   apply Nat.eq_of_testBit_eq
   intro i
   rw [Nat.testBit_and,Nat.zero_testBit,Nat.testBit_two_pow_mul]
   by_cases hi:8≤i
   · have:(y % 256).testBit i=false:=Nat.testBit_lt_two_pow (Nat.lt_of_lt_of_le (show y % 256<2 ^ 8 by omega) (Nat.pow_le_pow_right (by omega) hi))
     simp [this]
   · simp [hi]
  have h3:(256*(y / 256)) ^^^ (y % 256)=256*(y / 256) ||| y % 256:=by
   apply Nat.eq_of_testBit_eq
   intro i
   have h4:=congrArg (fun z=>z.testBit i) h2
   simp only [Nat.testBit_and,Nat.zero_testBit] at h4
   rw [Nat.testBit_xor,Nat.testBit_or]
   have h5:(256*(y / 256))=2 ^ 8*(y / 256):=rfl
   rw [h5]
   revert h4
   cases (2 ^ 8*(y / 256)).testBit i <;> cases (y % 256).testBit i <;> simp
  rw [h3]
  have h5:(256*(y / 256))=2 ^ 8*(y / 256):=rfl
  rw [h5,← h]
  omega
 have h1:mG 8 (256*(y / 256))=y / 256:=yj 8 (y / 256)
 conv=>lhs; rw [e,AX,h1]
def GX (x c:Nat):Nat:=(x / 256) ^^^ mG 8 ((x % 256) ^^^ c)
theorem JH {x c:Nat} (hc:c<256):GX x c=mG 8 (x ^^^ c):=by
 rw [EB (x ^^^ c)]
 have e1:(x ^^^ c) / 256=x / 256:=by
  have:=Nat.shiftRight_xor_distrib (a:=x) (b:=c) (i:=8)
  simp only [Nat.shiftRight_eq_div_pow] at this
  rw [show (256:Nat)=2 ^ 8 from rfl,this,show c / 2 ^ 8=0 from by omega,Nat.xor_zero]
 have e2:(x ^^^ c) % 256=(x % 256) ^^^ c:=by
  have:=Nat.xor_mod_two_pow (a:=x) (b:=c) (n:=8)
  rw [show (256:Nat)=2 ^ 8 from rfl,this,show c % 2 ^ 8=c from by omega]
 rw [e1,e2]; rfl
theorem JI {x c:Nat} (hx:x<4294967296) (hc:c<256):GX x c<4294967296:=by
 rw [JH hc]
 exact uG (Nat.xor_lt_two_pow (n:=32) hx (by omega)) 8
def AP (l:List UInt8):Nat:=l.foldl (fun x c=>GX x c.toNat) 4294967295
theorem Jy (l:List UInt8):AP l<4294967296:=by
 unfold AP
 have:∀ (l:List UInt8) (x:Nat),x<4294967296→l.foldl (fun x c=>GX x c.toNat) x<4294967296:=by
  intro l
  induction l with
  | nil=>intro x h; exact h
  | cons c l ih=>intro x h; exact ih _ (JI h c.toNat_lt)
 exact this l _ (by omega)
def jA (l:List UInt8):Nat:=4294967295 - AP l
theorem xA (x:Nat) (hx:x<4294967296):bits .xor .u32 ((x:Int) / 2) (bits .and .u32 (x:Int) 1*3988292384)=((zh x:Nat):Int)∧0≤bits .and .u32 (x:Int) 1∧bits .and .u32 (x:Int) 1≤1:=by
 have e1:bits .and .u32 (x:Int) 1=((x % 2:Nat):Int):=by
  rw [show (1:Int)=((1:Nat):Int) from rfl,u32_and_nat x 1 hx (by omega),nat_mask1]
 rw [e1]
 refine⟨?_,by omega,by omega⟩
 have e2:((x % 2:Nat):Int)*3988292384=((x % 2*3988292384:Nat):Int):=by rw [Int.natCast_mul]; rfl
 have e3:(x:Int) / 2=((x / 2:Nat):Int):=by omega
 rw [e2,e3,u32_xor_nat _ _ (by omega) (by have:x % 2<2:=Nat.mod_lt _ (by omega); omega)]
 rfl
theorem Jz (x c:Nat) (hc:c<256):bits .xor .u8 ((x:Int) % 256) (c:Int)=(((x % 256) ^^^ c:Nat):Int)∧(x % 256) ^^^ c<256:=by
 have e:(x:Int) % 256=((x % 256:Nat):Int):=by omega
 rw [e,u8_xor_nat _ _ (by omega) hc]
 exact⟨rfl,Nat.xor_lt_two_pow (n:=8) (by omega) (by omega)⟩
theorem yW (x y:Nat) (hx:x<4294967296) (hy:y<256):bits .xor .u32 ((x:Int) / 256) ((mG 8 y:Nat):Int)=((x / 256 ^^^ mG 8 y:Nat):Int):=by
 have e:(x:Int) / 256=((x / 256:Nat):Int):=by omega
 rw [e,u32_xor_nat _ _ (by omega) (uG (by omega) 8)]
theorem Ey (l:List UInt8) (c:UInt8):AP (l ++ [c])=GX (AP l) c.toNat:=by simp [AP]
theorem wG (a:Nat) (h:a<4294967296):a ^^^ 4294967295=4294967295 - a:=by
 have e:BitVec.ofNat 32 a ^^^ BitVec.allOnes 32 = ~~~ BitVec.ofNat 32 a:=BitVec.xor_allOnes
 have e2:=congrArg BitVec.toNat e
 simp only [BitVec.toNat_xor,BitVec.toNat_not,BitVec.toNat_ofNat,BitVec.toNat_allOnes] at e2
 rw [Nat.mod_eq_of_lt (by omega)] at e2
 simpa using e2
theorem JA (x:Nat) (hx:x<4294967296):bits .xor .u32 IntKind.u32.max (x:Int)=((4294967295 - x:Nat):Int):=by
 have e:IntKind.u32.max=((4294967295:Nat):Int):=rfl
 rw [e,u32_xor_nat _ _ (by omega) hx,Nat.xor_comm,wG x hx]
end Go.Proofs.YtbllgmociapjeaaGreatDoor
/- What the program's reader of JSON gives: plain. -/
namespace Go.Proofs.YtbllgmociapjeaaGreatDoor
open Go.Lib (hid)
open Go.Lib (hasPrefix trimPrefix itoa atoiAll atoiSat decDigits)
def BA (l:List UInt8):ByteArray:=⟨l.toArray⟩
theorem zi (s:ByteArray):BA s.data.toList=s:=rfl
theorem iM (l:List UInt8):(BA l).data.toList=l:=rfl
theorem fY (l:List UInt8):(BA l).size=l.length:=by show l.toArray.size=l.length; simp
theorem oJ (s:ByteArray):s.data.toList.length=s.size:=by rw [Array.length_toList]; rfl
theorem GY (s:ByteArray) (k:Nat):(s.extract k s.size).data.toList=s.data.toList.drop k:=by
 rw [ByteArray.data_extract,Array.toList_extract,List.extract_eq_take_drop,List.take_of_length_le]
 rw [List.length_drop,oJ]
 exact Nat.le_refl _
theorem vP (l:List UInt8) (k:Nat):(BA l).extract k (BA l).size=BA (l.drop k):=by
 have h:=GY (BA l) k
 rw [iM] at h
 rw [← zi ((BA l).extract k (BA l).size),h]
/-! What is printed is read. -/
/-! Numbers. -/
/-! Objects. -/
/-! Rows. -/
/-! How long what is left is. -/
end Go.Proofs.YtbllgmociapjeaaGreatDoor
/- What the reference's reader of JSON gives: plain. -/
namespace Go.Proofs.YtbllgmociapjeaaGreatDoor
open Go.Lib (hid)
open Go.Lib (hasPrefix trimPrefix itoa decDigits)
/-! What is printed is read. -/
theorem Jv (l:List UInt8) (k:Nat) (h:k≤l.length):(BA l).extract 0 k=BA (l.take k):=by
 rw [← zi ((BA l).extract 0 k)]
 congr 1
 rw [ByteArray.data_extract,Array.toList_extract,List.extract_eq_take_drop]
 simp [BA]
/-! Objects. -/
/-! Rows. -/
/-! What is left is no longer. -/
/-! Values: what they may be. -/
end Go.Proofs.YtbllgmociapjeaaGreatDoor
