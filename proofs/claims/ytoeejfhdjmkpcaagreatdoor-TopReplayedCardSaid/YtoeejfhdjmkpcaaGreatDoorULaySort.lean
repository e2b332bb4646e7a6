/- Of the proof of a statement: SrvAt, SvTop, PlChg, LaySort. -/
import Derived.Sort.Statements
import Derived.Shelf.SlSortCmp.WholeK
import Derived.Shelf.SlGeneric
import Derived.Ground.SlsfProg
import Derived.Test.YtoeejfhdjmkpcaaGreatDoorProg
import Derived.Test.YtoeejfhdjmkpcaaGreatDoorUDoA
import Derived.Test.YtoeejfhdjmkpcaaGreatDoorUFrmEnc
set_option linter.unusedVariables false
set_option linter.unusedSimpArgs false
set_option maxRecDepth 100000
set_option maxHeartbeats 8000000
/- A server in memory: its block, the rows of its state; what leaves the rows alone. -/
namespace Go.Proofs.YtoeejfhdjmkpcaaGreatDoor
open Go.Lib (hid)
open Go.RowKit
def jC (cs:Array Value):Prop:=∀ (i:Nat) (s:ByteArray),cs[i]? ≠ some (.string s)
theorem lV {cs:Array Value} (h:∀ v ∈ cs,∀ s,v ≠ .string s):jC cs:=fun _ s e=>h _ (Array.mem_of_getElem? e) s rfl
theorem nM (st:ak) (x:StA):jC (stC st x):=lV (by
 intro v hv s
 simp only [stC,List.mem_toArray,List.mem_cons,List.not_mem_nil,or_false] at hv
 rcases hv with rfl | rfl | rfl | rfl <;> simp)
def wZ (st:ak) (x:StA) (now:Int):Array Value:=#[.int .i64 st.rev,.slice x.aj x.nj x.cj,.slice x.an x.nn x.cn,.slice x.al x.nl x.cl,.int .i64 now]
theorem nu (st:ak) (x:StA) (now:Int):jC (wZ st x now):=lV (by
 intro v hv s
 simp only [wZ,List.mem_toArray,List.mem_cons,List.not_mem_nil,or_false] at hv
 rcases hv with rfl | rfl | rfl | rfl | rfl <;> simp)
theorem jB (n m:Int):jC #[.int .i64 n,.int .i64 m]:=lV (by
 intro v hv s
 simp only [List.mem_toArray,List.mem_cons,List.not_mem_nil,or_false] at hv
 rcases hv with rfl | rfl <;> simp)
section
variable {w w':World} {B sz n g:Nat} {A:Option Addr} {xs:List Value} {t:TypeId} {cs:Array Value}
theorem aQ.gS (h:aQ w B sz A n xs) (hb:Blk w g t cs) (hc:jC cs) (h0:0<n→∃ s,xs[0]? = some (.string s)) (hg:w.grownBy w' (some g)):aQ w' B sz A n xs:=
 ⟨h.len,fun hn=>by
  obtain⟨b,off,e,hB,hr⟩:=h.at_ hn
  obtain⟨s,hs⟩:=h0 hn
  refine⟨b,off,e,hB,fun j u hu=>hg.cell (hr j u hu) ?_⟩
  intro e1
  have e2:b=g:=by simpa using e1
  subst e2
  have h1:=hr 0 _ hs
  rw [Nat.add_zero,hb.cell off] at h1
  exact hc _ _ h1⟩
end
theorem uw {l:List aA} {n:Nat} (h:l.length=n) (hn:0<n):∃ s,(au aJ l)[0]? = some (.string s):=by
 match l,h with
 | [],h=>simp at h; omega
 | a :: l,_=>exact⟨a.name,rfl⟩
theorem qZ {l:List av} {n:Nat} (h:l.length=n) (hn:0<n):∃ s,(au aB l)[0]? = some (.string s):=by
 match l,h with
 | [],h=>simp at h; omega
 | a :: l,_=>exact⟨a.name,rfl⟩
theorem oS {l:List ah} {n:Nat} (h:l.length=n) (hn:0<n):∃ s,(au ay l)[0]? = some (.string s):=by
 match l,h with
 | [],h=>simp at h; omega
 | a :: l,_=>exact⟨a.job,rfl⟩
theorem StAt.gS {w w':World} {B g:Nat} {t:TypeId} {cs:Array Value} {st:ak} {x:StA} (h:StAt w B st x) (hb:Blk w g t cs) (hc:jC cs) (hg:w.grownBy w' (some g)):StAt w' B st x:=
 ⟨h.j.gS hb hc (uw h.lj) hg,h.n.gS hb hc (qZ h.ln) hg,h.l.gS hb hc (oS h.ll) hg,h.lj,h.ln,h.ll,h.bj,h.bn,h.bl,h.oj,h.on_,h.ol⟩
theorem StAt.drew {w:World} {B:Nat} {st:ak} {x:StA} (h:StAt w B st x):StAt w.drew B st x:=
 ⟨h.j.drew,h.n.drew,h.l.drew,h.lj,h.ln,h.ll,h.bj,h.bn,h.bl,h.oj,h.on_,h.ol⟩
theorem StAt.rev {w:World} {B:Nat} {st:ak} {x:StA} (h:StAt w B st x) (r:Int):StAt w B ⟨r,st.jobs,st.nodes,st.leases⟩ x:=
 ⟨h.j,h.n,h.l,h.lj,h.ln,h.ll,h.bj,h.bn,h.bl,h.oj,h.on_,h.ol⟩
theorem StAt.upS {w w':World} {st:ak} {x:StA} (h:StAt w w.heap.size st x) (hb:Below w.heap.size w w'):StAt w' w'.heap.size st x:=(h.below hb).more hb.size
theorem mF {w:World} {B:Nat} {st:ak} {x:StA} (h:StAt w B st x) (hc:aG st=0):x.nj≤40∧x.nn≤40∧x.nl≤40:=by
 have h2:=(bC.1 hc).2.1
 unfold dP at h2
 simp only [Bool.and_eq_true,decide_eq_true_eq] at h2
 have:=h.lj; have:=h.ln; have:=h.ll
 omega
structure SrvAt (w:World) (T:TypeId) (B:Nat) (st:ak) (x:StA) (now:Int):Prop where
 blk:Blk w B T (wZ st x now)
 at_:StAt w w.heap.size st x
 ok:aG st=0
 t:0≤now∧now≤1099511627776
theorem SrvAt.below {w w':World} {T:TypeId} {B:Nat} {st:ak} {x:StA} {now:Int} (h:SrvAt w T B st x now) (hb:Below w.heap.size w w'):SrvAt w' T B st x now:=
 ⟨h.blk.below hb h.blk.lt,h.at_.upS hb,h.ok,h.t⟩
theorem SrvAt.other {w w':World} {T T':TypeId} {B B':Nat} {st:ak} {x:StA} {now:Int} {cs:Array Value} (h:SrvAt w T B st x now) (hb:Blk w B' T' cs) (hc:jC cs) (hg:w.grownBy w' (some B')) (hne:B≠B'):SrvAt w' T B st x now:=
 ⟨aE hg h.blk hne,(h.at_.gS hb hc hg).more hg.size,h.ok,h.t⟩
def mM (T:TypeId) (B:Nat) (st:ak) (R:qI) (w:World) (e:Ending) (w':World):Prop:=
 ∃ (D:aM) (dx:eI) (x':StA),e = .returned (.tuple #[.agg #[.int .i64 R.e,.int .i64 R.st.rev],.agg (dC D dx),.bool R.ch])∧D=(if R.ch=true then cM st R.st else ⟨0,0,[],[],[],[],[],[]⟩)∧dH w' w'.heap.size D dx∧Blk w' B T (wZ R.st x' R.now)∧StAt w' w'.heap.size R.st x'∧w.grownBy w' (some B)
end Go.Proofs.YtoeejfhdjmkpcaaGreatDoor
/- The walks of serve.New, (*Server).State and (*Server).Now. -/
namespace Go.Proofs.YtoeejfhdjmkpcaaGreatDoor
open Go.Lib (hid)
open Go.RowKit
def tJ (st:ak) (w:World) (e:Ending) (w':World):Prop:=
 Below w.heap.size w w'∧((aG st≠0∧e = .returned (.tuple #[.pointer none,.int .i64 (aG st)])) ∨
  (aG st=0∧∃ V x',e = .returned (.tuple #[.pointer (some ⟨V,0,none⟩),.int .i64 0])∧w.heap.size≤V∧SrvAt w' 109 V st x' 0))
theorem IL {w:World} {B:Nat} {st:ak} {x:StA} (h:StAt w B st x):mU st.jobs∧lB st.nodes∧jK st.leases:=⟨h.oj,h.on_,h.ol⟩
theorem zN (st:ak) (x:StA) (w:World) (hS:StAt w w.heap.size st x) (hT:Tabs w) :
 Calls Tryz.prog 12 #[.agg (stC st x)] w (tJ st w):=by
 obtain⟨W,hW⟩:∃ W,w.alloc (.cells (stC st x) 26)=W:=⟨_,rfl⟩
 have hbW:Below w.heap.size w W:=by rw [← hW]; exact (Below.refl _ _).alloc (Nat.le_refl _) _
 have hB:Blk W w.heap.size 26 (stC st x):=by rw [← hW]; exact heap_alloc_new w _
 have hS1:=hS.upS hbW
 have HC:=hid (show Calls Tryz.prog 37 #[.agg #[.int .i64 st.rev,.slice x.aj x.nj x.cj,.slice x.an x.nn x.cn,.slice x.al x.nl x.cl]] W _ from jY st x W hS1 (hT.below hbW))
 obtain⟨c0,c1,c2,c3⟩:=Blk.c4 (hB)
 have hlt:=hB.lt
 have HB:=hid hB
 have HbW:=hid hbW
 have HS:=hid hS1
 have HW:=hid hW
 obtain⟨E,hE⟩:∃ E,aG st=E:=⟨_,rfl⟩
 have HE:=hid hE
 clear hW hB hbW hS hS1 hT hE
 unfold stC at HW ⊢
 go_enter Tryz.func12,Tryz.ntmps12
 go_wp2_with fail
 try rw [HW.out]
 clear HW
 refine Calls.mono HC.out ?_
 rintro e w1 ⟨rfl,hb1⟩
 rw [HE.out]
 have HB1:=hid (HB.out.below hb1 HB.out.lt)
 have Hb1:=hid (HbW.out.trans (hb1.mono HbW.out.size))
 have HS1:=hid (HS.out.upS hb1)
 clear hb1 HC HB HbW HS c0 c1 c2 c3 hlt
 by_cases h0:E=0
 · have HE0:=hid (HE.out.trans h0)
   subst h0
   have hsz:=mF HS1.out HE0.out
   have HO:=hid (show Calls Tryz.prog 43 #[.agg #[.int .i64 st.rev,.slice x.aj x.nj x.cj,.slice x.an x.nn x.cn,.slice x.al x.nl x.cl]] w1 _ from mG st x w1 HS1.out (by omega) (by omega) (by omega))
   have Hsz:=hid hsz
   clear hsz HE
   obtain⟨c0,c1,c2,c3⟩:=Blk.c4 (HB1.out)
   have hlt:=HB1.out.lt
   go_wp2_with fail
   refine Calls.mono HO.out ?_
   rintro e w2 ⟨y,rfl,e1,e2,e3,ho,hb2⟩
   obtain⟨oj,on_,ol⟩:=IL HS1.out
   have hA2:=ho.at2 (by have:=Hsz.out; omega) (by have:=Hsz.out; omega) (by have:=Hsz.out; omega) oj on_ ol
   have Hb2:=hid (Hb1.out.trans (hb2.mono Hb1.out.size))
   have HA2:=hid hA2
   have hb3:Below w2.heap.size w2 (w2.alloc (.cells (wZ st y 0) 109)):=(Below.refl _ _).alloc (Nat.le_refl _) _
   have bO:=hid (show tJ st w (.returned (.tuple #[.pointer (some ⟨w2.heap.size,0,none⟩),.int .i64 0])) (w2.alloc (.cells #[.int .i64 st.rev,.slice y.aj y.nj y.cj,.slice y.an y.nn y.cn,.slice y.al y.nl y.cl,.int .i64 0] 109)) from ⟨Hb2.out.trans (hb3.mono Hb2.out.size),.inr ⟨HE0.out,w2.heap.size,y,rfl,Hb2.out.size,heap_alloc_new w2 _,hA2.upS hb3,HE0.out,by omega⟩⟩)
   clear hA2 ho hb2 hb3 HO c0 c1 c2 c3 hlt oj on_ ol e1 e2 e3 Hsz
   unfold stC
   go_wp2
   go_ret2
   exact bO.out
 · have d1:(E != 0)=true:=by simpa using h0
   have bO:=hid (show tJ st w (.returned (.tuple #[.pointer none,.int .i64 E])) w1 from ⟨Hb1.out,.inl ⟨by rw [HE.out]; exact h0,by rw [HE.out]⟩⟩)
   go_wp2
   go_ret2
   exact bO.out
def qC (st:ak) (w:World) (e:Ending) (w':World):Prop:=∃ y,e = .returned (.agg (stC st y))∧StAt w' w'.heap.size st y∧Below w.heap.size w w'
theorem pM (st:ak) (x:StA) (now:Int) (V:Nat) (w:World) (h:SrvAt w 109 V st x now) :
 Calls Tryz.prog 14 #[.pointer (some ⟨V,0,none⟩)] w (qC st w):=by
 obtain⟨W,hW⟩:∃ W,w.alloc (.cells rB 26)=W:=⟨_,rfl⟩
 have hbW:Below w.heap.size w W:=by rw [← hW]; exact (Below.refl _ _).alloc (Nat.le_refl _) _
 have hR:Blk W w.heap.size 26 rB:=by rw [← hW]; exact heap_alloc_new w _
 have h1:=h.below hbW
 have hsz:=mF h1.at_ h1.ok
 have HO:=hid (show Calls Tryz.prog 43 #[.agg #[.int .i64 st.rev,.slice x.aj x.nj x.cj,.slice x.an x.nn x.cn,.slice x.al x.nl x.cl]] W _ from mG st x W h1.at_ (by omega) (by omega) (by omega))
 obtain⟨c0,c1,c2,c3⟩:=Blk.c4 (h.blk)
 have hlt:=h1.blk.lt
 have hlV:=h.blk.lt
 have HR:=hid hR
 have HbW:=hid hbW
 have H1:=hid h1
 have HW:=hid hW
 have Hsz:=hid hsz
 clear hW hR hbW h h1 hsz
 go_enter Tryz.func14,Tryz.ntmps14
 go_wp2_with fail
 try rw [HW.out]
 clear HW
 refine Calls.mono HO.out ?_
 rintro e w2 ⟨y,rfl,e1,e2,e3,ho,hb2⟩
 obtain⟨oj,on_,ol⟩:=IL H1.out.at_
 have hA2:=ho.at2 (by have:=Hsz.out; omega) (by have:=Hsz.out; omega) (by have:=Hsz.out; omega) oj on_ ol
 have hR2:=HR.out.below hb2 HR.out.lt
 have hB2:=HbW.out.trans (hb2.mono HbW.out.size)
 obtain⟨z0,z1,z2,z3⟩:=Blk.z4 (hR2)
 obtain⟨r0,r1,r2,r3⟩:=Blk.c4 (hR2)
 obtain⟨hR3,hG3⟩:=Blk.S4 (hR2) (.int .i64 st.rev) (.slice y.aj y.nj y.cj) (.slice y.an y.nn y.cn) (.slice y.al y.nl y.cl)
 obtain⟨y0,y1,y2,y3⟩:=Blk.c4 hR3
 have hlr:=hR2.lt
 have bO:=hid (show qC st w (.returned (.agg (stC st y))) _ from ⟨y,rfl,(hA2.gS hR2 (nM ⟨0,[],[],[]⟩ ⟨none,0,0,none,0,0,none,0,0⟩) hG3).more hG3.size,aI hB2 hG3 (Nat.le_refl _)⟩)
 clear hA2 ho hb2 hR2 hB2 hR3 hG3 HO c0 c1 c2 c3 hlt e1 e2 e3 oj on_ ol Hsz HR HbW H1
 unfold stC
 go_wp2
 refine bodyPost_ret (v:=.agg (stC st y)) (by simp [results,Tryz.results14,go_sem,stC, *]) rfl ?_
 exact bO.out
end Go.Proofs.YtoeejfhdjmkpcaaGreatDoor
/- What changed leaves: plain. -/
namespace Go.Proofs.YtoeejfhdjmkpcaaGreatDoor
open Go.Lib (hid)
open Go.Sort
theorem oL {α:Type} (p:α→Bool):∀ l:List α,(l.find? p).isSome=l.any p
 | []=>rfl
 | a :: l=>by
  rw [List.find?_cons,List.any_cons]
  cases p a
  · exact oL p l
  · rfl
section
variable {α:Type} (key:α→ByteArray)
def cfK (x y:α):Int:=kD (key x) (key y)
theorem tK (x y:α):ltOf (cfK key) x y=dz (key x) (key y):=by
 unfold ltOf cfK
 cases h:dz (key x) (key y)
 · exact decide_eq_false (fun h'=>by rw [oQ,h] at h'; cases h')
 · exact decide_eq_true (oQ.2 h)
theorem LE:SWO (ltOf (cfK key)) where
 irrefl x:=by rw [tK,dJ]
 trans x y z h1 h2:=by rw [tK] at *; exact iy h1 h2
 ntrans x y z h1 h2:=by
  rw [tK] at *
  cases h:dz (key x) (key z)
  · rfl
  · by_cases e:key x=key y
    · rw [← e,h] at h2; exact h2
    · rw [iy (iM h1 e) h] at h2; exact h2
variable {key}
theorem iL [Inhabited α] {rows set xs:List α} {gone:List ByteArray} {d':Array α} (hr:aK key rows) (hs:aK key set)
 (hnd:xs.Pairwise fun a b=>key a≠key b) (hm:∀ z,z ∈ xs↔eA key rows gone set (key z)=some z)
 (hp:PermIn 0 xs.toArray.size xs.toArray d') (ho:SortedIn (ltOf (cfK key)) 0 xs.toArray.size d'):d'.toList=bV key rows set gone:=by
 have hsz:d'.size=xs.length:=by simpa using hp.1
 have hperm:d'.toList.Perm xs:=by
  have h:=hp.2.2
  have e1:d'.extract 0 xs.toArray.size=d':=by rw [Array.extract_eq_self_of_le (by simp [hsz])]
  have e2:xs.toArray.extract 0 xs.toArray.size=xs.toArray:=Array.extract_eq_self_of_le (Nat.le_refl _)
  rw [e1,e2] at h
  simpa using h
 refine zq hr hs ?_ (fun z=>by rw [hperm.mem_iff,hm])
 have hnd':d'.toList.Pairwise fun a b=>key a≠key b:=(hperm.pairwise_iff (fun {a b} h=>Ne.symm h)).2 hnd
 refine List.pairwise_iff_getElem.2 fun i j hi hj hij=>?_
 have hi':i<d'.size:=by simpa using hi
 have hj':j<d'.size:=by simpa using hj
 have h1:=ho i j (Nat.zero_le _) hij (by simpa [hsz] using hj')
 have h2:=List.pairwise_iff_getElem.1 hnd' i j hi hj hij
 rw [tK,getElem!_pos d' j hj',getElem!_pos d' i hi'] at h1
 simp only [Array.getElem_toList] at h2 ⊢
 exact iM h1 (fun e=>h2 e.symm)
theorem xB {rows:List α} (hp:rows.Pairwise fun a b=>key a≠key b) {k:Nat} {x:α} (h:rows[k]? = some x) (s:ByteArray) :
 eA key (rows.take (k+1)) [] [] s=if s=key x then some x else eA key (rows.take k) [] [] s:=by
 unfold eA
 simp only [List.find?_nil,List.any_nil,Bool.false_eq_true,if_false]
 exact qD key hp h s
theorem uA {rows:List α} {gone:List ByteArray} {k:Nat} {q:ByteArray} (h:gone[k]? = some q) (s:ByteArray) :
 eA key rows (gone.take (k+1)) [] s=if s=q then none else eA key rows (gone.take k) [] s:=by
 have e:gone.take (k+1)=gone.take k ++ [q]:=by
  obtain⟨hlt,rfl⟩:=List.getElem?_eq_some_iff.1 h
  exact (List.take_append_getElem hlt).symm
 unfold eA
 rw [e]
 simp only [List.find?_nil,List.any_append,List.any_cons,List.any_nil,Bool.or_false]
 by_cases hs:s=q
 · subst hs; simp
 · rw [if_neg hs,decide_eq_false (fun e=>hs e.symm),Bool.or_false]
theorem xC {rows set:List α} {gone:List ByteArray} (hp:set.Pairwise fun a b=>key a≠key b) {k:Nat} {x:α} (h:set[k]? = some x) (s:ByteArray) :
 eA key rows gone (set.take (k+1)) s=if s=key x then some x else eA key rows gone (set.take k) s:=by
 unfold eA
 rw [qD key hp h s]
 by_cases hs:s=key x
 · rw [if_pos hs,if_pos hs]
 · rw [if_neg hs,if_neg hs]
theorem Af {rows:List α} {gone:List ByteArray} (hg:gone.Pairwise fun a b=>a≠b) {k:Nat} {q:ByteArray} (h:gone[k]? = some q) :
 (eA key rows (gone.take k) [] q).isSome=rows.any fun r=>decide (key r=q):=by
 have hn:((gone.take k).any fun a=>decide (a=q))=false:=by
  rw [List.any_eq_false]
  intro a ha hd
  have e:a=q:=by simpa using hd
  obtain⟨hlt,rfl⟩:=List.getElem?_eq_some_iff.1 h
  obtain⟨i,hi,rfl⟩:=List.mem_iff_getElem.1 ha
  rw [List.length_take] at hi
  rw [List.getElem_take] at e
  exact List.pairwise_iff_getElem.1 hg i k (by omega) hlt (by omega) e
 unfold eA
 rw [hn]
 simp only [List.find?_nil,Bool.false_eq_true,if_false]
 exact oL _ rows
theorem nW {rows:List α} {gone:List ByteArray} {k:Nat} {q:ByteArray} (h:gone[k]? = some q) (h0:aY key rows (gone.take k)=false) (h1:(rows.any fun r=>decide (key r=q))=true) :
 aY key rows (gone.take (k+1))=false:=by
 have e:gone.take (k+1)=gone.take k ++ [q]:=by
  obtain⟨hlt,rfl⟩:=List.getElem?_eq_some_iff.1 h
  exact (List.take_append_getElem hlt).symm
 unfold aY at h0 ⊢
 rw [e,List.any_append,h0]
 simp [h1]
theorem oU {rows:List α} {gone:List ByteArray} {k:Nat} {q:ByteArray} (h:gone[k]? = some q) (h1:(rows.any fun r=>decide (key r=q))=false):aY key rows gone=true:=by
 unfold aY
 exact List.any_eq_true.2 ⟨q,List.mem_of_getElem? h,by simp [h1]⟩
theorem oV {rows:List α} {gone:List ByteArray} {k:Nat} (h0:aY key rows (gone.take k)=false) (hk:gone.length≤k):aY key rows gone=false:=by rwa [List.take_of_length_le hk] at h0
end
def ku {α:Type} (key:α→ByteArray) (g:ByteArray→Option α) (xs:List α):Prop:=(xs.Pairwise fun a b=>key a≠key b)∧∀ z,z ∈ xs↔g (key z)=some z
end Go.Proofs.YtoeejfhdjmkpcaaGreatDoor
/- Contracts of the library laid at this program, in plain words (written by the kit's lay-plain.mjs). -/
namespace Go.Proofs
open Go.Shelf
def xX:Go.Shelf.Ren:=⟨fun | 6=>265 | 15=>355 | 14=>354 | 28=>391 | 29=>392 | 20=>383 | 21=>384 | 22=>385 | 23=>386 | 24=>387 | 25=>388 | 26=>389 | 27=>390 | 46=>424 | 47=>425 | 48=>426 | 49=>427 | 50=>428 | 57=>443 | n=>n,fun | 22=>22 | 24=>34 | 25=>267 | 3=>3 | 39=>243 | 0=>0 | 53=>209 | 55=>121 | 4=>4 | 46=>440 | 45=>439 | 50=>341 | 5=>5 | 9=>9 | 66=>469 | 70=>289 | 76=>486 | 77=>487 | n=>n,fun | n=>n⟩
theorem xw:Go.Proofs.SlLaysF0.n6 Tryz.prog xX:={
 mixed:=by kernel_rfl
 f6:=⟨Tryz.f265.name,by decide,Tryz.func265.trans (congrArg some (by kernel_rfl))⟩
 f14:=⟨Tryz.f354.name,by decide,Tryz.func354.trans (congrArg some (by kernel_rfl))⟩
 f15:=Tryz.func355.trans (congrArg some (by kernel_rfl))
 f20:=⟨Tryz.f383.name,by decide,Tryz.func383.trans (congrArg some (by kernel_rfl))⟩
 f21:=⟨Tryz.f384.name,by decide,Tryz.func384.trans (congrArg some (by kernel_rfl))⟩
 f22:=⟨Tryz.f385.name,by decide,Tryz.func385.trans (congrArg some (by kernel_rfl))⟩
 f23:=⟨Tryz.f386.name,by decide,Tryz.func386.trans (congrArg some (by kernel_rfl))⟩
 f24:=⟨Tryz.f387.name,by decide,Tryz.func387.trans (congrArg some (by kernel_rfl))⟩
 f25:=⟨Tryz.f388.name,by decide,Tryz.func388.trans (congrArg some (by kernel_rfl))⟩
 f26:=⟨Tryz.f389.name,by decide,Tryz.func389.trans (congrArg some (by kernel_rfl))⟩
 f27:=⟨Tryz.f390.name,by decide,Tryz.func390.trans (congrArg some (by kernel_rfl))⟩
 f28:=Tryz.func391.trans (congrArg some (by kernel_rfl))
 f29:=Tryz.func392.trans (congrArg some (by kernel_rfl))
 f46:=⟨Tryz.f424.name,by decide,Tryz.func424.trans (congrArg some (by kernel_rfl))⟩
 f47:=Tryz.func425.trans (congrArg some (by kernel_rfl))
 f48:=Tryz.func426.trans (congrArg some (by kernel_rfl))
 f49:=⟨Tryz.f427.name,by decide,Tryz.func427.trans (congrArg some (by kernel_rfl))⟩
 f50:=⟨Tryz.f428.name,by decide,Tryz.func428.trans (congrArg some (by kernel_rfl))⟩
 f57:=⟨Tryz.f443.name,by decide,Tryz.func443.trans (congrArg some (by kernel_rfl))⟩
 t0:=Tryz.underlying0
 a0:=Tryz.isAgg0
 z0:=Tryz.sizeOf0
 v0:=Tryz.zeroValue0
 t3:=Tryz.underlying3
 a3:=Tryz.isAgg3
 z3:=Tryz.sizeOf3
 v3:=Tryz.zeroValue3
 t4:=Tryz.underlying4
 a4:=Tryz.isAgg4
 z4:=Tryz.sizeOf4
 v4:=Tryz.zeroValue4
 t5:=Tryz.underlying5
 a5:=Tryz.isAgg5
 z5:=Tryz.sizeOf5
 v5:=Tryz.zeroValue5
 t9:=Tryz.underlying9
 a9:=Tryz.isAgg9
 z9:=Tryz.sizeOf9
 v9:=Tryz.zeroValue9
 t22:=Tryz.underlying22
 a22:=Tryz.isAgg22
 z22:=Tryz.sizeOf22
 v22:=Tryz.zeroValue22
 t25:=Tryz.underlying267
 a25:=Tryz.isAgg267
 z25:=Tryz.sizeOf267
 v25:=Tryz.zeroValue267
 t39:=Tryz.underlying243
 a39:=Tryz.isAgg243
 z39:=Tryz.sizeOf243
 v39:=Tryz.zeroValue243
 t45:=Tryz.underlying439
 a45:=Tryz.isAgg439
 z45:=Tryz.sizeOf439
 v45:=Tryz.zeroValue439
 t46:=Tryz.underlying440
 a46:=Tryz.isAgg440
 z46:=Tryz.sizeOf440
 v46:=Tryz.zeroValue440
 t50:=Tryz.underlying341
 a50:=Tryz.isAgg341
 z50:=Tryz.sizeOf341
 v50:=Tryz.zeroValue341
 t53:=Tryz.underlying209
 a53:=Tryz.isAgg209
 z53:=Tryz.sizeOf209
 v53:=Tryz.zeroValue209
 t55:=Tryz.underlying121
 a55:=Tryz.isAgg121
 z55:=Tryz.sizeOf121
 v55:=Tryz.zeroValue121
 t66:=Tryz.underlying469
 a66:=Tryz.isAgg469
 z66:=Tryz.sizeOf469
 v66:=Tryz.zeroValue469
 t70:=Tryz.underlying289
 a70:=Tryz.isAgg289
 z70:=Tryz.sizeOf289
 v70:=Tryz.zeroValue289
 t76:=Tryz.underlying486
 a76:=Tryz.isAgg486
 z76:=Tryz.sizeOf486
 v76:=Tryz.zeroValue486
 t77:=Tryz.underlying487
 a77:=Tryz.isAgg487
 z77:=Tryz.sizeOf487
 v77:=Tryz.zeroValue487 }
def wG:Go.Shelf.Ren:=⟨fun | 6=>269 | 15=>355 | 14=>357 | 28=>391 | 29=>392 | 20=>393 | 21=>394 | 22=>395 | 23=>396 | 24=>397 | 25=>398 | 26=>399 | 27=>400 | 46=>429 | 47=>425 | 48=>426 | 49=>430 | 50=>431 | 57=>444 | n=>n,fun | 22=>23 | 24=>36 | 25=>274 | 3=>3 | 39=>243 | 0=>0 | 53=>209 | 55=>121 | 4=>4 | 46=>440 | 45=>439 | 50=>341 | 5=>5 | 9=>9 | 66=>469 | 70=>289 | 76=>486 | 77=>487 | n=>n,fun | n=>n⟩
theorem vH:Go.Proofs.SlLaysF0.n6 Tryz.prog wG:={
 mixed:=by kernel_rfl
 f6:=⟨Tryz.f269.name,by decide,Tryz.func269.trans (congrArg some (by kernel_rfl))⟩
 f14:=⟨Tryz.f357.name,by decide,Tryz.func357.trans (congrArg some (by kernel_rfl))⟩
 f15:=Tryz.func355.trans (congrArg some (by kernel_rfl))
 f20:=⟨Tryz.f393.name,by decide,Tryz.func393.trans (congrArg some (by kernel_rfl))⟩
 f21:=⟨Tryz.f394.name,by decide,Tryz.func394.trans (congrArg some (by kernel_rfl))⟩
 f22:=⟨Tryz.f395.name,by decide,Tryz.func395.trans (congrArg some (by kernel_rfl))⟩
 f23:=⟨Tryz.f396.name,by decide,Tryz.func396.trans (congrArg some (by kernel_rfl))⟩
 f24:=⟨Tryz.f397.name,by decide,Tryz.func397.trans (congrArg some (by kernel_rfl))⟩
 f25:=⟨Tryz.f398.name,by decide,Tryz.func398.trans (congrArg some (by kernel_rfl))⟩
 f26:=⟨Tryz.f399.name,by decide,Tryz.func399.trans (congrArg some (by kernel_rfl))⟩
 f27:=⟨Tryz.f400.name,by decide,Tryz.func400.trans (congrArg some (by kernel_rfl))⟩
 f28:=Tryz.func391.trans (congrArg some (by kernel_rfl))
 f29:=Tryz.func392.trans (congrArg some (by kernel_rfl))
 f46:=⟨Tryz.f429.name,by decide,Tryz.func429.trans (congrArg some (by kernel_rfl))⟩
 f47:=Tryz.func425.trans (congrArg some (by kernel_rfl))
 f48:=Tryz.func426.trans (congrArg some (by kernel_rfl))
 f49:=⟨Tryz.f430.name,by decide,Tryz.func430.trans (congrArg some (by kernel_rfl))⟩
 f50:=⟨Tryz.f431.name,by decide,Tryz.func431.trans (congrArg some (by kernel_rfl))⟩
 f57:=⟨Tryz.f444.name,by decide,Tryz.func444.trans (congrArg some (by kernel_rfl))⟩
 t0:=Tryz.underlying0
 a0:=Tryz.isAgg0
 z0:=Tryz.sizeOf0
 v0:=Tryz.zeroValue0
 t3:=Tryz.underlying3
 a3:=Tryz.isAgg3
 z3:=Tryz.sizeOf3
 v3:=Tryz.zeroValue3
 t4:=Tryz.underlying4
 a4:=Tryz.isAgg4
 z4:=Tryz.sizeOf4
 v4:=Tryz.zeroValue4
 t5:=Tryz.underlying5
 a5:=Tryz.isAgg5
 z5:=Tryz.sizeOf5
 v5:=Tryz.zeroValue5
 t9:=Tryz.underlying9
 a9:=Tryz.isAgg9
 z9:=Tryz.sizeOf9
 v9:=Tryz.zeroValue9
 t22:=Tryz.underlying23
 a22:=Tryz.isAgg23
 z22:=Tryz.sizeOf23
 v22:=Tryz.zeroValue23
 t25:=Tryz.underlying274
 a25:=Tryz.isAgg274
 z25:=Tryz.sizeOf274
 v25:=Tryz.zeroValue274
 t39:=Tryz.underlying243
 a39:=Tryz.isAgg243
 z39:=Tryz.sizeOf243
 v39:=Tryz.zeroValue243
 t45:=Tryz.underlying439
 a45:=Tryz.isAgg439
 z45:=Tryz.sizeOf439
 v45:=Tryz.zeroValue439
 t46:=Tryz.underlying440
 a46:=Tryz.isAgg440
 z46:=Tryz.sizeOf440
 v46:=Tryz.zeroValue440
 t50:=Tryz.underlying341
 a50:=Tryz.isAgg341
 z50:=Tryz.sizeOf341
 v50:=Tryz.zeroValue341
 t53:=Tryz.underlying209
 a53:=Tryz.isAgg209
 z53:=Tryz.sizeOf209
 v53:=Tryz.zeroValue209
 t55:=Tryz.underlying121
 a55:=Tryz.isAgg121
 z55:=Tryz.sizeOf121
 v55:=Tryz.zeroValue121
 t66:=Tryz.underlying469
 a66:=Tryz.isAgg469
 z66:=Tryz.sizeOf469
 v66:=Tryz.zeroValue469
 t70:=Tryz.underlying289
 a70:=Tryz.isAgg289
 z70:=Tryz.sizeOf289
 v70:=Tryz.zeroValue289
 t76:=Tryz.underlying486
 a76:=Tryz.isAgg486
 z76:=Tryz.sizeOf486
 v76:=Tryz.zeroValue486
 t77:=Tryz.underlying487
 a77:=Tryz.isAgg487
 z77:=Tryz.sizeOf487
 v77:=Tryz.zeroValue487 }
def uX:Go.Shelf.Ren:=⟨fun | 6=>272 | 15=>355 | 14=>359 | 28=>391 | 29=>392 | 20=>401 | 21=>402 | 22=>403 | 23=>404 | 24=>405 | 25=>406 | 26=>407 | 27=>408 | 46=>432 | 47=>425 | 48=>426 | 49=>433 | 50=>434 | 57=>445 | n=>n,fun | 22=>24 | 24=>38 | 25=>280 | 3=>3 | 39=>243 | 0=>0 | 53=>209 | 55=>121 | 4=>4 | 46=>440 | 45=>439 | 50=>341 | 5=>5 | 9=>9 | 66=>469 | 70=>289 | 76=>486 | 77=>487 | n=>n,fun | n=>n⟩
theorem sH:Go.Proofs.SlLaysF0.n6 Tryz.prog uX:={
 mixed:=by kernel_rfl
 f6:=⟨Tryz.f272.name,by decide,Tryz.func272.trans (congrArg some (by kernel_rfl))⟩
 f14:=⟨Tryz.f359.name,by decide,Tryz.func359.trans (congrArg some (by kernel_rfl))⟩
 f15:=Tryz.func355.trans (congrArg some (by kernel_rfl))
 f20:=⟨Tryz.f401.name,by decide,Tryz.func401.trans (congrArg some (by kernel_rfl))⟩
 f21:=⟨Tryz.f402.name,by decide,Tryz.func402.trans (congrArg some (by kernel_rfl))⟩
 f22:=⟨Tryz.f403.name,by decide,Tryz.func403.trans (congrArg some (by kernel_rfl))⟩
 f23:=⟨Tryz.f404.name,by decide,Tryz.func404.trans (congrArg some (by kernel_rfl))⟩
 f24:=⟨Tryz.f405.name,by decide,Tryz.func405.trans (congrArg some (by kernel_rfl))⟩
 f25:=⟨Tryz.f406.name,by decide,Tryz.func406.trans (congrArg some (by kernel_rfl))⟩
 f26:=⟨Tryz.f407.name,by decide,Tryz.func407.trans (congrArg some (by kernel_rfl))⟩
 f27:=⟨Tryz.f408.name,by decide,Tryz.func408.trans (congrArg some (by kernel_rfl))⟩
 f28:=Tryz.func391.trans (congrArg some (by kernel_rfl))
 f29:=Tryz.func392.trans (congrArg some (by kernel_rfl))
 f46:=⟨Tryz.f432.name,by decide,Tryz.func432.trans (congrArg some (by kernel_rfl))⟩
 f47:=Tryz.func425.trans (congrArg some (by kernel_rfl))
 f48:=Tryz.func426.trans (congrArg some (by kernel_rfl))
 f49:=⟨Tryz.f433.name,by decide,Tryz.func433.trans (congrArg some (by kernel_rfl))⟩
 f50:=⟨Tryz.f434.name,by decide,Tryz.func434.trans (congrArg some (by kernel_rfl))⟩
 f57:=⟨Tryz.f445.name,by decide,Tryz.func445.trans (congrArg some (by kernel_rfl))⟩
 t0:=Tryz.underlying0
 a0:=Tryz.isAgg0
 z0:=Tryz.sizeOf0
 v0:=Tryz.zeroValue0
 t3:=Tryz.underlying3
 a3:=Tryz.isAgg3
 z3:=Tryz.sizeOf3
 v3:=Tryz.zeroValue3
 t4:=Tryz.underlying4
 a4:=Tryz.isAgg4
 z4:=Tryz.sizeOf4
 v4:=Tryz.zeroValue4
 t5:=Tryz.underlying5
 a5:=Tryz.isAgg5
 z5:=Tryz.sizeOf5
 v5:=Tryz.zeroValue5
 t9:=Tryz.underlying9
 a9:=Tryz.isAgg9
 z9:=Tryz.sizeOf9
 v9:=Tryz.zeroValue9
 t22:=Tryz.underlying24
 a22:=Tryz.isAgg24
 z22:=Tryz.sizeOf24
 v22:=Tryz.zeroValue24
 t25:=Tryz.underlying280
 a25:=Tryz.isAgg280
 z25:=Tryz.sizeOf280
 v25:=Tryz.zeroValue280
 t39:=Tryz.underlying243
 a39:=Tryz.isAgg243
 z39:=Tryz.sizeOf243
 v39:=Tryz.zeroValue243
 t45:=Tryz.underlying439
 a45:=Tryz.isAgg439
 z45:=Tryz.sizeOf439
 v45:=Tryz.zeroValue439
 t46:=Tryz.underlying440
 a46:=Tryz.isAgg440
 z46:=Tryz.sizeOf440
 v46:=Tryz.zeroValue440
 t50:=Tryz.underlying341
 a50:=Tryz.isAgg341
 z50:=Tryz.sizeOf341
 v50:=Tryz.zeroValue341
 t53:=Tryz.underlying209
 a53:=Tryz.isAgg209
 z53:=Tryz.sizeOf209
 v53:=Tryz.zeroValue209
 t55:=Tryz.underlying121
 a55:=Tryz.isAgg121
 z55:=Tryz.sizeOf121
 v55:=Tryz.zeroValue121
 t66:=Tryz.underlying469
 a66:=Tryz.isAgg469
 z66:=Tryz.sizeOf469
 v66:=Tryz.zeroValue469
 t70:=Tryz.underlying289
 a70:=Tryz.isAgg289
 z70:=Tryz.sizeOf289
 v70:=Tryz.zeroValue289
 t76:=Tryz.underlying486
 a76:=Tryz.isAgg486
 z76:=Tryz.sizeOf486
 v76:=Tryz.zeroValue486
 t77:=Tryz.underlying487
 a77:=Tryz.isAgg487
 z77:=Tryz.sizeOf487
 v77:=Tryz.zeroValue487 }
end Go.Proofs
