/- Of the proof of a statement: TabM, Lease, RowsL. -/
import Derived.Maps.OwnSet
import Derived.StringKeys
import Derived.Deep.QuietTactic
import Derived.BigQuiet
import Derived.Lib.QuietBelow
import Derived.Test.YtbllgmociapjeaaGreatDoorVRTab
set_option linter.unusedVariables false
set_option linter.unusedSimpArgs false
set_option maxRecDepth 100000
set_option maxHeartbeats 8000000
/- Maps keyed by texts that the call itself has made: what they hold, as a function. -/
namespace Go.Proofs.YtbllgmociapjeaaGreatDoor
open Go.Lib (hid)
open Go.RowKit Go.Maps
def Gz:Value→Option (DataW Value × List MemPlace):=fun v=>some (.held v,[])
def dJ (w:World) (b n:Nat) (g:ByteArray→Option Value):Prop:=
 ∃ D:DataW Value,w.ownsMap Tryz.prog 9 Gz b n D∧∀ (s:ByteArray) (z:DataW Value),D.atKey (.string s.data.toList) z=match g s with
  | none=>z
  | some v=>.held v
theorem K1:Keyed Tryz.prog 9:=string_keyed Tryz.underlying9
section
variable {w w':World} {b n:Nat} {g:ByteArray→Option Value}
theorem dJ.made (w:World):dJ (w.alloc (.map #[] 0)) w.heap.size 0 (fun _=>none):=⟨.map [],World.ownsMap_made w _ _ _,fun _ _=>rfl⟩
theorem dJ.lt (h:dJ w b n g):b<w.heap.size:=h.choose_spec.1.lt
theorem dJ.same (h:dJ w b n g) (e:w'.heap[b]? = w.heap[b]?):dJ w' b n g:=by
 obtain⟨D,⟨es,clock,hb,r⟩,hD⟩:=h
 exact⟨D,⟨es,clock,e.trans hb,r⟩,hD⟩
theorem dJ.below {B:Nat} (h:dJ w b n g) (hb:Below B w w') (hB:b<B):dJ w' b n g:=h.same (hb.block b hB)
theorem dJ.but {c:Nat} (h:dJ w b n g) (hg:w.grownBy w' (some c)) (hne:b≠c):dJ w' b n g:=h.same (hg.block b h.lt (by simp [hne]))
theorem dJ.congr {g':ByteArray→Option Value} (h:dJ w b n g) (e:∀ s,g s=g' s):dJ w b n g':=by
 obtain⟨D,ho,hD⟩:=h
 exact⟨D,ho,fun s z=>by rw [hD,e]⟩
theorem dJ.mono {m:Nat} (h:dJ w b n g) (hm:n≤m):dJ w b m g:=by
 obtain⟨D,ho,hD⟩:=h
 exact⟨D,ho.mono hm,hD⟩
theorem data_inj {s t:ByteArray} (h:(Lit.string s.data.toList) = .string t.data.toList):s=t:=by
 injection h with h
 exact ByteArray.ext (Array.toList_inj.1 h)
theorem dJ.put {t e:TypeId} (h:dJ w b n g) (ht : Tryz.prog.underlying t=some (.map 9 e)) (hn:n<maxLen) (s:ByteArray) (hs:s.size≤maxLen) (v:Value) :
 ∃ w',(Instr.mapUpdate t (.map (some b)) (.string s) v).run Tryz.prog w = .ok () w'∧dJ w' b (n+1) (fun x=>if x=s then some v else g x)∧w.grownBy w' (some b):=by
 obtain⟨D,ho,hD⟩:=h
 obtain⟨w',hr,ho',hg⟩:=ho.update K1 ht hn (Go.WideMaps.keyOf_string_mk Tryz.underlying9 hs) (val:=v) (d:=.held v) (ps:=[]) rfl
 refine⟨w',hr,⟨_,ho',fun x z=>?_⟩,hg⟩
 by_cases hx:x=s
 · subst hx
   rw [atKey_put_same ho.isMap (by simp [WideAt.IsKeyLit])]
   simp
 · rw [atKey_put_other (fun e=>hx (data_inj e)),hD x z]
   simp [hx]
theorem dJ.look {t e:TypeId} (h:dJ w b n g) (ht : Tryz.prog.underlying t=some (.map 9 e)) {z:Value} (hz:(zeroValue e).run Tryz.prog w = .ok z w) (s:ByteArray) (hs:s.size≤maxLen) :
 (Instr.lookup t (.map (some b)) (.string s) false).run Tryz.prog w = .ok ((g s).getD z) w:=by
 obtain⟨D,ho,hD⟩:=h
 obtain⟨v,ps,hr,hv⟩:=ho.lookup K1 ht hz (zd:=.held z) (zp:=[]) rfl (Go.WideMaps.keyOf_string_mk Tryz.underlying9 hs)
 rw [hD] at hv
 have hv1:(DataW.held v:DataW Value)=match g s with | none=>.held z | some v=>.held v:=by
  have:=congrArg (fun o=>o.map Prod.fst) hv
  simpa [Gz] using this
 have e:v=(g s).getD z:=by
  cases hg:g s with
  | none=>rw [hg] at hv1; injection hv1
  | some u=>rw [hg] at hv1; injection hv1
 rw [hr,e]
theorem dJ.look_ok {t e:TypeId} (h:dJ w b n g) (ht : Tryz.prog.underlying t=some (.map 9 e)) {z:Value} (hz:(zeroValue e).run Tryz.prog w = .ok z w) (s:ByteArray) (hs:s.size≤maxLen) :
 (Instr.lookup t (.map (some b)) (.string s) true).run Tryz.prog w = .ok (.tuple #[(g s).getD z,.bool (g s).isSome]) w:=by
 obtain⟨D,ho,hD⟩:=h
 obtain⟨v,ps,hr,hv⟩:=ho.look_ok K1 ht hz (zd:=.held z) (zp:=[]) rfl (Go.WideMaps.keyOf_string_mk Tryz.underlying9 hs)
 rw [hD] at hv
 have hv1:(DataW.held v:DataW Value)=match g s with | none=>.held z | some v=>.held v:=by
  have:=congrArg (fun o=>o.map Prod.fst) hv
  simpa [Gz] using this
 cases hg:g s with
 | none=>
  rw [hg] at hv1
  have e:v=z:=by injection hv1
  have hh:Maps.has D (.string s.data.toList)=false:=Maps.has_false_of_atKey (fun x=>by rw [hD,hg])
  rw [hr,e,hh]; rfl
 | some u=>
  rw [hg] at hv1
  have e:v=u:=by injection hv1
  have hh:Maps.has D (.string s.data.toList)=true:=Maps.has_true_of_atKey (y:=.held u) (fun x=>by rw [hD,hg])
  rw [hr,e,hh]; rfl
end
end Go.Proofs.YtbllgmociapjeaaGreatDoor
/- The walk of lease: one lease against the tables. -/
namespace Go.Proofs.YtbllgmociapjeaaGreatDoor
open Go.Lib (hid)
open Go.RowKit
def oq (l:List aC) (s:ByteArray):Option Value:=(dA l s).map fun j=>.agg (aI j).toArray
def lS (l:List aA) (s:ByteArray):Option Value:=(dh l s).map fun n=>.agg (aB n).toArray
structure gM (w:World) (T b1 b2 b3 n1 n2 n3:Nat) (g1 g2 g3:ByteArray→Option Value):Prop where
 t:Blk w T 237 #[.map (some b1),.map (some b2),.map (some b3)]
 m1:dJ w b1 n1 g1
 m2:dJ w b2 n2 g2
 m3:dJ w b3 n3 g3
theorem Jl (w:World):(zeroValue 32).run Tryz.prog w = .ok (.agg #[.string ⟨#[]⟩,.int .i64 0,.int .i64 0,.int .i64 0,.string ⟨#[]⟩]) w:=by kernel_rfl
theorem GA (w:World):(zeroValue 34).run Tryz.prog w = .ok (.agg #[.string ⟨#[]⟩,.int .i64 0,.string ⟨#[]⟩]) w:=by kernel_rfl
theorem Dg (w:World):(zeroValue 3).run Tryz.prog w = .ok (.int .i64 0) w:=by kernel_rfl
theorem Ek (l:List aC) (s:ByteArray):∃ (j:aC),(oq l s).getD (.agg #[.string ⟨#[]⟩,.int .i64 0,.int .i64 0,.int .i64 0,.string ⟨#[]⟩]) = .agg #[.string j.name,.int .i64 j.prio,.int .i64 j.need,.int .i64 j.tries,.string j.tag]∧(oq l s).isSome=(dA l s).isSome∧(∀ x,dA l s=some x→x=j):=by
 unfold oq
 cases h:dA l s with
 | none=>exact⟨⟨⟨#[]⟩,0,0,0,⟨#[]⟩⟩,rfl,rfl,fun x e=>by cases e⟩
 | some j=>exact⟨j,rfl,rfl,fun x e=>by injection e with e; exact e.symm⟩
theorem Ca (l:List aA) (s:ByteArray):∃ (n:aA),(lS l s).getD (.agg #[.string ⟨#[]⟩,.int .i64 0,.string ⟨#[]⟩]) = .agg #[.string n.name,.int .i64 n.room,.string n.zone]∧(lS l s).isSome=(dh l s).isSome:=by
 unfold lS
 cases h:dh l s with
 | none=>exact⟨⟨⟨#[]⟩,0,⟨#[]⟩⟩,rfl,rfl⟩
 | some n=>exact⟨n,rfl,rfl⟩
def nB (g:ByteArray→Option Value) (U:ByteArray→Int):Prop:=∀ s,(g s).getD (.int .i64 0) = .int .i64 (U s)
def pC (st:ah) (l:ak) (b3 n3:Nat) (U:ByteArray→Int) (w:World) (e:Ending) (w':World):Prop:=
 e = .returned (.int .i64 (fC st l))∧w.grownBy w' (some b3)∧(fC st l=0→∃ g,dJ w' b3 (n3+1) g∧nB g (fun s=>U s+gu st l s))
theorem pC.six {st:ah} {l:ak} {b3 n3:Nat} {U:ByteArray→Int} {w w':World} (h:fC st l=6) (hb:Below w.heap.size w w'):pC st l b3 n3 U w (.returned (.int .i64 6)) w':=
 ⟨by rw [h],gH (World.grownBy.refl w _) hb,fun e=>by rw [h] at e; cases e⟩
theorem El (st:ah) (l:ak) (w:World) (T b1 b2 b3 n1 n2 n3:Nat) (g3:ByteArray→Option Value) (U:ByteArray→Int) (h1:l.job.size≤maxLen) (h2:l.node.size≤maxLen) (hn3:n3≤1000)
 (AK:∀ j ∈ st.jobs,0≤j.need∧j.need≤1000000) (hU:nB g3 U) (hU0:∀ s,0≤U s∧U s≤1000000000)
 (ht:gM w T b1 b2 b3 n1 n2 n3 (oq st.jobs) (lS st.nodes) g3) :
 Calls Tryz.prog 151 #[.pointer (some ⟨T,0,none⟩),.agg (av l).toArray] w (pC st l b3 n3 U w):=by
 have Kl:=hid (fun (h:fC st l=6) w'=>pC.six (b3:=b3) (n3:=n3) (U:=U) (w:=w) (w':=w') h)
 obtain⟨j,hj1,hj2,hj3⟩:=Ek st.jobs l.job
 obtain⟨n,hn1,hn2⟩:=Ca st.nodes l.node
 have hE:fC st l=if (dA st.jobs l.job).isSome && (dh st.nodes l.node).isSome then (if ranged l.till 0 1099511627776 then 0 else 1) else 6:=rfl
 have HE:=hid hE
 have hN:∀ s,(dA st.jobs l.job).isSome=true→gu st l s=if l.node=s then j.need else 0:=by
  intro s hs
  unfold gu
  cases hx:dA st.jobs l.job with
  | none=>rw [hx] at hs; cases hs
  | some x=>rw [hj3 x hx]
 have hjn:(dA st.jobs l.job).isSome=true→0≤j.need∧j.need≤1000000:=by
  intro hs
  cases hx:dA st.jobs l.job with
  | none=>rw [hx] at hs; cases hs
  | some x=>rw [← hj3 x hx]; exact AK x (List.mem_of_find?_eq_some hx)
 have HN:=hid hN
 have Hjn:=hid hjn
 generalize (dA st.jobs l.job).isSome=bj at hj2 HE HN Hjn
 generalize (dh st.nodes l.node).isSome=bn at hn2 HE
 clear hE hj3 AK hN hjn
 have hnd:l.node=l.node:=rfl
 obtain⟨L,hL⟩:∃ L,L=l:=⟨_,rfl⟩
 have HL:=hid hL
 clear hL
 obtain⟨job,node,till⟩:=l
 unfold av
 simp only at h1 h2 hj1 hj2 hn1 hn2 ⊢
 obtain⟨jn,jp,jd,jt,jg⟩:=j
 obtain⟨nn,nr,nz⟩:=n
 simp only at hj1 hn1 Hjn HN
 have hTl:=ht.t.lt
 have z0:w.cell? ⟨T,0,none⟩=some (.map (some b1)):=ht.t.cell 0
 have z1:w.cell? ⟨T,1,none⟩=some (.map (some b2)):=ht.t.cell 1
 have z2:w.cell? ⟨T,2,none⟩=some (.map (some b3)):=ht.t.cell 2
 have hb0:=(Below.refl w.heap.size w).alloc (Nat.le_refl _) (.cells #[.string job,.string node,.int .i64 till] 36)
 have hb1:=hb0.alloc hb0.size (.cells #[.string jn,.int .i64 jp,.int .i64 jd,.int .i64 jt,.string jg] 32)
 have hb2:=hb1.alloc hb1.size (.cells #[.string nn,.int .i64 nr,.string nz] 34)
 have M1:∀ W,Below w.heap.size w W→(Instr.lookup 233 (.map (some b1)) (.string job) true).run Tryz.prog W = .ok (.tuple #[.agg #[.string jn,.int .i64 jp,.int .i64 jd,.int .i64 jt,.string jg],.bool bj]) W:=fun W hW=>by
  rw [(ht.m1.below hW ht.m1.lt).look_ok Tryz.underlying233 (Jl W) job h1,hj1,hj2]
 have M2:∀ W,Below w.heap.size w W→(Instr.lookup 234 (.map (some b2)) (.string node) true).run Tryz.prog W = .ok (.tuple #[.agg #[.string nn,.int .i64 nr,.string nz],.bool bn]) W:=fun W hW=>by
  rw [(ht.m2.below hW ht.m2.lt).look_ok Tryz.underlying234 (GA W) node h2,hn1,hn2]
 have r0:=M1 _ (hb0.drew)
 have r1:=fun o=>M1 _ ((hb0.alloc hb0.size o).drew)
 have r2:=M2 _ (hb1.drew.drew)
 have r3:=fun o=>M2 _ ((hb1.alloc hb1.size o).drew.drew)
 have h3:=(ht.m3.below hb2.drew.drew.drew ht.m3.lt).look Tryz.underlying235 (Dg _) node h2
 rw [hU node] at h3
 obtain⟨w5,hput,hm5,hg5⟩:=(ht.m3.below hb2.drew.drew.drew ht.m3.lt).put Tryz.underlying235 (by unfold maxLen; omega) node h2 (.int .i64 (U node+jd))
 have hu0:=hU0 node
 have HG5:=hid hg5
 have HM5:=hid hm5
 have HUm:=hid hU
 have HB2:=hid hb2.drew.drew
 have HB3:=hid hb2.drew.drew.drew
 have x1:((w.alloc (.cells #[.string job,.string node,.int .i64 till] 36)).alloc (.cells #[.string jn,.int .i64 jp,.int .i64 jd,.int .i64 jt,.string jg] 32)).cell? ⟨w.heap.size,1,none⟩=some (.string node):=by simp [go_sem]
 have p1:=(hb1.cell (p:=⟨T,1,none⟩) hTl).trans z1
 have p2:=fun o=>((hb1.alloc hb1.size o).cell (p:=⟨T,1,none⟩) hTl).trans z1
 have p3:=fun (o:Obj)=>(((Below.refl _ _).alloc (Nat.le_refl _) o).cell (p:=⟨w.heap.size,1,none⟩) (show w.heap.size<((w.alloc (.cells #[.string job,.string node,.int .i64 till] 36)).alloc (.cells #[.string jn,.int .i64 jp,.int .i64 jd,.int .i64 jt,.string jg] 32)).heap.size by simp; omega)).trans x1
 have q1:=(hb2.cell (p:=⟨T,2,none⟩) hTl).trans z2
 have x2:(((w.alloc (.cells #[.string job,.string node,.int .i64 till] 36)).alloc (.cells #[.string jn,.int .i64 jp,.int .i64 jd,.int .i64 jt,.string jg] 32)).alloc (.cells #[.string nn,.int .i64 nr,.string nz] 34)).cell? ⟨w.heap.size,2,none⟩=some (.int .i64 till):=by simp [go_sem]
 have x3:(((w.alloc (.cells #[.string job,.string node,.int .i64 till] 36)).alloc (.cells #[.string jn,.int .i64 jp,.int .i64 jd,.int .i64 jt,.string jg] 32)).alloc (.cells #[.string nn,.int .i64 nr,.string nz] 34)).cell? ⟨w.heap.size+1,2,none⟩=some (.int .i64 jd):=by simp [go_sem]
 have hb3:=ht.m3.lt
 have hx2:w5.cell? ⟨w.heap.size,2,none⟩=some (.int .i64 till):=hg5.cell x2 (by simp; omega)
 have HX2:=hid hx2
 clear M1 M2 ht hb0 hb1 hb2 hg5 hm5 hU hU0 hx2 x2
 go_enter Tryz.func151,Tryz.ntmps151
 go_wp2
 go_region
 clear r0 r1
 go_wp2
 go_region
 clear r2 r3 p1 p2 p3 x1
 cases bj
 · have hE6:=hid (Kl.out (by rw [HE.out]; rfl))
   clear hput h3
   go_wp2
   go_ret
   exact hE6.out _ HB2.out
 cases bn
 · have hE6:=hid (Kl.out (by rw [HE.out]; rfl))
   clear hput h3
   go_wp2
   go_ret
   exact hE6.out _ HB2.out
 have hjd:=Hjn.out rfl
 go_wp2
 go_region
 clear hput h3 q1 x3
 have hx2:=HX2.out
 have hend:=hid (show w.grownBy w5 (some b3)∧∃ g,dJ w5 b3 (n3+1) g∧nB g (fun s=>U s+gu st ⟨job,node,till⟩ s) from
  ⟨(gH (World.grownBy.refl w _) HB3.out).trans HG5.out,_,HM5.out,fun s=>by
   show _=Value.int .i64 (U s+gu st ⟨job,node,till⟩ s)
   rw [HN.out s trivial]
   by_cases hs:s=node
   · subst hs
     rw [if_pos rfl,if_pos rfl]; rfl
   · rw [if_neg hs,if_neg (fun e=>hs e.symm),HUm.out s,Int.add_zero]⟩)
 clear HG5 HM5 HN HUm HB3
 go_wp2_with fail
 refine Calls.mono (gU _ _ _ _) ?_
 rintro e w6 ⟨rfl,rfl⟩
 cases hr:ranged till 0 1099511627776
 · go_wp2
   go_ret
   exact⟨bg (by rw [HE.out,hr]; rfl),hend.out.1,fun _=>hend.out.2⟩
 · go_wp2
   go_ret
   exact⟨bg (by rw [HE.out,hr]; rfl),hend.out.1,fun _=>hend.out.2⟩
end Go.Proofs.YtbllgmociapjeaaGreatDoor
/- The walk of Rows at leases, against the tables. -/
namespace Go.Proofs.YtbllgmociapjeaaGreatDoor
open Go.Lib (hid)
open Go.RowKit
theorem eA (job node:ByteArray) (till:Int) (w:World):Calls Tryz.prog 150 #[.agg #[.string job,.string node,.int .i64 till]] w fun e w'=>e = .returned (.string job)∧Below w.heap.size w w':=by
 have HB:=hid ((Below.refl w.heap.size w).alloc (Nat.le_refl _) (.cells #[.string job,.string node,.int .i64 till] 36))
 go_enter Tryz.func150,Tryz.ntmps150
 go_wp2
 go_ret
 exact⟨rfl,HB.out⟩
def jv (xs:List ak):Prop:=∀ x ∈ xs,x.job.size≤9223372036854775807∧x.node.size≤9223372036854775807
section
variable {w w':World} {B sz n g:Nat} {A:Option Addr} {xs:List Value}
theorem aU.but (h:aU w B sz A n xs) (hg:w.grownBy w' (some g)) (hB:B≤g):aU w' B sz A n xs:=
 ⟨h.len,fun hn=>by
  obtain⟨b,off,e,hb,hr⟩:=h.at_ hn
  exact⟨b,off,e,hb,fun j u hu=>hg.cell (hr j u hu) (by simp; omega)⟩⟩
end
section
variable {w w':World} {T b1 b2 b3 n1 n2 n3 m:Nat} {g1 g2 g3 g:ByteArray→Option Value}
theorem gM.below (h:gM w T b1 b2 b3 n1 n2 n3 g1 g2 g3) (hb:Below w.heap.size w w'):gM w' T b1 b2 b3 n1 n2 n3 g1 g2 g3:=
 ⟨h.t.below hb h.t.lt,h.m1.below hb h.m1.lt,h.m2.below hb h.m2.lt,h.m3.below hb h.m3.lt⟩
theorem gM.used (h:gM w T b1 b2 b3 n1 n2 n3 g1 g2 g3) (hg:w.grownBy w' (some b3)) (h1:b1≠b3) (h2:b2≠b3) (h3:T≠b3) (hm:dJ w' b3 m g):gM w' T b1 b2 b3 n1 n2 m g1 g2 g:=
 ⟨(hg.block T h.t.lt (by simp [h3])).trans h.t,h.m1.but hg h1,h.m2.but hg h2,hm⟩
end
def LK (st:ah) (n:Nat) (R:Int) (w:World) (T b1 b2 b3 n1 n2:Nat) (i:Value) (wr:World):Prop:=
 ∃ (k:Nat) (g3:ByteArray→Option Value),k≤n∧i = .int .i64 k∧dP (fC st) ak.job (prevK ak.job st.leases k) (st.leases.drop k)=R∧w.grownBy wr (some b3) ∧
  gM wr T b1 b2 b3 n1 n2 k (oq st.jobs) (lS st.nodes) g3∧nB g3 (fun s=>fU st s (st.leases.take k))
def K6 (st:ah) (n:Nat) (R:Int) (b3:Nat) (w:World) (e:Ending) (w':World):Prop:=
 e = .returned (.int .i64 R)∧w.grownBy w' (some b3)∧(R=0→∃ g,dJ w' b3 n g∧nB g (rB st))
theorem xq (st:ah) (A:Option Addr) (n c:Nat) (w:World) (T b1 b2 b3 n1 n2:Nat) (g3:ByteArray→Option Value) (hx:aU w b3 3 A n (au av st.leases)) (hl:st.leases.length=n) (hn:n≤40) (hok:jv st.leases)
 (AK:rD st) (h1:b1≠b3) (h2:b2≠b3) (h3:T≠b3) (hu:nB g3 (fun _=>0)) (ht:gM w T b1 b2 b3 n1 n2 0 (oq st.jobs) (lS st.nodes) g3) :
 Calls Tryz.prog 149 #[.slice A n c,.func (.func 150) #[] #[],.func (.func 151) #[.pointer (some ⟨T,0,none⟩)] #[]] w (K6 st n (bT (fC st) ak.job st.leases) b3 w):=by
 obtain⟨R,hR⟩:∃ R,bT (fC st) ak.job st.leases=R:=⟨_,rfl⟩
 rw [hR]
 have HR:=hid hR
 have Hl:=hid hl
 have Hok:=hid hok
 have Km:=hid AK
 have H0:=hid (And.intro hu ht)
 clear hl hR hok AK hu ht
 go_enter Tryz.func149,Tryz.ntmps149
 go_wp2
 go_loopw [6,7,8,9,12,19,28,35] (fun _ _ _ _ i _ _ _ wr=>LK st n R w T b1 b2 b3 n1 n2 i wr) (fun _ _ _ _ i _ _ _ _=>n - (intOf i).toNat)
 case atStart=>exact⟨0,g3,Nat.zero_le _,rfl,by rw [← HR.out]; rfl,World.grownBy.refl w _,H0.out.2,by rw [List.take_zero]; exact H0.out.1⟩
 case round=>
  obtain⟨k,g,hk,rfl,hrow,hg,hta,hua⟩:=hrel
  have eM:=hid hrow
  have Hg:=hid hg
  have Hta:=hid hta
  have Hua:=hid hua
  have hsz:=hg.size
  have hb3l:=hta.m3.lt
  have hxr:=hx.but hg (Nat.le_refl _)
  clear hrow hta hua hg
  by_cases hlt:k<n
  · obtain⟨x,hf⟩:∃ x,st.leases[k]? = some x:=⟨_,List.getElem?_eq_getElem (by rw [Hl.out]; exact hlt)⟩
    obtain⟨b,off,rfl,hbB,hc⟩:=hxr.dB aG Hl.out hf
    have hso:=hid (Hok.out x (List.mem_of_getElem? hf))
    have hstep:=hid (fun s=>Cb st s hf)
    have hbnd:=hid (fun s=>tN Km.out s (st.leases.take k))
    have hbl:(st.leases.take k).length≤40:=by rw [List.length_take]; omega
    have Hf:=hid hf
    obtain⟨E,hE⟩:∃ E,fC st x=E:=⟨_,rfl⟩
    have HE:=hid hE
    obtain⟨job,node,till⟩:=x
    obtain⟨c0,c1,c2⟩:=rc3 hc
    clear hc hf hE
    have hlb:b<wr.heap.size:=by omega
    have hA0:=(Below.refl wr.heap.size wr).alloc (Nat.le_refl _) (.cells #[.string job,.string node,.int .i64 till] 36)
    have HA0:=hid hA0
    have hpre:=hid (show ∀ s,0≤fU st s (st.leases.take k)∧fU st s (st.leases.take k)≤1000000000 from fun s=>by have:=hbnd.out s; omega)
    have hcon:=hid (El st ⟨job,node,till⟩ _ T b1 b2 b3 n1 n2 k g _ hso.out.1 hso.out.2 (by omega) Km.out Hua.out hpre.out (Hta.out.below hA0))
    clear hA0
    go_wp2_with fail
    refine Calls.mono hcon.out ?_
    rintro e w1 ⟨rfl,hg1,hz1⟩
    rw [HE.out]
    rw [HE.out] at hz1
    have hz:=hid hz1
    have hG1:=hid hg1
    have hGa:=hid ((gH (World.grownBy.refl wr (some b3)) HA0.out).trans hg1)
    have hB1:=hid (Hg.out.trans hGa.out)
    have hsz1:=hg1.size
    have hgl:wr.heap.size<w1.heap.size:=by simp at hsz1; omega
    clear hcon hz1 hsz1
    by_cases he:E=0
    · subst he
      have l0:∀ d os,(Sort.grow (redrawn w1 d) os).cell? ⟨wr.heap.size,0,none⟩=some (.string job):=fun d os=>cell_regrown (hg1.cell (by simp [go_sem]) (by simp; omega)) d os
      have l1:∀ d os,(Sort.grow (redrawn w1 d) os).cell? ⟨wr.heap.size,1,none⟩=some (.string node):=fun d os=>cell_regrown (hg1.cell (by simp [go_sem]) (by simp; omega)) d os
      have l2:∀ d os,(Sort.grow (redrawn w1 d) os).cell? ⟨wr.heap.size,2,none⟩=some (.int .i64 till):=fun d os=>cell_regrown (hg1.cell (by simp [go_sem]) (by simp; omega)) d os
      obtain⟨g',hm',hu'⟩:=hz.out rfl
      have hnext:=hid (And.intro (Hta.out.used hGa.out h1 h2 h3 hm') (show nB g' (fun s=>fU st s (st.leases.take (k+1))) from fun s=>(hu' s).trans (congrArg (Value.int .i64) (hstep.out s).symm)))
      clear hm' hu'
      by_cases hk0:k=0
      · subst hk0
        have hst:=hid (jm (key:=ak.job) Hf.out HE.out (.inl rfl))
        clear c0 c1 c2 hx hxr hg1
        go_wp2_with fail
        refine wp_region_quiet_below (by kernel_rfl) (by kernel_rfl) ?_
        repeat (go_big_quiet_step (fail))
        refine wpQuiet_nil ?_
        intro _ hw'
        obtain⟨⟨nq,osq⟩,hw''⟩:=hw'
        subst hw''
        have hb2:=hid (below_regrown w1 nq osq)
        clear l0 l1 l2
        dsimp only
        generalize Sort.grow (redrawn w1 nq) osq=w2 at hb2 ⊢
        go_wp2
        go_roundw
        case rel=>exact⟨1,g',by omega,by go_num,by rw [← hst.out]; exact eM.out,gH hB1.out hb2.out,hnext.out.1.below hb2.out,hnext.out.2⟩
        case measure=>simp [intOf]; omega
      · obtain⟨y,hy⟩:∃ y,st.leases[k - 1]? = some y:=⟨_,List.getElem?_eq_getElem (by rw [Hl.out]; omega)⟩
        obtain⟨b',off',hbo,uh,hp⟩:=hxr.dB aG Hl.out hy
        obtain⟨rfl,rfl⟩:b=b'∧off=off':=by simpa using hbo
        have Hy:=hid hy
        obtain⟨qo,GB,GC⟩:=y
        obtain⟨q0,q1,q2⟩:=rc3 hp
        have hbne:(some b:Option Nat)≠some b3:=by simp; omega
        have p0:∀ d os,(Sort.grow (redrawn w1 d) os).cell? ⟨b,off+(k - 1)*3,none⟩=some (.string qo):=fun d os=>cell_regrown (hGa.out.cell q0 hbne) d os
        have p1:∀ d os,(Sort.grow (redrawn w1 d) os).cell? ⟨b,off+(k - 1)*3+1,none⟩=some (.string GB):=fun d os=>cell_regrown (hGa.out.cell q1 hbne) d os
        have p2:∀ d os,(Sort.grow (redrawn w1 d) os).cell? ⟨b,off+(k - 1)*3+2,none⟩=some (.int .i64 GC):=fun d os=>cell_regrown (hGa.out.cell q2 hbne) d os
        clear q0 q1 q2 c0 c1 c2 hp hy hx hxr hg1 hbne
        have hkp:decide ((0:Int)<(k:Int))=true:=decide_eq_true (by omega)
        have hkn:0<k:=by omega
        have hlt2:=hid (dW qo.toList job.toList)
        obtain⟨B,hB⟩:∃ B,Op.bytesLess qo.toList job.toList=B:=⟨_,rfl⟩
        have HL:=hid hB
        cases B
        · have e1:(Op.bytesLess job.toList qo.toList || job.toList == qo.toList)=true:=by rw [← hlt2.out,hB]; rfl
          have hst:=hid (nC (key:=ak.job) Hf.out HE.out hk0 Hy.out HL.out)
          clear hB
          go_wp2_with fail
          refine wp_region_quiet_below (by kernel_rfl) (by kernel_rfl) ?_
          repeat (go_big_quiet_step ((go_at_call 150; exact Calls.regrown_of (eA _ _ _ _))))
          refine wpQuiet_nil ?_
          intro _ hw'
          obtain⟨⟨nq,osq⟩,hw''⟩:=hw'
          subst hw''
          have hb2:=hid (below_regrown w1 nq osq)
          clear l0 l1 l2 p0 p1 p2
          dsimp only
          generalize Sort.grow (redrawn w1 nq) osq=w2 at hb2 ⊢
          go_wp2
          go_ret
          have h8:=eM.out
          rw [hst.out] at h8
          exact⟨bg h8,gH hB1.out hb2.out,fun h=>by omega⟩
        · have e1:(Op.bytesLess job.toList qo.toList || job.toList == qo.toList)=false:=by rw [← hlt2.out,hB]; rfl
          have hst:=hid (jm (key:=ak.job) Hf.out HE.out (.inr ⟨_,Hy.out,HL.out⟩))
          clear hB
          go_wp2_with fail
          refine wp_region_quiet_below (by kernel_rfl) (by kernel_rfl) ?_
          repeat (go_big_quiet_step ((go_at_call 150; exact Calls.regrown_of (eA _ _ _ _))))
          refine wpQuiet_nil ?_
          intro _ hw'
          obtain⟨⟨nq,osq⟩,hw''⟩:=hw'
          subst hw''
          have hb2:=hid (below_regrown w1 nq osq)
          clear l0 l1 l2 p0 p1 p2
          dsimp only
          generalize Sort.grow (redrawn w1 nq) osq=w2 at hb2 ⊢
          go_wp2
          go_roundw
          case rel=>exact⟨k+1,g',by omega,by go_num,by rw [← hst.out]; exact eM.out,gH hB1.out hb2.out,hnext.out.1.below hb2.out,hnext.out.2⟩
          case measure=>simp [intOf]; omega
    · have hst:=hid (rE (E:=fC st) (key:=ak.job) Hf.out (by rw [HE.out]; exact he))
      have e1:(E == 0)=false:=beq_eq_false_iff_ne.2 he
      have e2:(E != 0)=true:=bne_iff_ne.2 he
      clear c0 c1 c2 hx hxr hg1
      go_wp2
      go_ret
      have h8:=eM.out
      rw [hst.out,HE.out] at h8
      exact⟨bg h8,hB1.out,fun h=>absurd (h8.trans h) he⟩
  · obtain rfl:k=n:=by omega
    have fin:=hid (show R=0 by rw [← eM.out]; exact rF (by rw [Hl.out]; exact Nat.le_refl _) _)
    have hlast:=hid (show nB g (rB st) from fun s=>by
     have:=Hua.out s
     rw [List.take_of_length_le (by rw [Hl.out]; exact Nat.le_refl _)] at this
     exact this)
    clear hx hxr
    go_wp2
    go_ret
    exact⟨bg fin.out.symm,Hg.out,fun _=>⟨g,Hta.out.m3,hlast.out⟩⟩
end Go.Proofs.YtbllgmociapjeaaGreatDoor
