/- Of the proof of a statement: TabM, Lease, RowsL, PlSum. -/
import Derived.Maps.OwnSet
import Derived.StringKeys
import Derived.Deep.QuietTactic
import Derived.BigQuiet
import Derived.Lib.QuietBelow
import Derived.Test.YtcpgnjmaampglaaGreatDoorWLaySort
import Derived.Test.YtcpgnjmaampglaaGreatDoorWPk
import Derived.Test.YtcpgnjmaampglaaGreatDoorWRTab
set_option linter.unusedVariables false
set_option linter.unusedSimpArgs false
set_option maxRecDepth 100000
set_option maxHeartbeats 8000000
/- Maps keyed by texts that the call itself has made: what they hold, as a function. -/
namespace Go.Proofs.YtcpgnjmaampglaaGreatDoor
open Go.Lib (hid)
open Go.RowKit Go.Maps
open Go.RowKit
def jM:Value→Option (DataW Value × List MemPlace):=fun v=>some (.held v,[])
def bT (w:World) (b n:Nat) (g:ByteArray→Option Value):Prop:=
 ∃ D:DataW Value,w.ownsMap Tryz.prog 9 jM b n D∧∀ (s:ByteArray) (z:DataW Value),D.atKey (.string s.data.toList) z=match g s with
  | none=>z
  | some v=>.held v
theorem AT:Keyed Tryz.prog 9:=string_keyed Tryz.underlying9
section
variable {w w':World} {b n:Nat} {g:ByteArray→Option Value}
theorem bT.made (w:World):bT (w.alloc (.map #[] 0)) w.heap.size 0 (fun _=>none):=⟨.map [],World.ownsMap_made w _ _ _,fun _ _=>rfl⟩
theorem bT.lt (h:bT w b n g):b<w.heap.size:=h.choose_spec.1.lt
theorem bT.same (h:bT w b n g) (e:w'.heap[b]? = w.heap[b]?):bT w' b n g:=by
 obtain⟨D,⟨es,clock,hb,r⟩,hD⟩:=h
 exact⟨D,⟨es,clock,e.trans hb,r⟩,hD⟩
theorem bT.below {B:Nat} (h:bT w b n g) (hb:Below B w w') (hB:b<B):bT w' b n g:=h.same (hb.block b hB)
theorem bT.but {c:Nat} (h:bT w b n g) (hg:w.grownBy w' (some c)) (hne:b≠c):bT w' b n g:=h.same (hg.block b h.lt (by simp [hne]))
theorem bT.congr {g':ByteArray→Option Value} (h:bT w b n g) (e:∀ s,g s=g' s):bT w b n g':=by
 obtain⟨D,ho,hD⟩:=h
 exact⟨D,ho,fun s z=>by rw [hD,e]⟩
theorem bT.mono {m:Nat} (h:bT w b n g) (hm:n≤m):bT w b m g:=by
 obtain⟨D,ho,hD⟩:=h
 exact⟨D,ho.mono hm,hD⟩
theorem data_inj {s t:ByteArray} (h:(Lit.string s.data.toList) = .string t.data.toList):s=t:=by
 injection h with h
 exact ByteArray.ext (Array.toList_inj.1 h)
theorem bT.put {t e:TypeId} (h:bT w b n g) (ht : Tryz.prog.underlying t=some (.map 9 e)) (hn:n<maxLen) (s:ByteArray) (hs:s.size≤maxLen) (v:Value) :
 ∃ w',(Instr.mapUpdate t (.map (some b)) (.string s) v).run Tryz.prog w = .ok () w'∧bT w' b (n+1) (fun x=>if x=s then some v else g x)∧w.grownBy w' (some b):=by
 obtain⟨D,ho,hD⟩:=h
 obtain⟨w',hr,ho',hg⟩:=ho.update AT ht hn (Go.WideMaps.keyOf_string_mk Tryz.underlying9 hs) (val:=v) (d:=.held v) (ps:=[]) rfl
 refine⟨w',hr,⟨_,ho',fun x z=>?_⟩,hg⟩
 by_cases hx:x=s
 · subst hx
   rw [atKey_put_same ho.isMap (by simp [WideAt.IsKeyLit])]
   simp
 · rw [atKey_put_other (fun e=>hx (data_inj e)),hD x z]
   simp [hx]
theorem bT.look {t e:TypeId} (h:bT w b n g) (ht : Tryz.prog.underlying t=some (.map 9 e)) {z:Value} (hz:(zeroValue e).run Tryz.prog w = .ok z w) (s:ByteArray) (hs:s.size≤maxLen) :
 (Instr.lookup t (.map (some b)) (.string s) false).run Tryz.prog w = .ok ((g s).getD z) w:=by
 obtain⟨D,ho,hD⟩:=h
 obtain⟨v,ps,hr,hv⟩:=ho.lookup AT ht hz (zd:=.held z) (zp:=[]) rfl (Go.WideMaps.keyOf_string_mk Tryz.underlying9 hs)
 rw [hD] at hv
 have hv1:(DataW.held v:DataW Value)=match g s with | none=>.held z | some v=>.held v:=by
  have:=congrArg (fun o=>o.map Prod.fst) hv
  simpa [jM] using this
 have e:v=(g s).getD z:=by
  cases hg:g s with
  | none=>rw [hg] at hv1; injection hv1
  | some u=>rw [hg] at hv1; injection hv1
 rw [hr,e]
theorem bT.look_ok {t e:TypeId} (h:bT w b n g) (ht : Tryz.prog.underlying t=some (.map 9 e)) {z:Value} (hz:(zeroValue e).run Tryz.prog w = .ok z w) (s:ByteArray) (hs:s.size≤maxLen) :
 (Instr.lookup t (.map (some b)) (.string s) true).run Tryz.prog w = .ok (.tuple #[(g s).getD z,.bool (g s).isSome]) w:=by
 obtain⟨D,ho,hD⟩:=h
 obtain⟨v,ps,hr,hv⟩:=ho.look_ok AT ht hz (zd:=.held z) (zp:=[]) rfl (Go.WideMaps.keyOf_string_mk Tryz.underlying9 hs)
 rw [hD] at hv
 have hv1:(DataW.held v:DataW Value)=match g s with | none=>.held z | some v=>.held v:=by
  have:=congrArg (fun o=>o.map Prod.fst) hv
  simpa [jM] using this
 cases hg:g s with
 | none=>
  rw [hg] at hv1
  have e:v=z:=by injection hv1
  have hh:Maps.has D (.string s.data.toList)=false:=Maps.has_false_of_atKey (fun x=>by rw [hD,hg])
  rw [hr,e,hh]; rfl
 | some u=>
  rw [hg] at hv1
  have e:v=u:=by injection hv1
  have hh:Maps.has D (.string s.data.toList)=true:=Maps.has_true_of_atKey (y:=.held u) (fun x=>by rw [hD,hg])
  rw [hr,e,hh]; rfl
end
def ru (l:List aB) (s:ByteArray):Option Value:=(eu l s).map fun j=>.agg (aH j).toArray
def nB (l:List av) (s:ByteArray):Option Value:=(dX l s).map fun n=>.agg (aI n).toArray
structure ig (w:World) (T b1 b2 b3 n1 n2 n3:Nat) (g1 g2 g3:ByteArray→Option Value):Prop where
 t:Blk w T 161 #[.map (some b1),.map (some b2),.map (some b3)]
 m1:bT w b1 n1 g1
 m2:bT w b2 n2 g2
 m3:bT w b3 n3 g3
theorem Om (w:World):(zeroValue 59).run Tryz.prog w = .ok (.agg #[.string ⟨#[]⟩,.int .i64 0,.int .i64 0,.int .i64 0,.string ⟨#[]⟩]) w:=by kernel_rfl
theorem Mc (w:World):(zeroValue 61).run Tryz.prog w = .ok (.agg #[.string ⟨#[]⟩,.int .i64 0,.string ⟨#[]⟩]) w:=by kernel_rfl
theorem IE (w:World):(zeroValue 3).run Tryz.prog w = .ok (.int .i64 0) w:=by kernel_rfl
theorem JV (l:List aB) (s:ByteArray):∃ (j:aB),(ru l s).getD (.agg #[.string ⟨#[]⟩,.int .i64 0,.int .i64 0,.int .i64 0,.string ⟨#[]⟩]) = .agg #[.string j.name,.int .i64 j.prio,.int .i64 j.need,.int .i64 j.tries,.string j.tag]∧(ru l s).isSome=(eu l s).isSome∧(∀ x,eu l s=some x→x=j):=by
 unfold ru
 cases h:eu l s with
 | none=>exact⟨⟨⟨#[]⟩,0,0,0,⟨#[]⟩⟩,rfl,rfl,fun x e=>by cases e⟩
 | some j=>exact⟨j,rfl,rfl,fun x e=>by injection e with e; exact e.symm⟩
theorem GL (l:List av) (s:ByteArray):∃ (n:av),(nB l s).getD (.agg #[.string ⟨#[]⟩,.int .i64 0,.string ⟨#[]⟩]) = .agg #[.string n.name,.int .i64 n.room,.string n.zone]∧(nB l s).isSome=(dX l s).isSome:=by
 unfold nB
 cases h:dX l s with
 | none=>exact⟨⟨⟨#[]⟩,0,⟨#[]⟩⟩,rfl,rfl⟩
 | some n=>exact⟨n,rfl,rfl⟩
def pW (g:ByteArray→Option Value) (U:ByteArray→Int):Prop:=∀ s,(g s).getD (.int .i64 0) = .int .i64 (U s)
def rQ (st:ah) (l:ak) (b3 n3:Nat) (U:ByteArray→Int) (w:World) (e:Ending) (w':World):Prop:=
 e = .returned (.int .i64 (eN st l))∧w.grownBy w' (some b3)∧(eN st l=0→∃ g,bT w' b3 (n3+1) g∧pW g (fun s=>U s+gR st l s))
theorem rQ.six {st:ah} {l:ak} {b3 n3:Nat} {U:ByteArray→Int} {w w':World} (h:eN st l=6) (hb:Below w.heap.size w w'):rQ st l b3 n3 U w (.returned (.int .i64 6)) w':=
 ⟨by rw [h],eX (World.grownBy.refl w _) hb,fun e=>by rw [h] at e; cases e⟩
theorem JW (st:ah) (l:ak) (w:World) (T b1 b2 b3 n1 n2 n3:Nat) (g3:ByteArray→Option Value) (U:ByteArray→Int) (h1:l.job.size≤maxLen) (h2:l.node.size≤maxLen) (hn3:n3≤1000)
 (EQ:∀ j ∈ st.jobs,0≤j.need∧j.need≤1000000) (hU:pW g3 U) (hU0:∀ s,0≤U s∧U s≤1000000000)
 (ht:ig w T b1 b2 b3 n1 n2 n3 (ru st.jobs) (nB st.nodes) g3) :
 Calls Tryz.prog 85 #[.pointer (some ⟨T,0,none⟩),.agg (aE l).toArray] w (rQ st l b3 n3 U w):=by
 have O7:=hid (fun (h:eN st l=6) w'=>rQ.six (b3:=b3) (n3:=n3) (U:=U) (w:=w) (w':=w') h)
 obtain⟨j,hj1,hj2,hj3⟩:=JV st.jobs l.job
 obtain⟨n,hn1,hn2⟩:=GL st.nodes l.node
 have hE:eN st l=if (eu st.jobs l.job).isSome && (dX st.nodes l.node).isSome then (if ranged l.till 0 1099511627776 then 0 else 1) else 6:=rfl
 have HE:=hid hE
 have hN:∀ s,(eu st.jobs l.job).isSome=true→gR st l s=if l.node=s then j.need else 0:=by
  intro s hs
  unfold gR
  cases hx:eu st.jobs l.job with
  | none=>rw [hx] at hs; cases hs
  | some x=>rw [hj3 x hx]
 have hjn:(eu st.jobs l.job).isSome=true→0≤j.need∧j.need≤1000000:=by
  intro hs
  cases hx:eu st.jobs l.job with
  | none=>rw [hx] at hs; cases hs
  | some x=>rw [← hj3 x hx]; exact EQ x (List.mem_of_find?_eq_some hx)
 have HN:=hid hN
 have Hjn:=hid hjn
 generalize (eu st.jobs l.job).isSome=bj at hj2 HE HN Hjn
 generalize (dX st.nodes l.node).isSome=bn at hn2 HE
 clear hE hj3 EQ hN hjn
 have hnd:l.node=l.node:=rfl
 obtain⟨L,hL⟩:∃ L,L=l:=⟨_,rfl⟩
 have HL:=hid hL
 clear hL
 obtain⟨job,node,till⟩:=l
 unfold aE
 simp only at h1 h2 hj1 hj2 hn1 hn2 ⊢
 obtain⟨jn,jp,jd,jt,jg⟩:=j
 obtain⟨nn,nr,nz⟩:=n
 simp only at hj1 hn1 Hjn HN
 have hTl:=ht.t.lt
 have z0:w.cell? ⟨T,0,none⟩=some (.map (some b1)):=ht.t.cell 0
 have z1:w.cell? ⟨T,1,none⟩=some (.map (some b2)):=ht.t.cell 1
 have z2:w.cell? ⟨T,2,none⟩=some (.map (some b3)):=ht.t.cell 2
 have hb0:=(Below.refl w.heap.size w).alloc (Nat.le_refl _) (.cells #[.string job,.string node,.int .i64 till] 63)
 have hb1:=hb0.alloc hb0.size (.cells #[.string jn,.int .i64 jp,.int .i64 jd,.int .i64 jt,.string jg] 59)
 have hb2:=hb1.alloc hb1.size (.cells #[.string nn,.int .i64 nr,.string nz] 61)
 have M1:∀ W,Below w.heap.size w W→(Instr.lookup 157 (.map (some b1)) (.string job) true).run Tryz.prog W = .ok (.tuple #[.agg #[.string jn,.int .i64 jp,.int .i64 jd,.int .i64 jt,.string jg],.bool bj]) W:=fun W hW=>by
  rw [(ht.m1.below hW ht.m1.lt).look_ok Tryz.underlying157 (Om W) job h1,hj1,hj2]
 have M2:∀ W,Below w.heap.size w W→(Instr.lookup 158 (.map (some b2)) (.string node) true).run Tryz.prog W = .ok (.tuple #[.agg #[.string nn,.int .i64 nr,.string nz],.bool bn]) W:=fun W hW=>by
  rw [(ht.m2.below hW ht.m2.lt).look_ok Tryz.underlying158 (Mc W) node h2,hn1,hn2]
 have r0:=M1 _ (hb0.drew)
 have r1:=fun o=>M1 _ ((hb0.alloc hb0.size o).drew)
 have r2:=M2 _ (hb1.drew.drew)
 have r3:=fun o=>M2 _ ((hb1.alloc hb1.size o).drew.drew)
 have h3:=(ht.m3.below hb2.drew.drew.drew ht.m3.lt).look Tryz.underlying159 (IE _) node h2
 rw [hU node] at h3
 obtain⟨w5,hput,hm5,hg5⟩:=(ht.m3.below hb2.drew.drew.drew ht.m3.lt).put Tryz.underlying159 (by unfold maxLen; omega) node h2 (.int .i64 (U node+jd))
 have hu0:=hU0 node
 have HG5:=hid hg5
 have HM5:=hid hm5
 have HUm:=hid hU
 have HB2:=hid hb2.drew.drew
 have HB3:=hid hb2.drew.drew.drew
 have x1:((w.alloc (.cells #[.string job,.string node,.int .i64 till] 63)).alloc (.cells #[.string jn,.int .i64 jp,.int .i64 jd,.int .i64 jt,.string jg] 59)).cell? ⟨w.heap.size,1,none⟩=some (.string node):=by simp [go_sem]
 have p1:=(hb1.cell (p:=⟨T,1,none⟩) hTl).trans z1
 have p2:=fun o=>((hb1.alloc hb1.size o).cell (p:=⟨T,1,none⟩) hTl).trans z1
 have p3:=fun (o:Obj)=>(((Below.refl _ _).alloc (Nat.le_refl _) o).cell (p:=⟨w.heap.size,1,none⟩) (show w.heap.size<((w.alloc (.cells #[.string job,.string node,.int .i64 till] 63)).alloc (.cells #[.string jn,.int .i64 jp,.int .i64 jd,.int .i64 jt,.string jg] 59)).heap.size by simp; omega)).trans x1
 have q1:=(hb2.cell (p:=⟨T,2,none⟩) hTl).trans z2
 have x2:(((w.alloc (.cells #[.string job,.string node,.int .i64 till] 63)).alloc (.cells #[.string jn,.int .i64 jp,.int .i64 jd,.int .i64 jt,.string jg] 59)).alloc (.cells #[.string nn,.int .i64 nr,.string nz] 61)).cell? ⟨w.heap.size,2,none⟩=some (.int .i64 till):=by simp [go_sem]
 have x3:(((w.alloc (.cells #[.string job,.string node,.int .i64 till] 63)).alloc (.cells #[.string jn,.int .i64 jp,.int .i64 jd,.int .i64 jt,.string jg] 59)).alloc (.cells #[.string nn,.int .i64 nr,.string nz] 61)).cell? ⟨w.heap.size+1,2,none⟩=some (.int .i64 jd):=by simp [go_sem]
 have hb3:=ht.m3.lt
 have hx2:w5.cell? ⟨w.heap.size,2,none⟩=some (.int .i64 till):=hg5.cell x2 (by simp; omega)
 have HX2:=hid hx2
 clear M1 M2 ht hb0 hb1 hb2 hg5 hm5 hU hU0 hx2 x2
 go_enter Tryz.func85,Tryz.ntmps85
 go_wp2
 go_region
 clear r0 r1
 go_wp2
 go_region
 clear r2 r3 p1 p2 p3 x1
 cases bj
 · have hE6:=hid (O7.out (by rw [HE.out]; rfl))
   clear hput h3
   go_wp2
   go_ret
   exact hE6.out _ HB2.out
 cases bn
 · have hE6:=hid (O7.out (by rw [HE.out]; rfl))
   clear hput h3
   go_wp2
   go_ret
   exact hE6.out _ HB2.out
 have hjd:=Hjn.out rfl
 go_wp2
 go_region
 clear hput h3 q1 x3
 have hx2:=HX2.out
 have hend:=hid (show w.grownBy w5 (some b3)∧∃ g,bT w5 b3 (n3+1) g∧pW g (fun s=>U s+gR st ⟨job,node,till⟩ s) from
  ⟨(eX (World.grownBy.refl w _) HB3.out).trans HG5.out,_,HM5.out,fun s=>by
   show _=Value.int .i64 (U s+gR st ⟨job,node,till⟩ s)
   rw [HN.out s trivial]
   by_cases hs:s=node
   · subst hs
     rw [if_pos rfl,if_pos rfl]; rfl
   · rw [if_neg hs,if_neg (fun e=>hs e.symm),HUm.out s,Int.add_zero]⟩)
 clear HG5 HM5 HN HUm HB3
 go_wp2_with fail
 refine Calls.mono (iP _ _ _ _) ?_
 rintro e w6 ⟨rfl,rfl⟩
 cases hr:ranged till 0 1099511627776
 · go_wp2
   go_ret
   exact⟨bU (by rw [HE.out,hr]; rfl),hend.out.1,fun _=>hend.out.2⟩
 · go_wp2
   go_ret
   exact⟨bU (by rw [HE.out,hr]; rfl),hend.out.1,fun _=>hend.out.2⟩
theorem eP (job node:ByteArray) (till:Int) (w:World):Calls Tryz.prog 53 #[.agg #[.string job,.string node,.int .i64 till]] w fun e w'=>e = .returned (.string job)∧Below w.heap.size w w':=by
 have HB:=hid ((Below.refl w.heap.size w).alloc (Nat.le_refl _) (.cells #[.string job,.string node,.int .i64 till] 63))
 go_enter Tryz.func53,Tryz.ntmps53
 go_wp2
 go_ret
 exact⟨rfl,HB.out⟩
def ji (xs:List ak):Prop:=∀ x ∈ xs,x.job.size≤9223372036854775807∧x.node.size≤9223372036854775807
section
variable {w w':World} {B sz n g:Nat} {A:Option Addr} {xs:List Value}
theorem aQ.but (h:aQ w B sz A n xs) (hg:w.grownBy w' (some g)) (hB:B≤g):aQ w' B sz A n xs:=
 ⟨h.len,fun hn=>by
  obtain⟨b,off,e,hb,hr⟩:=h.at_ hn
  exact⟨b,off,e,hb,fun j u hu=>hg.cell (hr j u hu) (by simp; omega)⟩⟩
end
section
variable {w w':World} {T b1 b2 b3 n1 n2 n3 m:Nat} {g1 g2 g3 g:ByteArray→Option Value}
theorem ig.below (h:ig w T b1 b2 b3 n1 n2 n3 g1 g2 g3) (hb:Below w.heap.size w w'):ig w' T b1 b2 b3 n1 n2 n3 g1 g2 g3:=
 ⟨h.t.below hb h.t.lt,h.m1.below hb h.m1.lt,h.m2.below hb h.m2.lt,h.m3.below hb h.m3.lt⟩
theorem ig.used (h:ig w T b1 b2 b3 n1 n2 n3 g1 g2 g3) (hg:w.grownBy w' (some b3)) (h1:b1≠b3) (h2:b2≠b3) (h3:T≠b3) (hm:bT w' b3 m g):ig w' T b1 b2 b3 n1 n2 m g1 g2 g:=
 ⟨(hg.block T h.t.lt (by simp [h3])).trans h.t,h.m1.but hg h1,h.m2.but hg h2,hm⟩
end
def Q7 (st:ah) (n:Nat) (R:Int) (w:World) (T b1 b2 b3 n1 n2:Nat) (i:Value) (wr:World):Prop:=
 ∃ (k:Nat) (g3:ByteArray→Option Value),k≤n∧i = .int .i64 k∧dS (eN st) ak.job (prevK ak.job st.leases k) (st.leases.drop k)=R∧w.grownBy wr (some b3) ∧
  ig wr T b1 b2 b3 n1 n2 k (ru st.jobs) (nB st.nodes) g3∧pW g3 (fun s=>gJ st s (st.leases.take k))
def Qm (st:ah) (n:Nat) (R:Int) (b3:Nat) (w:World) (e:Ending) (w':World):Prop:=
 e = .returned (.int .i64 R)∧w.grownBy w' (some b3)∧(R=0→∃ g,bT w' b3 n g∧pW g (uH st))
theorem Bc (st:ah) (A:Option Addr) (n c:Nat) (w:World) (T b1 b2 b3 n1 n2:Nat) (g3:ByteArray→Option Value) (hx:aQ w b3 3 A n (au aE st.leases)) (hl:st.leases.length=n) (hn:n≤40) (hok:ji st.leases)
 (EQ:uF st) (h1:b1≠b3) (h2:b2≠b3) (h3:T≠b3) (hu:pW g3 (fun _=>0)) (ht:ig w T b1 b2 b3 n1 n2 0 (ru st.jobs) (nB st.nodes) g3) :
 Calls Tryz.prog 84 #[.slice A n c,.func (.func 53) #[] #[],.func (.func 85) #[.pointer (some ⟨T,0,none⟩)] #[]] w (Qm st n (bM (eN st) ak.job st.leases) b3 w):=by
 obtain⟨R,hR⟩:∃ R,bM (eN st) ak.job st.leases=R:=⟨_,rfl⟩
 rw [hR]
 have HR:=hid hR
 have Hl:=hid hl
 have Hok:=hid hok
 have O9:=hid EQ
 have H0:=hid (And.intro hu ht)
 clear hl hR hok EQ hu ht
 go_enter Tryz.func84,Tryz.ntmps84
 go_wp2
 go_loopw [6,7,8,9,12,19,28,35] (fun _ _ _ _ i _ _ _ wr=>Q7 st n R w T b1 b2 b3 n1 n2 i wr) (fun _ _ _ _ i _ _ _ _=>n - (intOf i).toNat)
 case atStart=>exact⟨0,g3,Nat.zero_le _,rfl,by rw [← HR.out]; rfl,World.grownBy.refl w _,H0.out.2,by rw [List.take_zero]; exact H0.out.1⟩
 case round=>
  obtain⟨k,g,hk,rfl,hrow,hg,hta,hua⟩:=hrel
  have jP:=hid hrow
  have Hg:=hid hg
  have Hta:=hid hta
  have Hua:=hid hua
  have hsz:=hg.size
  have hb3l:=hta.m3.lt
  have hxr:=hx.but hg (Nat.le_refl _)
  clear hrow hta hua hg
  by_cases hlt:k<n
  · obtain⟨x,hf⟩:∃ x,st.leases[k]? = some x:=⟨_,List.getElem?_eq_getElem (by rw [Hl.out]; exact hlt)⟩
    obtain⟨b,off,rfl,hbB,hc⟩:=hxr.dF bB Hl.out hf
    have hso:=hid (Hok.out x (List.mem_of_getElem? hf))
    have hstep:=hid (fun s=>GM st s hf)
    have hbnd:=hid (fun s=>xG O9.out s (st.leases.take k))
    have hbl:(st.leases.take k).length≤40:=by rw [List.length_take]; omega
    have Hf:=hid hf
    obtain⟨E,hE⟩:∃ E,eN st x=E:=⟨_,rfl⟩
    have HE:=hid hE
    obtain⟨job,node,till⟩:=x
    obtain⟨c0,c1,c2⟩:=rc3 hc
    clear hc hf hE
    have hlb:b<wr.heap.size:=by omega
    have hA0:=(Below.refl wr.heap.size wr).alloc (Nat.le_refl _) (.cells #[.string job,.string node,.int .i64 till] 63)
    have HA0:=hid hA0
    have hpre:=hid (show ∀ s,0≤gJ st s (st.leases.take k)∧gJ st s (st.leases.take k)≤1000000000 from fun s=>by have:=hbnd.out s; omega)
    have hcon:=hid (JW st ⟨job,node,till⟩ _ T b1 b2 b3 n1 n2 k g _ hso.out.1 hso.out.2 (by omega) O9.out Hua.out hpre.out (Hta.out.below hA0))
    clear hA0
    go_wp2_with fail
    refine Calls.mono hcon.out ?_
    rintro e w1 ⟨rfl,hg1,hz1⟩
    rw [HE.out]
    rw [HE.out] at hz1
    have hz:=hid hz1
    have hG1:=hid hg1
    have hGa:=hid ((eX (World.grownBy.refl wr (some b3)) HA0.out).trans hg1)
    have hB1:=hid (Hg.out.trans hGa.out)
    have hsz1:=hg1.size
    have hgl:wr.heap.size<w1.heap.size:=by simp at hsz1; omega
    clear hcon hz1 hsz1
    by_cases he:E=0
    · subst he
      have l0:∀ d os,(Sort.grow (redrawn w1 d) os).cell? ⟨wr.heap.size,0,none⟩=some (.string job):=fun d os=>cell_regrown (hg1.cell (by simp [go_sem]) (by simp; omega)) d os
      have l1:∀ d os,(Sort.grow (redrawn w1 d) os).cell? ⟨wr.heap.size,1,none⟩=some (.string node):=fun d os=>cell_regrown (hg1.cell (by simp [go_sem]) (by simp; omega)) d os
      have l2:∀ d os,(Sort.grow (redrawn w1 d) os).cell? ⟨wr.heap.size,2,none⟩=some (.int .i64 till):=fun d os=>cell_regrown (hg1.cell (by simp [go_sem]) (by simp; omega)) d os
      obtain⟨g',hm',hu'⟩:=hz.out rfl
      have hnext:=hid (And.intro (Hta.out.used hGa.out h1 h2 h3 hm') (show pW g' (fun s=>gJ st s (st.leases.take (k+1))) from fun s=>(hu' s).trans (congrArg (Value.int .i64) (hstep.out s).symm)))
      clear hm' hu'
      by_cases hk0:k=0
      · subst hk0
        have hst:=hid (jN (key:=ak.job) Hf.out HE.out (.inl rfl))
        clear c0 c1 c2 hx hxr hg1
        go_wp2_with fail
        refine wp_region_quiet_below (by kernel_rfl) (by kernel_rfl) ?_
        repeat (go_big_quiet_step (fail))
        refine wpQuiet_nil ?_
        intro _ hw'
        obtain⟨⟨nq,osq⟩,hw''⟩:=hw'
        subst hw''
        have hb2:=hid (below_regrown w1 nq osq)
        clear l0 l1 l2
        dsimp only
        generalize Sort.grow (redrawn w1 nq) osq=w2 at hb2 ⊢
        go_wp2
        go_roundw
        case rel=>exact⟨1,g',by omega,by go_num,by rw [← hst.out]; exact jP.out,eX hB1.out hb2.out,hnext.out.1.below hb2.out,hnext.out.2⟩
        case measure=>simp [intOf]; omega
      · obtain⟨y,hy⟩:∃ y,st.leases[k - 1]? = some y:=⟨_,List.getElem?_eq_getElem (by rw [Hl.out]; omega)⟩
        obtain⟨b',off',hbo,yT,hp⟩:=hxr.dF bB Hl.out hy
        obtain⟨rfl,rfl⟩:b=b'∧off=off':=by simpa using hbo
        have Hy:=hid hy
        obtain⟨tE,Md,Me⟩:=y
        obtain⟨q0,q1,q2⟩:=rc3 hp
        have hbne:(some b:Option Nat)≠some b3:=by simp; omega
        have p0:∀ d os,(Sort.grow (redrawn w1 d) os).cell? ⟨b,off+(k - 1)*3,none⟩=some (.string tE):=fun d os=>cell_regrown (hGa.out.cell q0 hbne) d os
        have p1:∀ d os,(Sort.grow (redrawn w1 d) os).cell? ⟨b,off+(k - 1)*3+1,none⟩=some (.string Md):=fun d os=>cell_regrown (hGa.out.cell q1 hbne) d os
        have p2:∀ d os,(Sort.grow (redrawn w1 d) os).cell? ⟨b,off+(k - 1)*3+2,none⟩=some (.int .i64 Me):=fun d os=>cell_regrown (hGa.out.cell q2 hbne) d os
        clear q0 q1 q2 c0 c1 c2 hp hy hx hxr hg1 hbne
        have hkp:decide ((0:Int)<(k:Int))=true:=decide_eq_true (by omega)
        have hkn:0<k:=by omega
        have hlt2:=hid (iH tE.toList job.toList)
        obtain⟨B,hB⟩:∃ B,Op.bytesLess tE.toList job.toList=B:=⟨_,rfl⟩
        have HL:=hid hB
        cases B
        · have e1:(Op.bytesLess job.toList tE.toList || job.toList == tE.toList)=true:=by rw [← hlt2.out,hB]; rfl
          have hst:=hid (pX (key:=ak.job) Hf.out HE.out hk0 Hy.out HL.out)
          clear hB
          go_wp2_with fail
          refine wp_region_quiet_below (by kernel_rfl) (by kernel_rfl) ?_
          repeat (go_big_quiet_step ((go_at_call 53; exact Calls.regrown_of (eP _ _ _ _))))
          refine wpQuiet_nil ?_
          intro _ hw'
          obtain⟨⟨nq,osq⟩,hw''⟩:=hw'
          subst hw''
          have hb2:=hid (below_regrown w1 nq osq)
          clear l0 l1 l2 p0 p1 p2
          dsimp only
          generalize Sort.grow (redrawn w1 nq) osq=w2 at hb2 ⊢
          go_wp2
          go_ret
          have h8:=jP.out
          rw [hst.out] at h8
          exact⟨bU h8,eX hB1.out hb2.out,fun h=>by omega⟩
        · have e1:(Op.bytesLess job.toList tE.toList || job.toList == tE.toList)=false:=by rw [← hlt2.out,hB]; rfl
          have hst:=hid (jN (key:=ak.job) Hf.out HE.out (.inr ⟨_,Hy.out,HL.out⟩))
          clear hB
          go_wp2_with fail
          refine wp_region_quiet_below (by kernel_rfl) (by kernel_rfl) ?_
          repeat (go_big_quiet_step ((go_at_call 53; exact Calls.regrown_of (eP _ _ _ _))))
          refine wpQuiet_nil ?_
          intro _ hw'
          obtain⟨⟨nq,osq⟩,hw''⟩:=hw'
          subst hw''
          have hb2:=hid (below_regrown w1 nq osq)
          clear l0 l1 l2 p0 p1 p2
          dsimp only
          generalize Sort.grow (redrawn w1 nq) osq=w2 at hb2 ⊢
          go_wp2
          go_roundw
          case rel=>exact⟨k+1,g',by omega,by go_num,by rw [← hst.out]; exact jP.out,eX hB1.out hb2.out,hnext.out.1.below hb2.out,hnext.out.2⟩
          case measure=>simp [intOf]; omega
    · have hst:=hid (uL (E:=eN st) (key:=ak.job) Hf.out (by rw [HE.out]; exact he))
      have e1:(E == 0)=false:=beq_eq_false_iff_ne.2 he
      have e2:(E != 0)=true:=bne_iff_ne.2 he
      clear c0 c1 c2 hx hxr hg1
      go_wp2
      go_ret
      have h8:=jP.out
      rw [hst.out,HE.out] at h8
      exact⟨bU h8,hB1.out,fun h=>absurd (h8.trans h) he⟩
  · obtain rfl:k=n:=by omega
    have fin:=hid (show R=0 by rw [← jP.out]; exact Ah (by rw [Hl.out]; exact Nat.le_refl _) _)
    have hlast:=hid (show pW g (uH st) from fun s=>by
     have:=Hua.out s
     rw [List.take_of_length_le (by rw [Hl.out]; exact Nat.le_refl _)] at this
     exact this)
    clear hx hxr
    go_wp2
    go_ret
    exact⟨bU fin.out.symm,Hg.out,fun _=>⟨g,Hta.out.m3,hlast.out⟩⟩
def C7 (x:Nat):Nat:=(x / 2) ^^^ (x % 2*3988292384)
def nX:Nat→Nat→Nat
 | 0,x=>x
 | n+1,x=>C7 (nX n x)
theorem On {x:Nat} (h:x<4294967296):C7 x<4294967296:=by
 unfold C7
 exact Nat.xor_lt_two_pow (n:=32) (by omega) (by have:x % 2<2:=Nat.mod_lt _ (by omega); omega)
theorem yj {x:Nat} (h:x<4294967296):∀ n,nX n x<4294967296
 | 0=>h
 | n+1=>On (yj h n)
theorem Mf (a b:Nat):(a ^^^ b) / 2=(a / 2) ^^^ (b / 2):=by
 have:=Nat.shiftRight_xor_distrib (a:=a) (b:=b) (i:=1)
 simpa [Nat.shiftRight_eq_div_pow] using this
theorem Mg (a b:Nat):(a ^^^ b) % 2=(a % 2) ^^^ (b % 2):=by
 have:=Nat.xor_mod_two_pow (a:=a) (b:=b) (n:=1)
 simpa using this
theorem Mh (a b:Nat):C7 (a ^^^ b)=C7 a ^^^ C7 b:=by
 unfold C7
 rw [Mf,Mg]
 have ha:a % 2=0∨a % 2=1:=by omega
 have hb:b % 2=0∨b % 2=1:=by omega
 rcases ha with ha | ha <;> rcases hb with hb | hb <;> rw [ha,hb]
 · simp
 · simp [Nat.xor_assoc]
 · simp only [Nat.zero_xor,Nat.xor_zero,Nat.one_mul,Nat.zero_mul]
   rw [Nat.xor_assoc,Nat.xor_assoc,Nat.xor_comm (b / 2)]
 · simp only [Nat.xor_self,Nat.one_mul,Nat.zero_mul,Nat.xor_zero]
   rw [show a / 2 ^^^ 3988292384 ^^^ (b / 2 ^^^ 3988292384)=a / 2 ^^^ b / 2 ^^^ (3988292384 ^^^ 3988292384) from by ac_rfl]
   simp
theorem ER (a b:Nat):∀ n,nX n (a ^^^ b)=nX n a ^^^ nX n b
 | 0=>rfl
 | n+1=>by rw [nX,ER a b n,Mh]; rfl
theorem B0:∀ n h,nX n (2 ^ n*h)=h
 | 0,h=>by simp [nX]
 | n+1,h=>by
  have e:2 ^ (n+1)*h=2 ^ n*(2*h):=by rw [Nat.pow_succ,Nat.mul_assoc]
  rw [nX,e,B0 n (2*h)]
  unfold C7
  simp
theorem JX (y:Nat):nX 8 y=(y / 256) ^^^ nX 8 (y % 256):=by
 have e:y=(256*(y / 256)) ^^^ (y % 256):=by
  have h:=Nat.two_pow_add_eq_or_of_lt (i:=8) (b:=y % 256) (by omega) (y / 256)
  have h2:2 ^ 8*(y / 256) &&& y % 256=0:=by
   apply Nat.eq_of_testBit_eq
   intro i
   rw [Nat.testBit_and,Nat.zero_testBit,Nat.testBit_two_pow_mul]
   by_cases hi:8≤i
   · have:(y % 256).testBit i=false:=Nat.testBit_lt_two_pow (Nat.lt_of_lt_of_le (show y % 256<2 ^ 8 by omega) (Nat.pow_le_pow_right (by omega) hi))
     simp [this]
   · simp [hi]
  have h3:(256*(y / 256)) ^^^ (y % 256)=256*(y / 256) ||| y % 256:=by
   apply Nat.eq_of_testBit_eq
   intro i
   have h4:=congrArg (fun z=>z.testBit i) h2
   simp only [Nat.testBit_and,Nat.zero_testBit] at h4
   rw [Nat.testBit_xor,Nat.testBit_or]
   have h5:(256*(y / 256))=2 ^ 8*(y / 256):=rfl
   rw [h5]
   revert h4
   cases (2 ^ 8*(y / 256)).testBit i <;> cases (y % 256).testBit i <;> simp
  rw [h3]
  have h5:(256*(y / 256))=2 ^ 8*(y / 256):=rfl
  rw [h5,← h]
  omega
 have h1:nX 8 (256*(y / 256))=y / 256:=B0 8 (y / 256)
 conv=>lhs; rw [e,ER,h1]
def Mi (x c:Nat):Nat:=(x / 256) ^^^ nX 8 ((x % 256) ^^^ c)
theorem Oo {x c:Nat} (hc:c<256):Mi x c=nX 8 (x ^^^ c):=by
 rw [JX (x ^^^ c)]
 have e1:(x ^^^ c) / 256=x / 256:=by
  have:=Nat.shiftRight_xor_distrib (a:=x) (b:=c) (i:=8)
  simp only [Nat.shiftRight_eq_div_pow] at this
  rw [show (256:Nat)=2 ^ 8 from rfl,this,show c / 2 ^ 8=0 from by omega,Nat.xor_zero]
 have e2:(x ^^^ c) % 256=(x % 256) ^^^ c:=by
  have:=Nat.xor_mod_two_pow (a:=x) (b:=c) (n:=8)
  rw [show (256:Nat)=2 ^ 8 from rfl,this,show c % 2 ^ 8=c from by omega]
 rw [e1,e2]; rfl
theorem Oq {x c:Nat} (hx:x<4294967296) (hc:c<256):Mi x c<4294967296:=by
 rw [Oo hc]
 exact yj (Nat.xor_lt_two_pow (n:=32) hx (by omega)) 8
def DY (l:List UInt8):Nat:=l.foldl (fun x c=>Mi x c.toNat) 4294967295
theorem NC (l:List UInt8):DY l<4294967296:=by
 unfold DY
 have:∀ (l:List UInt8) (x:Nat),x<4294967296→l.foldl (fun x c=>Mi x c.toNat) x<4294967296:=by
  intro l
  induction l with
  | nil=>intro x h; exact h
  | cons c l ih=>intro x h; exact ih _ (Oq h c.toNat_lt)
 exact this l _ (by omega)
def jV (l:List UInt8):Nat:=4294967295 - DY l
theorem AZ (x:Nat) (hx:x<4294967296):bits .xor .u32 ((x:Int) / 2) (bits .and .u32 (x:Int) 1*3988292384)=((C7 x:Nat):Int)∧0≤bits .and .u32 (x:Int) 1∧bits .and .u32 (x:Int) 1≤1:=by
 have e1:bits .and .u32 (x:Int) 1=((x % 2:Nat):Int):=by
  rw [show (1:Int)=((1:Nat):Int) from rfl,u32_and_nat x 1 hx (by omega),nat_mask1]
 rw [e1]
 refine⟨?_,by omega,by omega⟩
 have e2:((x % 2:Nat):Int)*3988292384=((x % 2*3988292384:Nat):Int):=by rw [Int.natCast_mul]; rfl
 have e3:(x:Int) / 2=((x / 2:Nat):Int):=by omega
 rw [e2,e3,u32_xor_nat _ _ (by omega) (by have:x % 2<2:=Nat.mod_lt _ (by omega); omega)]
 rfl
theorem ND (x c:Nat) (hc:c<256):bits .xor .u8 ((x:Int) % 256) (c:Int)=(((x % 256) ^^^ c:Nat):Int)∧(x % 256) ^^^ c<256:=by
 have e:(x:Int) % 256=((x % 256:Nat):Int):=by omega
 rw [e,u8_xor_nat _ _ (by omega) hc]
 exact⟨rfl,Nat.xor_lt_two_pow (n:=8) (by omega) (by omega)⟩
theorem CB (x y:Nat) (hx:x<4294967296) (hy:y<256):bits .xor .u32 ((x:Int) / 256) ((nX 8 y:Nat):Int)=((x / 256 ^^^ nX 8 y:Nat):Int):=by
 have e:(x:Int) / 256=((x / 256:Nat):Int):=by omega
 rw [e,u32_xor_nat _ _ (by omega) (yj (by omega) 8)]
theorem Jm (l:List UInt8) (c:UInt8):DY (l ++ [c])=Mi (DY l) c.toNat:=by simp [DY]
theorem Ai (a:Nat) (h:a<4294967296):a ^^^ 4294967295=4294967295 - a:=by
 have e:BitVec.ofNat 32 a ^^^ BitVec.allOnes 32 = ~~~ BitVec.ofNat 32 a:=BitVec.xor_allOnes
 have e2:=congrArg BitVec.toNat e
 simp only [BitVec.toNat_xor,BitVec.toNat_not,BitVec.toNat_ofNat,BitVec.toNat_allOnes] at e2
 rw [Nat.mod_eq_of_lt (by omega)] at e2
 simpa using e2
theorem NE (x:Nat) (hx:x<4294967296):bits .xor .u32 IntKind.u32.max (x:Int)=((4294967295 - x:Nat):Int):=by
 have e:IntKind.u32.max=((4294967295:Nat):Int):=rfl
 rw [e,u32_xor_nat _ _ (by omega) hx,Nat.xor_comm,Ai x hx]
end Go.Proofs.YtcpgnjmaampglaaGreatDoor
