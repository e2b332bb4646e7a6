/- Of the proof of a statement: Lease, RowsL. -/
import Derived.Deep.QuietTactic
import Derived.BigQuiet
import Derived.Lib.QuietBelow
import Derived.Test.YtoeejfhdjmkpcaaGreatDoorTRdr
set_option linter.unusedVariables false
set_option linter.unusedSimpArgs false
set_option maxRecDepth 100000
set_option maxHeartbeats 8000000
/- The walk of lease: one lease against the tables. -/
namespace Go.Proofs.YtoeejfhdjmkpcaaGreatDoor
open Go.Lib (hid)
open Go.RowKit
def nG (l:List aD) (s:ByteArray):Option Value:=(cP l s).map fun j=>.agg (aL j).toArray
def kS (l:List aA) (s:ByteArray):Option Value:=(cL l s).map fun n=>.agg (aC n).toArray
structure gB (w:World) (T b1 b2 b3 n1 n2 n3:Nat) (g1 g2 g3:ByteArray→Option Value):Prop where
 t:Blk w T 324 #[.map (some b1),.map (some b2),.map (some b3)]
 m1:dF w b1 n1 g1
 m2:dF w b2 n2 g2
 m3:dF w b3 n3 g3
theorem GK (w:World):(zeroValue 34).run Tryz.prog w = .ok (.agg #[.string ⟨#[]⟩,.int .i64 0,.int .i64 0,.int .i64 0,.string ⟨#[]⟩]) w:=by kernel_rfl
theorem Fb (w:World):(zeroValue 36).run Tryz.prog w = .ok (.agg #[.string ⟨#[]⟩,.int .i64 0,.string ⟨#[]⟩]) w:=by kernel_rfl
theorem BJ (w:World):(zeroValue 3).run Tryz.prog w = .ok (.int .i64 0) w:=by kernel_rfl
theorem CZ (l:List aD) (s:ByteArray):∃ (j:aD),(nG l s).getD (.agg #[.string ⟨#[]⟩,.int .i64 0,.int .i64 0,.int .i64 0,.string ⟨#[]⟩]) = .agg #[.string j.name,.int .i64 j.prio,.int .i64 j.need,.int .i64 j.tries,.string j.tag]∧(nG l s).isSome=(cP l s).isSome∧(∀ x,cP l s=some x→x=j):=by
 unfold nG
 cases h:cP l s with
 | none=>exact⟨⟨⟨#[]⟩,0,0,0,⟨#[]⟩⟩,rfl,rfl,fun x e=>by cases e⟩
 | some j=>exact⟨j,rfl,rfl,fun x e=>by injection e with e; exact e.symm⟩
theorem Bh (l:List aA) (s:ByteArray):∃ (n:aA),(kS l s).getD (.agg #[.string ⟨#[]⟩,.int .i64 0,.string ⟨#[]⟩]) = .agg #[.string n.name,.int .i64 n.room,.string n.zone]∧(kS l s).isSome=(cL l s).isSome:=by
 unfold kS
 cases h:cL l s with
 | none=>exact⟨⟨⟨#[]⟩,0,⟨#[]⟩⟩,rfl,rfl⟩
 | some n=>exact⟨n,rfl,rfl⟩
def mD (g:ByteArray→Option Value) (U:ByteArray→Int):Prop:=∀ s,(g s).getD (.int .i64 0) = .int .i64 (U s)
def oz (st:ah) (l:ak) (b3 n3:Nat) (U:ByteArray→Int) (w:World) (e:Ending) (w':World):Prop:=
 e = .returned (.int .i64 (gC st l))∧w.grownBy w' (some b3)∧(gC st l=0→∃ g,dF w' b3 (n3+1) g∧mD g (fun s=>U s+fU st l s))
theorem oz.six {st:ah} {l:ak} {b3 n3:Nat} {U:ByteArray→Int} {w w':World} (h:gC st l=6) (hb:Below w.heap.size w w'):oz st l b3 n3 U w (.returned (.int .i64 6)) w':=
 ⟨by rw [h],fY (World.grownBy.refl w _) hb,fun e=>by rw [h] at e; cases e⟩
theorem C0 (st:ah) (l:ak) (w:World) (T b1 b2 b3 n1 n2 n3:Nat) (g3:ByteArray→Option Value) (U:ByteArray→Int) (h1:l.job.size≤maxLen) (h2:l.node.size≤maxLen) (hn3:n3≤1000)
 (zP:∀ j ∈ st.jobs,0≤j.need∧j.need≤1000000) (hU:mD g3 U) (hU0:∀ s,0≤U s∧U s≤1000000000)
 (ht:gB w T b1 b2 b3 n1 n2 n3 (nG st.jobs) (kS st.nodes) g3) :
 Calls Tryz.prog 235 #[.pointer (some ⟨T,0,none⟩),.agg (av l).toArray] w (oz st l b3 n3 U w):=by
 have G7:=hid (fun (h:gC st l=6) w'=>oz.six (b3:=b3) (n3:=n3) (U:=U) (w:=w) (w':=w') h)
 obtain⟨j,hj1,hj2,hj3⟩:=CZ st.jobs l.job
 obtain⟨n,hn1,hn2⟩:=Bh st.nodes l.node
 have hE:gC st l=if (cP st.jobs l.job).isSome && (cL st.nodes l.node).isSome then (if ranged l.till 0 1099511627776 then 0 else 1) else 6:=rfl
 have HE:=hid hE
 have hN:∀ s,(cP st.jobs l.job).isSome=true→fU st l s=if l.node=s then j.need else 0:=by
  intro s hs
  unfold fU
  cases hx:cP st.jobs l.job with
  | none=>rw [hx] at hs; cases hs
  | some x=>rw [hj3 x hx]
 have hjn:(cP st.jobs l.job).isSome=true→0≤j.need∧j.need≤1000000:=by
  intro hs
  cases hx:cP st.jobs l.job with
  | none=>rw [hx] at hs; cases hs
  | some x=>rw [← hj3 x hx]; exact zP x (List.mem_of_find?_eq_some hx)
 have HN:=hid hN
 have Hjn:=hid hjn
 generalize (cP st.jobs l.job).isSome=bj at hj2 HE HN Hjn
 generalize (cL st.nodes l.node).isSome=bn at hn2 HE
 clear hE hj3 zP hN hjn
 have hnd:l.node=l.node:=rfl
 obtain⟨L,hL⟩:∃ L,L=l:=⟨_,rfl⟩
 have HL:=hid hL
 clear hL
 obtain⟨job,node,till⟩:=l
 unfold av
 simp only at h1 h2 hj1 hj2 hn1 hn2 ⊢
 obtain⟨jn,jp,jd,jt,jg⟩:=j
 obtain⟨nn,nr,nz⟩:=n
 simp only at hj1 hn1 Hjn HN
 have hTl:=ht.t.lt
 have z0:w.cell? ⟨T,0,none⟩=some (.map (some b1)):=ht.t.cell 0
 have z1:w.cell? ⟨T,1,none⟩=some (.map (some b2)):=ht.t.cell 1
 have z2:w.cell? ⟨T,2,none⟩=some (.map (some b3)):=ht.t.cell 2
 have hb0:=(Below.refl w.heap.size w).alloc (Nat.le_refl _) (.cells #[.string job,.string node,.int .i64 till] 38)
 have hb1:=hb0.alloc hb0.size (.cells #[.string jn,.int .i64 jp,.int .i64 jd,.int .i64 jt,.string jg] 34)
 have hb2:=hb1.alloc hb1.size (.cells #[.string nn,.int .i64 nr,.string nz] 36)
 have M1:∀ W,Below w.heap.size w W→(Instr.lookup 260 (.map (some b1)) (.string job) true).run Tryz.prog W = .ok (.tuple #[.agg #[.string jn,.int .i64 jp,.int .i64 jd,.int .i64 jt,.string jg],.bool bj]) W:=fun W hW=>by
  rw [(ht.m1.below hW ht.m1.lt).look_ok Tryz.underlying260 (GK W) job h1,hj1,hj2]
 have M2:∀ W,Below w.heap.size w W→(Instr.lookup 268 (.map (some b2)) (.string node) true).run Tryz.prog W = .ok (.tuple #[.agg #[.string nn,.int .i64 nr,.string nz],.bool bn]) W:=fun W hW=>by
  rw [(ht.m2.below hW ht.m2.lt).look_ok Tryz.underlying268 (Fb W) node h2,hn1,hn2]
 have r0:=M1 _ (hb0.drew)
 have r1:=fun o=>M1 _ ((hb0.alloc hb0.size o).drew)
 have r2:=M2 _ (hb1.drew.drew)
 have r3:=fun o=>M2 _ ((hb1.alloc hb1.size o).drew.drew)
 have h3:=(ht.m3.below hb2.drew.drew.drew ht.m3.lt).look Tryz.underlying322 (BJ _) node h2
 rw [hU node] at h3
 obtain⟨w5,hput,hm5,hg5⟩:=(ht.m3.below hb2.drew.drew.drew ht.m3.lt).put Tryz.underlying322 (by unfold maxLen; omega) node h2 (.int .i64 (U node+jd))
 have hu0:=hU0 node
 have HG5:=hid hg5
 have HM5:=hid hm5
 have HUm:=hid hU
 have HB2:=hid hb2.drew.drew
 have HB3:=hid hb2.drew.drew.drew
 have x1:((w.alloc (.cells #[.string job,.string node,.int .i64 till] 38)).alloc (.cells #[.string jn,.int .i64 jp,.int .i64 jd,.int .i64 jt,.string jg] 34)).cell? ⟨w.heap.size,1,none⟩=some (.string node):=by simp [go_sem]
 have p1:=(hb1.cell (p:=⟨T,1,none⟩) hTl).trans z1
 have p2:=fun o=>((hb1.alloc hb1.size o).cell (p:=⟨T,1,none⟩) hTl).trans z1
 have p3:=fun (o:Obj)=>(((Below.refl _ _).alloc (Nat.le_refl _) o).cell (p:=⟨w.heap.size,1,none⟩) (show w.heap.size<((w.alloc (.cells #[.string job,.string node,.int .i64 till] 38)).alloc (.cells #[.string jn,.int .i64 jp,.int .i64 jd,.int .i64 jt,.string jg] 34)).heap.size by simp; omega)).trans x1
 have q1:=(hb2.cell (p:=⟨T,2,none⟩) hTl).trans z2
 have x2:(((w.alloc (.cells #[.string job,.string node,.int .i64 till] 38)).alloc (.cells #[.string jn,.int .i64 jp,.int .i64 jd,.int .i64 jt,.string jg] 34)).alloc (.cells #[.string nn,.int .i64 nr,.string nz] 36)).cell? ⟨w.heap.size,2,none⟩=some (.int .i64 till):=by simp [go_sem]
 have x3:(((w.alloc (.cells #[.string job,.string node,.int .i64 till] 38)).alloc (.cells #[.string jn,.int .i64 jp,.int .i64 jd,.int .i64 jt,.string jg] 34)).alloc (.cells #[.string nn,.int .i64 nr,.string nz] 36)).cell? ⟨w.heap.size+1,2,none⟩=some (.int .i64 jd):=by simp [go_sem]
 have hb3:=ht.m3.lt
 have hx2:w5.cell? ⟨w.heap.size,2,none⟩=some (.int .i64 till):=hg5.cell x2 (by simp; omega)
 have HX2:=hid hx2
 clear M1 M2 ht hb0 hb1 hb2 hg5 hm5 hU hU0 hx2 x2
 go_enter Tryz.func235,Tryz.ntmps235
 go_wp2
 go_region
 clear r0 r1
 go_wp2
 go_region
 clear r2 r3 p1 p2 p3 x1
 cases bj
 · have hE6:=hid (G7.out (by rw [HE.out]; rfl))
   clear hput h3
   go_wp2
   go_ret
   exact hE6.out _ HB2.out
 cases bn
 · have hE6:=hid (G7.out (by rw [HE.out]; rfl))
   clear hput h3
   go_wp2
   go_ret
   exact hE6.out _ HB2.out
 have hjd:=Hjn.out rfl
 go_wp2
 go_region
 clear hput h3 q1 x3
 have hx2:=HX2.out
 have hend:=hid (show w.grownBy w5 (some b3)∧∃ g,dF w5 b3 (n3+1) g∧mD g (fun s=>U s+fU st ⟨job,node,till⟩ s) from
  ⟨(fY (World.grownBy.refl w _) HB3.out).trans HG5.out,_,HM5.out,fun s=>by
   show _=Value.int .i64 (U s+fU st ⟨job,node,till⟩ s)
   rw [HN.out s trivial]
   by_cases hs:s=node
   · subst hs
     rw [if_pos rfl,if_pos rfl]; rfl
   · rw [if_neg hs,if_neg (fun e=>hs e.symm),HUm.out s,Int.add_zero]⟩)
 clear HG5 HM5 HN HUm HB3
 go_wp2_with fail
 refine Calls.mono (iK _ _ _ _) ?_
 rintro e w6 ⟨rfl,rfl⟩
 cases hr:ranged till 0 1099511627776
 · go_wp2
   go_ret
   exact⟨bg (by rw [HE.out,hr]; rfl),hend.out.1,fun _=>hend.out.2⟩
 · go_wp2
   go_ret
   exact⟨bg (by rw [HE.out,hr]; rfl),hend.out.1,fun _=>hend.out.2⟩
end Go.Proofs.YtoeejfhdjmkpcaaGreatDoor
/- The walk of Rows at leases, against the tables. -/
namespace Go.Proofs.YtoeejfhdjmkpcaaGreatDoor
open Go.Lib (hid)
open Go.RowKit
theorem dM (job node:ByteArray) (till:Int) (w:World):Calls Tryz.prog 87 #[.agg #[.string job,.string node,.int .i64 till]] w fun e w'=>e = .returned (.string job)∧Below w.heap.size w w':=by
 have HB:=hid ((Below.refl w.heap.size w).alloc (Nat.le_refl _) (.cells #[.string job,.string node,.int .i64 till] 38))
 go_enter Tryz.func87,Tryz.ntmps87
 go_wp2
 go_ret
 exact⟨rfl,HB.out⟩
def iS (xs:List ak):Prop:=∀ x ∈ xs,x.job.size≤9223372036854775807∧x.node.size≤9223372036854775807
section
variable {w w':World} {B sz n g:Nat} {A:Option Addr} {xs:List Value}
theorem aW.but (h:aW w B sz A n xs) (hg:w.grownBy w' (some g)) (hB:B≤g):aW w' B sz A n xs:=
 ⟨h.len,fun hn=>by
  obtain⟨b,off,e,hb,hr⟩:=h.at_ hn
  exact⟨b,off,e,hb,fun j u hu=>hg.cell (hr j u hu) (by simp; omega)⟩⟩
end
section
variable {w w':World} {T b1 b2 b3 n1 n2 n3 m:Nat} {g1 g2 g3 g:ByteArray→Option Value}
theorem gB.below (h:gB w T b1 b2 b3 n1 n2 n3 g1 g2 g3) (hb:Below w.heap.size w w'):gB w' T b1 b2 b3 n1 n2 n3 g1 g2 g3:=
 ⟨h.t.below hb h.t.lt,h.m1.below hb h.m1.lt,h.m2.below hb h.m2.lt,h.m3.below hb h.m3.lt⟩
theorem gB.used (h:gB w T b1 b2 b3 n1 n2 n3 g1 g2 g3) (hg:w.grownBy w' (some b3)) (h1:b1≠b3) (h2:b2≠b3) (h3:T≠b3) (hm:dF w' b3 m g):gB w' T b1 b2 b3 n1 n2 m g1 g2 g:=
 ⟨(hg.block T h.t.lt (by simp [h3])).trans h.t,h.m1.but hg h1,h.m2.but hg h2,hm⟩
end
def Jl (st:ah) (n:Nat) (R:Int) (w:World) (T b1 b2 b3 n1 n2:Nat) (i:Value) (wr:World):Prop:=
 ∃ (k:Nat) (g3:ByteArray→Option Value),k≤n∧i = .int .i64 k∧dI (gC st) ak.job (prevK ak.job st.leases k) (st.leases.drop k)=R∧w.grownBy wr (some b3) ∧
  gB wr T b1 b2 b3 n1 n2 k (nG st.jobs) (kS st.nodes) g3∧mD g3 (fun s=>fO st s (st.leases.take k))
def IN (st:ah) (n:Nat) (R:Int) (b3:Nat) (w:World) (e:Ending) (w':World):Prop:=
 e = .returned (.int .i64 R)∧w.grownBy w' (some b3)∧(R=0→∃ g,dF w' b3 n g∧mD g (qm st))
theorem vC (st:ah) (A:Option Addr) (n c:Nat) (w:World) (T b1 b2 b3 n1 n2:Nat) (g3:ByteArray→Option Value) (hx:aW w b3 3 A n (au av st.leases)) (hl:st.leases.length=n) (hn:n≤40) (hok:iS st.leases)
 (zP:qy st) (h1:b1≠b3) (h2:b2≠b3) (h3:T≠b3) (hu:mD g3 (fun _=>0)) (ht:gB w T b1 b2 b3 n1 n2 0 (nG st.jobs) (kS st.nodes) g3) :
 Calls Tryz.prog 159 #[.slice A n c,.func (.func 87) #[] #[],.func (.func 235) #[.pointer (some ⟨T,0,none⟩)] #[]] w (IN st n (cE (gC st) ak.job st.leases) b3 w):=by
 obtain⟨R,hR⟩:∃ R,cE (gC st) ak.job st.leases=R:=⟨_,rfl⟩
 rw [hR]
 have HR:=hid hR
 have Hl:=hid hl
 have Hok:=hid hok
 have G8:=hid zP
 have H0:=hid (And.intro hu ht)
 clear hl hR hok zP hu ht
 go_enter Tryz.func159,Tryz.ntmps159
 go_wp2
 go_loopw [6,7,8,9,12,19,28,35] (fun _ _ _ _ i _ _ _ wr=>Jl st n R w T b1 b2 b3 n1 n2 i wr) (fun _ _ _ _ i _ _ _ _=>n - (intOf i).toNat)
 case atStart=>exact⟨0,g3,Nat.zero_le _,rfl,by rw [← HR.out]; rfl,World.grownBy.refl w _,H0.out.2,by rw [List.take_zero]; exact H0.out.1⟩
 case round=>
  obtain⟨k,g,hk,rfl,hrow,hg,hta,hua⟩:=hrel
  have dX:=hid hrow
  have Hg:=hid hg
  have Hta:=hid hta
  have Hua:=hid hua
  have hsz:=hg.size
  have hb3l:=hta.m3.lt
  have hxr:=hx.but hg (Nat.le_refl _)
  clear hrow hta hua hg
  by_cases hlt:k<n
  · obtain⟨x,hf⟩:∃ x,st.leases[k]? = some x:=⟨_,List.getElem?_eq_getElem (by rw [Hl.out]; exact hlt)⟩
    obtain⟨b,off,rfl,hbB,hc⟩:=hxr.cV aE Hl.out hf
    have hso:=hid (Hok.out x (List.mem_of_getElem? hf))
    have hstep:=hid (fun s=>AY st s hf)
    have hbnd:=hid (fun s=>rZ G8.out s (st.leases.take k))
    have hbl:(st.leases.take k).length≤40:=by rw [List.length_take]; omega
    have Hf:=hid hf
    obtain⟨E,hE⟩:∃ E,gC st x=E:=⟨_,rfl⟩
    have HE:=hid hE
    obtain⟨job,node,till⟩:=x
    obtain⟨c0,c1,c2⟩:=rc3 hc
    clear hc hf hE
    have hlb:b<wr.heap.size:=by omega
    have hA0:=(Below.refl wr.heap.size wr).alloc (Nat.le_refl _) (.cells #[.string job,.string node,.int .i64 till] 38)
    have HA0:=hid hA0
    have hpre:=hid (show ∀ s,0≤fO st s (st.leases.take k)∧fO st s (st.leases.take k)≤1000000000 from fun s=>by have:=hbnd.out s; omega)
    have hcon:=hid (C0 st ⟨job,node,till⟩ _ T b1 b2 b3 n1 n2 k g _ hso.out.1 hso.out.2 (by omega) G8.out Hua.out hpre.out (Hta.out.below hA0))
    clear hA0
    go_wp2_with fail
    refine Calls.mono hcon.out ?_
    rintro e w1 ⟨rfl,hg1,hz1⟩
    rw [HE.out]
    rw [HE.out] at hz1
    have hz:=hid hz1
    have hG1:=hid hg1
    have hGa:=hid ((fY (World.grownBy.refl wr (some b3)) HA0.out).trans hg1)
    have hB1:=hid (Hg.out.trans hGa.out)
    have hsz1:=hg1.size
    have hgl:wr.heap.size<w1.heap.size:=by simp at hsz1; omega
    clear hcon hz1 hsz1
    by_cases he:E=0
    · subst he
      have l0:∀ d os,(Sort.grow (redrawn w1 d) os).cell? ⟨wr.heap.size,0,none⟩=some (.string job):=fun d os=>cell_regrown (hg1.cell (by simp [go_sem]) (by simp; omega)) d os
      have l1:∀ d os,(Sort.grow (redrawn w1 d) os).cell? ⟨wr.heap.size,1,none⟩=some (.string node):=fun d os=>cell_regrown (hg1.cell (by simp [go_sem]) (by simp; omega)) d os
      have l2:∀ d os,(Sort.grow (redrawn w1 d) os).cell? ⟨wr.heap.size,2,none⟩=some (.int .i64 till):=fun d os=>cell_regrown (hg1.cell (by simp [go_sem]) (by simp; omega)) d os
      obtain⟨g',hm',hu'⟩:=hz.out rfl
      have hnext:=hid (And.intro (Hta.out.used hGa.out h1 h2 h3 hm') (show mD g' (fun s=>fO st s (st.leases.take (k+1))) from fun s=>(hu' s).trans (congrArg (Value.int .i64) (hstep.out s).symm)))
      clear hm' hu'
      by_cases hk0:k=0
      · subst hk0
        have hst:=hid (iN (key:=ak.job) Hf.out HE.out (.inl rfl))
        clear c0 c1 c2 hx hxr hg1
        go_wp2_with fail
        refine wp_region_quiet_below (by kernel_rfl) (by kernel_rfl) ?_
        repeat (go_big_quiet_step (fail))
        refine wpQuiet_nil ?_
        intro _ hw'
        obtain⟨⟨nq,osq⟩,hw''⟩:=hw'
        subst hw''
        have hb2:=hid (below_regrown w1 nq osq)
        clear l0 l1 l2
        dsimp only
        generalize Sort.grow (redrawn w1 nq) osq=w2 at hb2 ⊢
        go_wp2
        go_roundw
        case rel=>exact⟨1,g',by omega,by go_num,by rw [← hst.out]; exact dX.out,fY hB1.out hb2.out,hnext.out.1.below hb2.out,hnext.out.2⟩
        case measure=>simp [intOf]; omega
      · obtain⟨y,hy⟩:∃ y,st.leases[k - 1]? = some y:=⟨_,List.getElem?_eq_getElem (by rw [Hl.out]; omega)⟩
        obtain⟨b',off',hbo,oY,hp⟩:=hxr.cV aE Hl.out hy
        obtain⟨rfl,rfl⟩:b=b'∧off=off':=by simpa using hbo
        have Hy:=hid hy
        obtain⟨pG,E8,E9⟩:=y
        obtain⟨q0,q1,q2⟩:=rc3 hp
        have hbne:(some b:Option Nat)≠some b3:=by simp; omega
        have p0:∀ d os,(Sort.grow (redrawn w1 d) os).cell? ⟨b,off+(k - 1)*3,none⟩=some (.string pG):=fun d os=>cell_regrown (hGa.out.cell q0 hbne) d os
        have p1:∀ d os,(Sort.grow (redrawn w1 d) os).cell? ⟨b,off+(k - 1)*3+1,none⟩=some (.string E8):=fun d os=>cell_regrown (hGa.out.cell q1 hbne) d os
        have p2:∀ d os,(Sort.grow (redrawn w1 d) os).cell? ⟨b,off+(k - 1)*3+2,none⟩=some (.int .i64 E9):=fun d os=>cell_regrown (hGa.out.cell q2 hbne) d os
        clear q0 q1 q2 c0 c1 c2 hp hy hx hxr hg1 hbne
        have hkp:decide ((0:Int)<(k:Int))=true:=decide_eq_true (by omega)
        have hkn:0<k:=by omega
        have hlt2:=hid (dL pG.toList job.toList)
        obtain⟨B,hB⟩:∃ B,Op.bytesLess pG.toList job.toList=B:=⟨_,rfl⟩
        have HL:=hid hB
        cases B
        · have e1:(Op.bytesLess job.toList pG.toList || job.toList == pG.toList)=true:=by rw [← hlt2.out,hB]; rfl
          have hst:=hid (mE (key:=ak.job) Hf.out HE.out hk0 Hy.out HL.out)
          clear hB
          go_wp2_with fail
          refine wp_region_quiet_below (by kernel_rfl) (by kernel_rfl) ?_
          repeat (go_big_quiet_step ((go_at_call 87; exact Calls.regrown_of (dM _ _ _ _))))
          refine wpQuiet_nil ?_
          intro _ hw'
          obtain⟨⟨nq,osq⟩,hw''⟩:=hw'
          subst hw''
          have hb2:=hid (below_regrown w1 nq osq)
          clear l0 l1 l2 p0 p1 p2
          dsimp only
          generalize Sort.grow (redrawn w1 nq) osq=w2 at hb2 ⊢
          go_wp2
          go_ret
          have h8:=dX.out
          rw [hst.out] at h8
          exact⟨bg h8,fY hB1.out hb2.out,fun h=>by omega⟩
        · have e1:(Op.bytesLess job.toList pG.toList || job.toList == pG.toList)=false:=by rw [← hlt2.out,hB]; rfl
          have hst:=hid (iN (key:=ak.job) Hf.out HE.out (.inr ⟨_,Hy.out,HL.out⟩))
          clear hB
          go_wp2_with fail
          refine wp_region_quiet_below (by kernel_rfl) (by kernel_rfl) ?_
          repeat (go_big_quiet_step ((go_at_call 87; exact Calls.regrown_of (dM _ _ _ _))))
          refine wpQuiet_nil ?_
          intro _ hw'
          obtain⟨⟨nq,osq⟩,hw''⟩:=hw'
          subst hw''
          have hb2:=hid (below_regrown w1 nq osq)
          clear l0 l1 l2 p0 p1 p2
          dsimp only
          generalize Sort.grow (redrawn w1 nq) osq=w2 at hb2 ⊢
          go_wp2
          go_roundw
          case rel=>exact⟨k+1,g',by omega,by go_num,by rw [← hst.out]; exact dX.out,fY hB1.out hb2.out,hnext.out.1.below hb2.out,hnext.out.2⟩
          case measure=>simp [intOf]; omega
    · have hst:=hid (qp (E:=gC st) (key:=ak.job) Hf.out (by rw [HE.out]; exact he))
      have e1:(E == 0)=false:=beq_eq_false_iff_ne.2 he
      have e2:(E != 0)=true:=bne_iff_ne.2 he
      clear c0 c1 c2 hx hxr hg1
      go_wp2
      go_ret
      have h8:=dX.out
      rw [hst.out,HE.out] at h8
      exact⟨bg h8,hB1.out,fun h=>absurd (h8.trans h) he⟩
  · obtain rfl:k=n:=by omega
    have fin:=hid (show R=0 by rw [← dX.out]; exact qw (by rw [Hl.out]; exact Nat.le_refl _) _)
    have hlast:=hid (show mD g (qm st) from fun s=>by
     have:=Hua.out s
     rw [List.take_of_length_le (by rw [Hl.out]; exact Nat.le_refl _)] at this
     exact this)
    clear hx hxr
    go_wp2
    go_ret
    exact⟨bg fin.out.symm,Hg.out,fun _=>⟨g,Hta.out.m3,hlast.out⟩⟩
end Go.Proofs.YtoeejfhdjmkpcaaGreatDoor
