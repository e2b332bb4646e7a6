/- Of the proof of a statement: Lease, Rdr. -/
import Derived.Deep.QuietTactic
import Derived.BigQuiet
import Derived.Test.YtoeejfhdjmkpcaaGreatDoorURecs
set_option linter.unusedVariables false
set_option linter.unusedSimpArgs false
set_option maxRecDepth 100000
set_option maxHeartbeats 8000000
/- The walk of lease: one lease against the tables. -/
namespace Go.Proofs.YtoeejfhdjmkpcaaGreatDoor
open Go.Lib (hid)
open Go.RowKit
def pU (l:List aA) (s:ByteArray):Option Value:=(dA l s).map fun j=>.agg (aJ j).toArray
def mJ (l:List av) (s:ByteArray):Option Value:=(dh l s).map fun n=>.agg (aB n).toArray
structure gV (w:World) (T b1 b2 b3 n1 n2 n3:Nat) (g1 g2 g3:ByteArray→Option Value):Prop where
 t:Blk w T 324 #[.map (some b1),.map (some b2),.map (some b3)]
 m1:bX w b1 n1 g1
 m2:bX w b2 n2 g2
 m3:bX w b3 n3 g3
theorem KT (w:World):(zeroValue 34).run Tryz.prog w = .ok (.agg #[.string ⟨#[]⟩,.int .i64 0,.int .i64 0,.int .i64 0,.string ⟨#[]⟩]) w:=by kernel_rfl
theorem I9 (w:World):(zeroValue 36).run Tryz.prog w = .ok (.agg #[.string ⟨#[]⟩,.int .i64 0,.string ⟨#[]⟩]) w:=by kernel_rfl
theorem ED (w:World):(zeroValue 3).run Tryz.prog w = .ok (.int .i64 0) w:=by kernel_rfl
theorem F0 (l:List aA) (s:ByteArray):∃ (j:aA),(pU l s).getD (.agg #[.string ⟨#[]⟩,.int .i64 0,.int .i64 0,.int .i64 0,.string ⟨#[]⟩]) = .agg #[.string j.name,.int .i64 j.prio,.int .i64 j.need,.int .i64 j.tries,.string j.tag]∧(pU l s).isSome=(dA l s).isSome∧(∀ x,dA l s=some x→x=j):=by
 unfold pU
 cases h:dA l s with
 | none=>exact⟨⟨⟨#[]⟩,0,0,0,⟨#[]⟩⟩,rfl,rfl,fun x e=>by cases e⟩
 | some j=>exact⟨j,rfl,rfl,fun x e=>by injection e with e; exact e.symm⟩
theorem DT (l:List av) (s:ByteArray):∃ (n:av),(mJ l s).getD (.agg #[.string ⟨#[]⟩,.int .i64 0,.string ⟨#[]⟩]) = .agg #[.string n.name,.int .i64 n.room,.string n.zone]∧(mJ l s).isSome=(dh l s).isSome:=by
 unfold mJ
 cases h:dh l s with
 | none=>exact⟨⟨⟨#[]⟩,0,⟨#[]⟩⟩,rfl,rfl⟩
 | some n=>exact⟨n,rfl,rfl⟩
def oA (g:ByteArray→Option Value) (U:ByteArray→Int):Prop:=∀ s,(g s).getD (.int .i64 0) = .int .i64 (U s)
def qH (st:ak) (l:ah) (b3 n3:Nat) (U:ByteArray→Int) (w:World) (e:Ending) (w':World):Prop:=
 e = .returned (.int .i64 (fN st l))∧w.grownBy w' (some b3)∧(fN st l=0→∃ g,bX w' b3 (n3+1) g∧oA g (fun s=>U s+gH st l s))
theorem qH.six {st:ak} {l:ah} {b3 n3:Nat} {U:ByteArray→Int} {w w':World} (h:fN st l=6) (hb:Below w.heap.size w w'):qH st l b3 n3 U w (.returned (.int .i64 6)) w':=
 ⟨by rw [h],gQ (World.grownBy.refl w _) hb,fun e=>by rw [h] at e; cases e⟩
theorem F1 (st:ak) (l:ah) (w:World) (T b1 b2 b3 n1 n2 n3:Nat) (g3:ByteArray→Option Value) (U:ByteArray→Int) (h1:l.job.size≤maxLen) (h2:l.node.size≤maxLen) (hn3:n3≤1000)
 (Cr:∀ j ∈ st.jobs,0≤j.need∧j.need≤1000000) (hU:oA g3 U) (hU0:∀ s,0≤U s∧U s≤1000000000)
 (ht:gV w T b1 b2 b3 n1 n2 n3 (pU st.jobs) (mJ st.nodes) g3) :
 Calls Tryz.prog 235 #[.pointer (some ⟨T,0,none⟩),.agg (ay l).toArray] w (qH st l b3 n3 U w):=by
 have Lr:=hid (fun (h:fN st l=6) w'=>qH.six (b3:=b3) (n3:=n3) (U:=U) (w:=w) (w':=w') h)
 obtain⟨j,hj1,hj2,hj3⟩:=F0 st.jobs l.job
 obtain⟨n,hn1,hn2⟩:=DT st.nodes l.node
 have hE:fN st l=if (dA st.jobs l.job).isSome && (dh st.nodes l.node).isSome then (if ranged l.till 0 1099511627776 then 0 else 1) else 6:=rfl
 have HE:=hid hE
 have hN:∀ s,(dA st.jobs l.job).isSome=true→gH st l s=if l.node=s then j.need else 0:=by
  intro s hs
  unfold gH
  cases hx:dA st.jobs l.job with
  | none=>rw [hx] at hs; cases hs
  | some x=>rw [hj3 x hx]
 have hjn:(dA st.jobs l.job).isSome=true→0≤j.need∧j.need≤1000000:=by
  intro hs
  cases hx:dA st.jobs l.job with
  | none=>rw [hx] at hs; cases hs
  | some x=>rw [← hj3 x hx]; exact Cr x (List.mem_of_find?_eq_some hx)
 have HN:=hid hN
 have Hjn:=hid hjn
 generalize (dA st.jobs l.job).isSome=bj at hj2 HE HN Hjn
 generalize (dh st.nodes l.node).isSome=bn at hn2 HE
 clear hE hj3 Cr hN hjn
 have hnd:l.node=l.node:=rfl
 obtain⟨L,hL⟩:∃ L,L=l:=⟨_,rfl⟩
 have HL:=hid hL
 clear hL
 obtain⟨job,node,till⟩:=l
 unfold ay
 simp only at h1 h2 hj1 hj2 hn1 hn2 ⊢
 obtain⟨jn,jp,jd,jt,jg⟩:=j
 obtain⟨nn,nr,nz⟩:=n
 simp only at hj1 hn1 Hjn HN
 have hTl:=ht.t.lt
 have z0:w.cell? ⟨T,0,none⟩=some (.map (some b1)):=ht.t.cell 0
 have z1:w.cell? ⟨T,1,none⟩=some (.map (some b2)):=ht.t.cell 1
 have z2:w.cell? ⟨T,2,none⟩=some (.map (some b3)):=ht.t.cell 2
 have hb0:=(Below.refl w.heap.size w).alloc (Nat.le_refl _) (.cells #[.string job,.string node,.int .i64 till] 38)
 have hb1:=hb0.alloc hb0.size (.cells #[.string jn,.int .i64 jp,.int .i64 jd,.int .i64 jt,.string jg] 34)
 have hb2:=hb1.alloc hb1.size (.cells #[.string nn,.int .i64 nr,.string nz] 36)
 have M1:∀ W,Below w.heap.size w W→(Instr.lookup 260 (.map (some b1)) (.string job) true).run Tryz.prog W = .ok (.tuple #[.agg #[.string jn,.int .i64 jp,.int .i64 jd,.int .i64 jt,.string jg],.bool bj]) W:=fun W hW=>by
  rw [(ht.m1.below hW ht.m1.lt).look_ok Tryz.underlying260 (KT W) job h1,hj1,hj2]
 have M2:∀ W,Below w.heap.size w W→(Instr.lookup 268 (.map (some b2)) (.string node) true).run Tryz.prog W = .ok (.tuple #[.agg #[.string nn,.int .i64 nr,.string nz],.bool bn]) W:=fun W hW=>by
  rw [(ht.m2.below hW ht.m2.lt).look_ok Tryz.underlying268 (I9 W) node h2,hn1,hn2]
 have r0:=M1 _ (hb0.drew)
 have r1:=fun o=>M1 _ ((hb0.alloc hb0.size o).drew)
 have r2:=M2 _ (hb1.drew.drew)
 have r3:=fun o=>M2 _ ((hb1.alloc hb1.size o).drew.drew)
 have h3:=(ht.m3.below hb2.drew.drew.drew ht.m3.lt).look Tryz.underlying322 (ED _) node h2
 rw [hU node] at h3
 obtain⟨w5,hput,hm5,hg5⟩:=(ht.m3.below hb2.drew.drew.drew ht.m3.lt).put Tryz.underlying322 (by unfold maxLen; omega) node h2 (.int .i64 (U node+jd))
 have hu0:=hU0 node
 have HG5:=hid hg5
 have HM5:=hid hm5
 have HUm:=hid hU
 have HB2:=hid hb2.drew.drew
 have HB3:=hid hb2.drew.drew.drew
 have x1:((w.alloc (.cells #[.string job,.string node,.int .i64 till] 38)).alloc (.cells #[.string jn,.int .i64 jp,.int .i64 jd,.int .i64 jt,.string jg] 34)).cell? ⟨w.heap.size,1,none⟩=some (.string node):=by simp [go_sem]
 have p1:=(hb1.cell (p:=⟨T,1,none⟩) hTl).trans z1
 have p2:=fun o=>((hb1.alloc hb1.size o).cell (p:=⟨T,1,none⟩) hTl).trans z1
 have p3:=fun (o:Obj)=>(((Below.refl _ _).alloc (Nat.le_refl _) o).cell (p:=⟨w.heap.size,1,none⟩) (show w.heap.size<((w.alloc (.cells #[.string job,.string node,.int .i64 till] 38)).alloc (.cells #[.string jn,.int .i64 jp,.int .i64 jd,.int .i64 jt,.string jg] 34)).heap.size by simp; omega)).trans x1
 have q1:=(hb2.cell (p:=⟨T,2,none⟩) hTl).trans z2
 have x2:(((w.alloc (.cells #[.string job,.string node,.int .i64 till] 38)).alloc (.cells #[.string jn,.int .i64 jp,.int .i64 jd,.int .i64 jt,.string jg] 34)).alloc (.cells #[.string nn,.int .i64 nr,.string nz] 36)).cell? ⟨w.heap.size,2,none⟩=some (.int .i64 till):=by simp [go_sem]
 have x3:(((w.alloc (.cells #[.string job,.string node,.int .i64 till] 38)).alloc (.cells #[.string jn,.int .i64 jp,.int .i64 jd,.int .i64 jt,.string jg] 34)).alloc (.cells #[.string nn,.int .i64 nr,.string nz] 36)).cell? ⟨w.heap.size+1,2,none⟩=some (.int .i64 jd):=by simp [go_sem]
 have hb3:=ht.m3.lt
 have hx2:w5.cell? ⟨w.heap.size,2,none⟩=some (.int .i64 till):=hg5.cell x2 (by simp; omega)
 have HX2:=hid hx2
 clear M1 M2 ht hb0 hb1 hb2 hg5 hm5 hU hU0 hx2 x2
 go_enter Tryz.func235,Tryz.ntmps235
 go_wp2
 go_region
 clear r0 r1
 go_wp2
 go_region
 clear r2 r3 p1 p2 p3 x1
 cases bj
 · have hE6:=hid (Lr.out (by rw [HE.out]; rfl))
   clear hput h3
   go_wp2
   go_ret
   exact hE6.out _ HB2.out
 cases bn
 · have hE6:=hid (Lr.out (by rw [HE.out]; rfl))
   clear hput h3
   go_wp2
   go_ret
   exact hE6.out _ HB2.out
 have hjd:=Hjn.out rfl
 go_wp2
 go_region
 clear hput h3 q1 x3
 have hx2:=HX2.out
 have hend:=hid (show w.grownBy w5 (some b3)∧∃ g,bX w5 b3 (n3+1) g∧oA g (fun s=>U s+gH st ⟨job,node,till⟩ s) from
  ⟨(gQ (World.grownBy.refl w _) HB3.out).trans HG5.out,_,HM5.out,fun s=>by
   show _=Value.int .i64 (U s+gH st ⟨job,node,till⟩ s)
   rw [HN.out s trivial]
   by_cases hs:s=node
   · subst hs
     rw [if_pos rfl,if_pos rfl]; rfl
   · rw [if_neg hs,if_neg (fun e=>hs e.symm),HUm.out s,Int.add_zero]⟩)
 clear HG5 HM5 HN HUm HB3
 go_wp2_with fail
 refine Calls.mono (jJ _ _ _ _) ?_
 rintro e w6 ⟨rfl,rfl⟩
 cases hr:ranged till 0 1099511627776
 · go_wp2
   go_ret
   exact⟨bA (by rw [HE.out,hr]; rfl),hend.out.1,fun _=>hend.out.2⟩
 · go_wp2
   go_ret
   exact⟨bA (by rw [HE.out,hr]; rfl),hend.out.1,fun _=>hend.out.2⟩
end Go.Proofs.YtoeejfhdjmkpcaaGreatDoor
/- The walks of a Reader. -/
namespace Go.Proofs.YtoeejfhdjmkpcaaGreatDoor
open Go.Lib (hid)
open Go.RowKit
def lT (w:World) (g:Nat) (s:ByteArray) (e:Nat):Prop:=Blk w g 145 #[.string s,.int .i64 (e:Int)]
def RxS (w:World) (g:Nat) (σ:RR Unit):Prop:=match σ with
 | .ok _ s=>lT w g s 0
 | .bad e=>∃ s,s.size≤9223372036854775807∧lT w g s e
def qN:Nat:=9223372036854775807
def AV {α:Type} (g:Nat) (res:RR α) (enc:α→Value) (Z:α→Prop) (w:World) (e:Ending) (w':World):Prop:=
 ∃ a,e = .returned (enc a)∧jc res Z a∧RxS w' g res.st∧w.grownBy w' (some g)
theorem cT (w:World) (g:Nat):w.grownBy w (some g):=⟨rfl,rfl,rfl,Nat.le_refl _,fun _ _ _=>rfl⟩
theorem dI {w w' w'':World} {g:Nat} (h:w.grownBy w' (some g)) (h':w'.grownBy w'' (some g)):w.grownBy w'' (some g):=
 ⟨h'.os.trans h.os,h'.tape.trans h.tape,h'.output.trans h.output,Nat.le_trans h.size h'.size,fun k hk hne=>(h'.block k (Nat.lt_of_lt_of_le hk h.size) hne).trans (h.block k hk hne)⟩
theorem jl {w w':World} (g:Nat) (h:Below w.heap.size w w'):w.grownBy w' (some g):=⟨h.os,h.tape,h.output,h.size,fun k hk _=>h.block k hk⟩
theorem aE {w w':World} {g k:Nat} {t:TypeId} {cs:Array Value} (h:w.grownBy w' (some g)) (hk:Blk w k t cs) (hne:k≠g):Blk w' k t cs:=
 (h.block k hk.lt (by simp; exact hne)).trans hk
theorem lT.set {w:World} {g:Nat} {s:ByteArray} {e:Nat} (h:lT w g s e) (s':ByteArray):lT (w.setCell ⟨g,0,none⟩ (.string s')) g s' e:=Blk.eq (Blk.set h 0 _) (by simp)
theorem lT.err {w:World} {g:Nat} {s:ByteArray} {e:Nat} (h:lT w g s e) (e':Nat):lT (w.setCell ⟨g,1,none⟩ (.int .i64 (e':Int))) g s e':=Blk.eq (Blk.set h 1 _) (by simp)
theorem aD (w:World) (g i:Nat) (v:Value):w.grownBy (w.setCell ⟨g,i,none⟩ v) (some g):=aF (cT w g) i v
theorem nT (g:Nat) (s:ByteArray) (e x:Nat) (w:World) (h:lT w g s x) :
 Calls Tryz.prog 168 #[.pointer (some ⟨g,0,none⟩),.int .i64 (e:Int)] w fun en w'=>en = .returned (.tuple #[])∧lT w' g s (if x=0 then e else x)∧w.grownBy w' (some g):=by
 have y1:w.cell? ⟨g,1,none⟩=some (.int .i64 (x:Int)):=Blk.cell h 1
 have z1:w.frozen? ⟨g,1,none⟩=false:=Blk.thaw h 1
 have hgl:=Blk.lt h
 obtain⟨E',hE'⟩:∃ E',(if x=0 then e else x)=E':=⟨_,rfl⟩
 rw [hE']
 by_cases hx:x=0
 · subst hx
   rw [if_pos rfl] at hE'
   subst hE'
   have H:=hid (h.err e)
   clear h
   go_enter Tryz.func168,Tryz.ntmps168
   go_wp2
   go_end0
   exact⟨rfl,H.out,aD _ _ _ _⟩
 · have hne:((x:Int) == 0)=false:=by rw [beq_eq_false_iff_ne]; omega
   rw [if_neg hx] at hE'
   subst hE'
   have H:=hid h
   clear h hx
   go_enter Tryz.func168,Tryz.ntmps168
   go_wp2
   go_end0
   exact⟨rfl,H.out,cT _ _⟩
theorem Cs (g:Nat) (σ:RR Unit) (w:World) (h:RxS w g σ) (hσ:σ.Good qN) :
 Calls Tryz.prog 167 #[.pointer (some ⟨g,0,none⟩)] w (AV g (σ.bind fun _ s=>cO s) (fun n:Nat=>.int .u64 n) (fun n=>n=0) w):=by
 cases σ with
 | bad x=>
  obtain⟨s,hs,hA⟩:=h
  have y1:w.cell? ⟨g,1,none⟩=some (.int .i64 (x:Int)):=Blk.cell hA 1
  have hne:((x:Int) != 0)=true:=by rw [bne_iff_ne]; have:=hσ.1; omega
  have hA':=hid hA
  clear hA
  go_enter Tryz.func167,Tryz.ntmps167
  go_wp2
  go_ret
  exact⟨0,rfl,rfl,⟨s,hs,hA'.out⟩,cT _ _⟩
 | ok u s=>
  have hA:lT w g s 0:=h
  have hs:s.size≤9223372036854775807:=hσ
  have y0:w.cell? ⟨g,0,none⟩=some (.string s):=Blk.cell hA 0
  have y1:w.cell? ⟨g,1,none⟩=some (.int .i64 0):=Blk.cell hA 1
  have z0:w.frozen? ⟨g,0,none⟩=false:=Blk.thaw hA 0
  rcases hr:rdNum s with ⟨a,k,e⟩
  have hf:=jE hr
  have HA:=hid hA
  have HR:=hid (qy hr w hs)
  by_cases he:e=0
  · subst he
    have hk:=(hf.2.2.2 rfl).2
    by_cases hl:4611686018427387904<a
    · have hres:=hid (yI hr hl)
      have hd:decide ((4611686018427387904:Int)<(a:Int))=true:=decide_eq_true (by omega)
      clear hA h hr
      go_enter Tryz.func167,Tryz.ntmps167
      go_wp2_with fail
      refine Calls.mono HR.out ?_
      rintro e w1 ⟨rfl,rfl⟩
      go_wp2_with fail
      refine Calls.mono (nT g s 2 0 _ HA.out) ?_
      rintro e w1 ⟨rfl,hA2,hg2⟩
      go_wp2
      go_ret
      exact⟨0,rfl,by rw [RR.bind_ok,hres.out]; rfl,by rw [RR.bind_ok,hres.out]; exact⟨s,hs,hA2⟩,hg2⟩
    · have hres:=hid (Av hr hl)
      have hd:decide ((4611686018427387904:Int)<(a:Int))=false:=decide_eq_false (by omega)
      clear hA h hr
      go_enter Tryz.func167,Tryz.ntmps167
      go_wp2_with fail
      refine Calls.mono HR.out ?_
      rintro e w1 ⟨rfl,rfl⟩
      go_wp2
      go_ret
      exact⟨a,rfl,by rw [RR.bind_ok,hres.out]; rfl,by rw [RR.bind_ok,hres.out]; exact HA.out.set _,aD _ _ _ _⟩
  · have hres:=hid (Ct hr he)
    have hne:((e:Int) == 0)=false:=by rw [beq_eq_false_iff_ne]; omega
    have hne2:((e:Int) != 0)=true:=by rw [bne_iff_ne]; omega
    clear hA h hr
    go_enter Tryz.func167,Tryz.ntmps167
    go_wp2_with fail
    refine Calls.mono HR.out ?_
    rintro e' w1 ⟨rfl,rfl⟩
    go_wp2_with fail
    refine Calls.mono (nT g s e 0 _ HA.out) ?_
    rintro e' w1 ⟨rfl,hA2,hg2⟩
    go_wp2
    go_ret
    exact⟨0,rfl,by rw [RR.bind_ok,hres.out]; rfl,by rw [RR.bind_ok,hres.out]; exact⟨s,hs,hA2⟩,hg2⟩
theorem kI {σ:RR Unit} {a:Nat} (h:jc (σ.bind fun _ s=>cO s) (fun n=>n=0) a):a≤4611686018427387904:=by
 cases σ with
 | bad x=>rw [RR.fI] at h; have h:a=0:=h; omega
 | ok u s=>
  rw [RR.bind_ok] at h
  cases hp:cO s with
  | bad x=>rw [hp] at h; have h:a=0:=h; omega
  | ok b r=>rw [hp] at h; have h:a=b:=h; have:=KU hp; omega
theorem I5 (g:Nat) (σ:RR Unit) (w:World) (h:RxS w g σ) (hσ:σ.Good qN) :
 Calls Tryz.prog 70 #[.pointer (some ⟨g,0,none⟩)] w (AV g (σ.bind fun _ s=>cO s) (fun n:Nat=>.int .i64 n) (fun n=>n=0) w):=by
 have H:=hid (Cs g σ w h hσ)
 clear h
 go_enter Tryz.func70,Tryz.ntmps70
 go_wp2_with fail
 refine Calls.mono H.out ?_
 rintro e w1 ⟨a,rfl,hv,hs,hg⟩
 have hle:=kI hv
 have Hv:=hid hv
 clear hv
 go_wp2
 go_ret
 exact⟨a,rfl,Hv.out,hs,hg⟩
theorem I7 (g:Nat) (σ:RR Unit) (w:World) (h:RxS w g σ) (hσ:σ.Good qN) :
 Calls Tryz.prog 169 #[.pointer (some ⟨g,0,none⟩)] w (AV g (σ.bind fun _ s=>cO s) (fun n:Nat=>.int .i64 (rO n)) (fun n=>n=0) w):=by
 have H:=hid (Cs g σ w h hσ)
 clear h
 go_enter Tryz.func169,Tryz.ntmps169
 go_wp2_with fail
 refine Calls.mono H.out ?_
 rintro e w1 ⟨a,rfl,hv,hs,hg⟩
 have hle:=kI hv
 have Hv:=hid hv
 clear hv
 go_wp2_with fail
 refine Calls.mono (Kx (a:Int) (by omega) (by omega) w1) ?_
 rintro e w2 ⟨rfl,rfl⟩
 go_wp2
 go_ret
 exact⟨a,rfl,Hv.out,hs,hg⟩
theorem Mq (g:Nat) (σ:RR Unit) (w:World) (h:RxS w g σ) (hσ:σ.Good qN) (hT:Tabs w) :
 Calls Tryz.prog 80 #[.pointer (some ⟨g,0,none⟩)] w (AV g (σ.bind fun _ s=>bH s) (fun t=>.string t) (fun t=>t=⟨#[]⟩) w):=by
 cases σ with
 | bad x=>
  obtain⟨s,hs,hA⟩:=h
  have y1:w.cell? ⟨g,1,none⟩=some (.int .i64 (x:Int)):=Blk.cell hA 1
  have hne:((x:Int) != 0)=true:=by rw [bne_iff_ne]; have:=hσ.1; omega
  have hA':=hid hA
  clear hA
  go_enter Tryz.func80,Tryz.ntmps80
  go_wp2
  go_ret
  exact⟨⟨#[]⟩,rfl,rfl,⟨s,hs,hA'.out⟩,cT _ _⟩
 | ok u s=>
  have hA:lT w g s 0:=h
  have hs:s.size≤9223372036854775807:=hσ
  have y0:w.cell? ⟨g,0,none⟩=some (.string s):=Blk.cell hA 0
  have y1:w.cell? ⟨g,1,none⟩=some (.int .i64 0):=Blk.cell hA 1
  have hgl:=Blk.lt hA
  rcases hr:lI s with ⟨t,k,e⟩
  have hf:=rW hr
  have HA:=hid hA
  have hR:=AW s w hs hT
  unfold lJ at hR
  rw [hr] at hR
  have HR:=hid hR
  clear hR hT h
  by_cases he:e=0
  · subst he
    have hk:=hf.2.2 rfl
    have hres:=hid (tu hr)
    clear hA hr hf
    go_enter Tryz.func80,Tryz.ntmps80
    go_wp2_with fail
    refine Calls.mono HR.out ?_
    rintro e w1 ⟨rfl,hb1⟩
    have hA1:lT w1 g s 0:=Blk.below HA.out hb1 HA.out.lt
    have x0:w1.cell? ⟨g,0,none⟩=some (.string s):=Blk.cell hA1 0
    have z0:w1.frozen? ⟨g,0,none⟩=false:=Blk.thaw hA1 0
    have HA1:=hid hA1
    have Hb1:=hid hb1
    clear hA1 hb1 y0 y1
    go_wp2
    go_ret
    exact⟨t,rfl,by rw [RR.bind_ok,hres.out]; rfl,by rw [RR.bind_ok,hres.out]; exact HA1.out.set _,dI (jl g Hb1.out) (aD _ _ _ _)⟩
  · have hres:=hid (vv hr he)
    have hne2:((e:Int) != 0)=true:=by rw [bne_iff_ne]; omega
    clear hA hr hf
    go_enter Tryz.func80,Tryz.ntmps80
    go_wp2_with fail
    refine Calls.mono HR.out ?_
    rintro e' w1 ⟨rfl,hb1⟩
    have hA1:lT w1 g s 0:=Blk.below HA.out hb1 HA.out.lt
    have HA1:=hid hA1
    have Hb1:=hid hb1
    clear hA1 hb1 y0 y1
    go_wp2_with fail
    refine Calls.mono (nT g s e 0 _ HA1.out) ?_
    rintro e' w2 ⟨rfl,hA2,hg2⟩
    go_wp2
    go_ret
    exact⟨⟨#[]⟩,rfl,by rw [RR.bind_ok,hres.out]; rfl,by rw [RR.bind_ok,hres.out]; exact⟨s,hs,hA2⟩,dI (jl g Hb1.out) hg2⟩
end Go.Proofs.YtoeejfhdjmkpcaaGreatDoor
