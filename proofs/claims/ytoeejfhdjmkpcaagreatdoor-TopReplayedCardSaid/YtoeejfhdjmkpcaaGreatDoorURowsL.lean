/- Of the proof of a statement: RowsL, StAt. -/
import Derived.Lib.QuietBelow
import Derived.Test.YtoeejfhdjmkpcaaGreatDoorURdr
import Derived.Test.YtoeejfhdjmkpcaaGreatDoorURowsP
set_option linter.unusedVariables false
set_option linter.unusedSimpArgs false
set_option maxRecDepth 100000
set_option maxHeartbeats 8000000
/- The walk of Rows at leases, against the tables. -/
namespace Go.Proofs.YtoeejfhdjmkpcaaGreatDoor
open Go.Lib (hid)
open Go.RowKit
theorem cZ (job node:ByteArray) (till:Int) (w:World):Calls Tryz.prog 87 #[.agg #[.string job,.string node,.int .i64 till]] w fun e w'=>e = .returned (.string job)∧Below w.heap.size w w':=by
 have HB:=hid ((Below.refl w.heap.size w).alloc (Nat.le_refl _) (.cells #[.string job,.string node,.int .i64 till] 38))
 go_enter Tryz.func87,Tryz.ntmps87
 go_wp2
 go_ret
 exact⟨rfl,HB.out⟩
def jK (xs:List ah):Prop:=∀ x ∈ xs,x.job.size≤9223372036854775807∧x.node.size≤9223372036854775807
section
variable {w w':World} {B sz n g:Nat} {A:Option Addr} {xs:List Value}
theorem aQ.but (h:aQ w B sz A n xs) (hg:w.grownBy w' (some g)) (hB:B≤g):aQ w' B sz A n xs:=
 ⟨h.len,fun hn=>by
  obtain⟨b,off,e,hb,hr⟩:=h.at_ hn
  exact⟨b,off,e,hb,fun j u hu=>hg.cell (hr j u hu) (by simp; omega)⟩⟩
end
section
variable {w w':World} {T b1 b2 b3 n1 n2 n3 m:Nat} {g1 g2 g3 g:ByteArray→Option Value}
theorem gV.below (h:gV w T b1 b2 b3 n1 n2 n3 g1 g2 g3) (hb:Below w.heap.size w w'):gV w' T b1 b2 b3 n1 n2 n3 g1 g2 g3:=
 ⟨h.t.below hb h.t.lt,h.m1.below hb h.m1.lt,h.m2.below hb h.m2.lt,h.m3.below hb h.m3.lt⟩
theorem gV.used (h:gV w T b1 b2 b3 n1 n2 n3 g1 g2 g3) (hg:w.grownBy w' (some b3)) (h1:b1≠b3) (h2:b2≠b3) (h3:T≠b3) (hm:bX w' b3 m g):gV w' T b1 b2 b3 n1 n2 m g1 g2 g:=
 ⟨(hg.block T h.t.lt (by simp [h3])).trans h.t,h.m1.but hg h1,h.m2.but hg h2,hm⟩
end
def MW (st:ak) (n:Nat) (R:Int) (w:World) (T b1 b2 b3 n1 n2:Nat) (i:Value) (wr:World):Prop:=
 ∃ (k:Nat) (g3:ByteArray→Option Value),k≤n∧i = .int .i64 k∧dS (fN st) ah.job (prevK ah.job st.leases k) (st.leases.drop k)=R∧w.grownBy wr (some b3) ∧
  gV wr T b1 b2 b3 n1 n2 k (pU st.jobs) (mJ st.nodes) g3∧oA g3 (fun s=>gu st s (st.leases.take k))
def Ms (st:ak) (n:Nat) (R:Int) (b3:Nat) (w:World) (e:Ending) (w':World):Prop:=
 e = .returned (.int .i64 R)∧w.grownBy w' (some b3)∧(R=0→∃ g,bX w' b3 n g∧oA g (tQ st))
theorem zf (st:ak) (A:Option Addr) (n c:Nat) (w:World) (T b1 b2 b3 n1 n2:Nat) (g3:ByteArray→Option Value) (hx:aQ w b3 3 A n (au ay st.leases)) (hl:st.leases.length=n) (hn:n≤40) (hok:jK st.leases)
 (Cr:tO st) (h1:b1≠b3) (h2:b2≠b3) (h3:T≠b3) (hu:oA g3 (fun _=>0)) (ht:gV w T b1 b2 b3 n1 n2 0 (pU st.jobs) (mJ st.nodes) g3) :
 Calls Tryz.prog 159 #[.slice A n c,.func (.func 87) #[] #[],.func (.func 235) #[.pointer (some ⟨T,0,none⟩)] #[]] w (Ms st n (bZ (fN st) ah.job st.leases) b3 w):=by
 obtain⟨R,hR⟩:∃ R,bZ (fN st) ah.job st.leases=R:=⟨_,rfl⟩
 rw [hR]
 have HR:=hid hR
 have Hl:=hid hl
 have Hok:=hid hok
 have Ls:=hid Cr
 have H0:=hid (And.intro hu ht)
 clear hl hR hok Cr hu ht
 go_enter Tryz.func159,Tryz.ntmps159
 go_wp2
 go_loopw [6,7,8,9,12,19,28,35] (fun _ _ _ _ i _ _ _ wr=>MW st n R w T b1 b2 b3 n1 n2 i wr) (fun _ _ _ _ i _ _ _ _=>n - (intOf i).toNat)
 case atStart=>exact⟨0,g3,Nat.zero_le _,rfl,by rw [← HR.out]; rfl,World.grownBy.refl w _,H0.out.2,by rw [List.take_zero]; exact H0.out.1⟩
 case round=>
  obtain⟨k,g,hk,rfl,hrow,hg,hta,hua⟩:=hrel
  have dW:=hid hrow
  have Hg:=hid hg
  have Hta:=hid hta
  have Hua:=hid hua
  have hsz:=hg.size
  have hb3l:=hta.m3.lt
  have hxr:=hx.but hg (Nat.le_refl _)
  clear hrow hta hua hg
  by_cases hlt:k<n
  · obtain⟨x,hf⟩:∃ x,st.leases[k]? = some x:=⟨_,List.getElem?_eq_getElem (by rw [Hl.out]; exact hlt)⟩
    obtain⟨b,off,rfl,hbB,hc⟩:=hxr.cR aH Hl.out hf
    have hso:=hid (Hok.out x (List.mem_of_getElem? hf))
    have hstep:=hid (fun s=>DF st s hf)
    have hbnd:=hid (fun s=>vV Ls.out s (st.leases.take k))
    have hbl:(st.leases.take k).length≤40:=by rw [List.length_take]; omega
    have Hf:=hid hf
    obtain⟨E,hE⟩:∃ E,fN st x=E:=⟨_,rfl⟩
    have HE:=hid hE
    obtain⟨job,node,till⟩:=x
    obtain⟨c0,c1,c2⟩:=rc3 hc
    clear hc hf hE
    have hlb:b<wr.heap.size:=by omega
    have hA0:=(Below.refl wr.heap.size wr).alloc (Nat.le_refl _) (.cells #[.string job,.string node,.int .i64 till] 38)
    have HA0:=hid hA0
    have hpre:=hid (show ∀ s,0≤gu st s (st.leases.take k)∧gu st s (st.leases.take k)≤1000000000 from fun s=>by have:=hbnd.out s; omega)
    have hcon:=hid (F1 st ⟨job,node,till⟩ _ T b1 b2 b3 n1 n2 k g _ hso.out.1 hso.out.2 (by omega) Ls.out Hua.out hpre.out (Hta.out.below hA0))
    clear hA0
    go_wp2_with fail
    refine Calls.mono hcon.out ?_
    rintro e w1 ⟨rfl,hg1,hz1⟩
    rw [HE.out]
    rw [HE.out] at hz1
    have hz:=hid hz1
    have hG1:=hid hg1
    have hGa:=hid ((gQ (World.grownBy.refl wr (some b3)) HA0.out).trans hg1)
    have hB1:=hid (Hg.out.trans hGa.out)
    have hsz1:=hg1.size
    have hgl:wr.heap.size<w1.heap.size:=by simp at hsz1; omega
    clear hcon hz1 hsz1
    by_cases he:E=0
    · subst he
      have l0:∀ d os,(Sort.grow (redrawn w1 d) os).cell? ⟨wr.heap.size,0,none⟩=some (.string job):=fun d os=>cell_regrown (hg1.cell (by simp [go_sem]) (by simp; omega)) d os
      have l1:∀ d os,(Sort.grow (redrawn w1 d) os).cell? ⟨wr.heap.size,1,none⟩=some (.string node):=fun d os=>cell_regrown (hg1.cell (by simp [go_sem]) (by simp; omega)) d os
      have l2:∀ d os,(Sort.grow (redrawn w1 d) os).cell? ⟨wr.heap.size,2,none⟩=some (.int .i64 till):=fun d os=>cell_regrown (hg1.cell (by simp [go_sem]) (by simp; omega)) d os
      obtain⟨g',hm',hu'⟩:=hz.out rfl
      have hnext:=hid (And.intro (Hta.out.used hGa.out h1 h2 h3 hm') (show oA g' (fun s=>gu st s (st.leases.take (k+1))) from fun s=>(hu' s).trans (congrArg (Value.int .i64) (hstep.out s).symm)))
      clear hm' hu'
      by_cases hk0:k=0
      · subst hk0
        have hst:=hid (jG (key:=ah.job) Hf.out HE.out (.inl rfl))
        clear c0 c1 c2 hx hxr hg1
        go_wp2_with fail
        refine wp_region_quiet_below (by kernel_rfl) (by kernel_rfl) ?_
        repeat (go_big_quiet_step (fail))
        refine wpQuiet_nil ?_
        intro _ hw'
        obtain⟨⟨nq,osq⟩,hw''⟩:=hw'
        subst hw''
        have hb2:=hid (below_regrown w1 nq osq)
        clear l0 l1 l2
        dsimp only
        generalize Sort.grow (redrawn w1 nq) osq=w2 at hb2 ⊢
        go_wp2
        go_roundw
        case rel=>exact⟨1,g',by omega,by go_num,by rw [← hst.out]; exact dW.out,gQ hB1.out hb2.out,hnext.out.1.below hb2.out,hnext.out.2⟩
        case measure=>simp [intOf]; omega
      · obtain⟨y,hy⟩:∃ y,st.leases[k - 1]? = some y:=⟨_,List.getElem?_eq_getElem (by rw [Hl.out]; omega)⟩
        obtain⟨b',off',hbo,qU,hp⟩:=hxr.cR aH Hl.out hy
        obtain⟨rfl,rfl⟩:b=b'∧off=off':=by simpa using hbo
        have Hy:=hid hy
        obtain⟨rY,Jf,Jg⟩:=y
        obtain⟨q0,q1,q2⟩:=rc3 hp
        have hbne:(some b:Option Nat)≠some b3:=by simp; omega
        have p0:∀ d os,(Sort.grow (redrawn w1 d) os).cell? ⟨b,off+(k - 1)*3,none⟩=some (.string rY):=fun d os=>cell_regrown (hGa.out.cell q0 hbne) d os
        have p1:∀ d os,(Sort.grow (redrawn w1 d) os).cell? ⟨b,off+(k - 1)*3+1,none⟩=some (.string Jf):=fun d os=>cell_regrown (hGa.out.cell q1 hbne) d os
        have p2:∀ d os,(Sort.grow (redrawn w1 d) os).cell? ⟨b,off+(k - 1)*3+2,none⟩=some (.int .i64 Jg):=fun d os=>cell_regrown (hGa.out.cell q2 hbne) d os
        clear q0 q1 q2 c0 c1 c2 hp hy hx hxr hg1 hbne
        have hkp:decide ((0:Int)<(k:Int))=true:=decide_eq_true (by omega)
        have hkn:0<k:=by omega
        have hlt2:=hid (dY rY.toList job.toList)
        obtain⟨B,hB⟩:∃ B,Op.bytesLess rY.toList job.toList=B:=⟨_,rfl⟩
        have HL:=hid hB
        cases B
        · have e1:(Op.bytesLess job.toList rY.toList || job.toList == rY.toList)=true:=by rw [← hlt2.out,hB]; rfl
          have hst:=hid (oz (key:=ah.job) Hf.out HE.out hk0 Hy.out HL.out)
          clear hB
          go_wp2_with fail
          refine wp_region_quiet_below (by kernel_rfl) (by kernel_rfl) ?_
          repeat (go_big_quiet_step ((go_at_call 87; exact Calls.regrown_of (cZ _ _ _ _))))
          refine wpQuiet_nil ?_
          intro _ hw'
          obtain⟨⟨nq,osq⟩,hw''⟩:=hw'
          subst hw''
          have hb2:=hid (below_regrown w1 nq osq)
          clear l0 l1 l2 p0 p1 p2
          dsimp only
          generalize Sort.grow (redrawn w1 nq) osq=w2 at hb2 ⊢
          go_wp2
          go_ret
          have h8:=dW.out
          rw [hst.out] at h8
          exact⟨bA h8,gQ hB1.out hb2.out,fun h=>by omega⟩
        · have e1:(Op.bytesLess job.toList rY.toList || job.toList == rY.toList)=false:=by rw [← hlt2.out,hB]; rfl
          have hst:=hid (jG (key:=ah.job) Hf.out HE.out (.inr ⟨_,Hy.out,HL.out⟩))
          clear hB
          go_wp2_with fail
          refine wp_region_quiet_below (by kernel_rfl) (by kernel_rfl) ?_
          repeat (go_big_quiet_step ((go_at_call 87; exact Calls.regrown_of (cZ _ _ _ _))))
          refine wpQuiet_nil ?_
          intro _ hw'
          obtain⟨⟨nq,osq⟩,hw''⟩:=hw'
          subst hw''
          have hb2:=hid (below_regrown w1 nq osq)
          clear l0 l1 l2 p0 p1 p2
          dsimp only
          generalize Sort.grow (redrawn w1 nq) osq=w2 at hb2 ⊢
          go_wp2
          go_roundw
          case rel=>exact⟨k+1,g',by omega,by go_num,by rw [← hst.out]; exact dW.out,gQ hB1.out hb2.out,hnext.out.1.below hb2.out,hnext.out.2⟩
          case measure=>simp [intOf]; omega
    · have hst:=hid (tS (E:=fN st) (key:=ah.job) Hf.out (by rw [HE.out]; exact he))
      have e1:(E == 0)=false:=beq_eq_false_iff_ne.2 he
      have e2:(E != 0)=true:=bne_iff_ne.2 he
      clear c0 c1 c2 hx hxr hg1
      go_wp2
      go_ret
      have h8:=dW.out
      rw [hst.out,HE.out] at h8
      exact⟨bA h8,hB1.out,fun h=>absurd (h8.trans h) he⟩
  · obtain rfl:k=n:=by omega
    have fin:=hid (show R=0 by rw [← dW.out]; exact tT (by rw [Hl.out]; exact Nat.le_refl _) _)
    have hlast:=hid (show oA g (tQ st) from fun s=>by
     have:=Hua.out s
     rw [List.take_of_length_le (by rw [Hl.out]; exact Nat.le_refl _)] at this
     exact this)
    clear hx hxr
    go_wp2
    go_ret
    exact⟨bA fin.out.symm,Hg.out,fun _=>⟨g,Hta.out.m3,hlast.out⟩⟩
end Go.Proofs.YtoeejfhdjmkpcaaGreatDoor
/- A state in memory. -/
namespace Go.Proofs.YtoeejfhdjmkpcaaGreatDoor
open Go.Lib (hid)
open Go.RowKit
structure StA where
 aj:Option Addr
 nj:Nat
 cj:Nat
 an:Option Addr
 nn:Nat
 cn:Nat
 al:Option Addr
 nl:Nat
 cl:Nat
def stC (st:ak) (x:StA):Array Value:=#[.int .i64 st.rev,.slice x.aj x.nj x.cj,.slice x.an x.nn x.cn,.slice x.al x.nl x.cl]
structure StAt (w:World) (B:Nat) (st:ak) (x:StA):Prop where
 j:aQ w B 5 x.aj x.nj (au aJ st.jobs)
 n:aQ w B 3 x.an x.nn (au aB st.nodes)
 l:aQ w B 3 x.al x.nl (au ay st.leases)
 lj:st.jobs.length=x.nj
 ln:st.nodes.length=x.nn
 ll:st.leases.length=x.nl
 bj:x.nj≤9223372036854775807
 bn:x.nn≤9223372036854775807
 bl:x.nl≤9223372036854775807
 oj:mU st.jobs
 on_:lB st.nodes
 ol:jK st.leases
theorem StAt.below {w w':World} {B:Nat} {st:ak} {x:StA} (h:StAt w B st x) (hb:Below B w w'):StAt w' B st x:=
 ⟨h.j.below hb,h.n.below hb,h.l.below hb,h.lj,h.ln,h.ll,h.bj,h.bn,h.bl,h.oj,h.on_,h.ol⟩
theorem StAt.more {w:World} {B B':Nat} {st:ak} {x:StA} (h:StAt w B st x) (hB:B≤B'):StAt w B' st x:=
 ⟨h.j.more hB,h.n.more hB,h.l.more hB,h.lj,h.ln,h.ll,h.bj,h.bn,h.bl,h.oj,h.on_,h.ol⟩
theorem below_grown {w0 a b:World} {g:Nat} (hb:Below w0.heap.size w0 a) (hg:a.grownBy b (some g)) (h:w0.heap.size≤g):Below w0.heap.size w0 b:=
 ⟨hg.os.trans hb.os,hg.tape.trans hb.tape,hg.output.trans hb.output,Nat.le_trans hb.size hg.size,fun k hk=>
  (hg.block k (Nat.lt_of_lt_of_le hk hb.size) (by simp; omega)).trans (hb.block k hk)⟩
section
variable {w w':World} {T b1 b2 b3 n1 n2 n3 m:Nat} {g1 g2 g3 g:ByteArray→Option Value}
theorem gV.KW (h:gV w T b1 b2 b3 n1 n2 n3 g1 g2 g3) (hg:w.grownBy w' (some b1)) (h2:b2≠b1) (h3:b3≠b1) (hT:T≠b1) (hm:bX w' b1 m g):gV w' T b1 b2 b3 m n2 n3 g g2 g3:=
 ⟨(hg.block T h.t.lt (by simp [hT])).trans h.t,hm,h.m2.but hg h2,h.m3.but hg h3⟩
theorem gV.Jh (h:gV w T b1 b2 b3 n1 n2 n3 g1 g2 g3) (hg:w.grownBy w' (some b2)) (h1:b1≠b2) (h3:b3≠b2) (hT:T≠b2) (hm:bX w' b2 m g):gV w' T b1 b2 b3 n1 m n3 g1 g g3:=
 ⟨(hg.block T h.t.lt (by simp [hT])).trans h.t,h.m1.but hg h1,hm,h.m3.but hg h3⟩
end
theorem F7 {l:List aA} (h:bZ fE aA.name l=0) {k:Nat} {x:aA} (hx:l[k]? = some x) (s:ByteArray) :
 pU (l.take (k+1)) s=if s=x.name then some (.agg (aJ x).toArray) else pU (l.take k) s:=by
 unfold pU dA
 rw [qD aA.name (yj h) hx s]
 split <;> rfl
theorem DX {l:List av} (h:bZ eH av.name l=0) {k:Nat} {x:av} (hx:l[k]? = some x) (s:ByteArray) :
 mJ (l.take (k+1)) s=if s=x.name then some (.agg (aB x).toArray) else mJ (l.take k) s:=by
 unfold mJ dh
 rw [qD av.name (yj h) hx s]
 split <;> rfl
structure Cv (w0 wr:World) (st:ak) (x:StA) (S T b1 b2 b3 n1 n2 n3:Nat) (g1 g2 g3:ByteArray→Option Value):Prop where
 below:Below w0.heap.size w0 wr
 box:Blk wr S 26 (stC st x)
 tabs:gV wr T b1 b2 b3 n1 n2 n3 g1 g2 g3
def noG:ByteArray→Option Value:=fun _=>none
def Cw (w:World):World:=(((w.alloc (.map #[] 0)).alloc (.map #[] 0)).alloc (.map #[] 0)).alloc (.cells #[.map (some w.heap.size),.map (some (w.heap.size+1)),.map (some (w.heap.size+1+1))] 324)
theorem pV (w:World):Below w.heap.size w (Cw w):=
 ((((Below.refl w.heap.size w).alloc (Nat.le_refl _) _).alloc (by simp) _).alloc (by simp; omega) _).alloc (by simp; omega) _
theorem DY (w:World):gV (Cw w) (w.heap.size+1+1+1) w.heap.size (w.heap.size+1) (w.heap.size+1+1) 0 0 0 noG noG noG:=by
 have m1:=bX.made w
 have m2:=bX.made (w.alloc (.map #[] 0))
 have m3:=bX.made ((w.alloc (.map #[] 0)).alloc (.map #[] 0))
 have up:∀ (W:World) (o:Obj),Below W.heap.size W (W.alloc o):=fun W o=>(Below.refl _ _).alloc (Nat.le_refl _) o
 have e1:(w.alloc (.map #[] 0)).heap.size=w.heap.size+1:=by simp
 have e2:((w.alloc (.map #[] 0)).alloc (.map #[] 0)).heap.size=w.heap.size+1+1:=by simp
 have e3:(((w.alloc (.map #[] 0)).alloc (.map #[] 0)).alloc (.map #[] 0)).heap.size=w.heap.size+1+1+1:=by simp
 have hB:=heap_alloc_new (((w.alloc (.map #[] 0)).alloc (.map #[] 0)).alloc (.map #[] 0)) (.cells #[.map (some w.heap.size),.map (some (w.heap.size+1)),.map (some (w.heap.size+1+1))] 324)
 rw [e1] at m2
 rw [e2] at m3
 rw [e3] at hB
 refine⟨hB,?_,?_,?_⟩
 · exact ((m1.below (up _ _) m1.lt).below (up _ _) (by simp; omega)).below (up _ _) (by simp; omega)
 · exact (m2.below (up _ _) m2.lt).below (up _ _) (by simp)
 · exact m3.below (up _ _) m3.lt
def AX (st:ak) (w:World) (e:Ending) (w':World):Prop:=
 Below w.heap.size w w'∧((aG st≠0∧e = .returned (.tuple #[.pointer none,.int .i64 (aG st)])) ∨
  (aG st=0∧∃ T b1 b2 b3 n1 n2 n3 g3,e = .returned (.tuple #[.pointer (some ⟨T,0,none⟩),.int .i64 0])∧gV w' T b1 b2 b3 n1 n2 n3 (pU st.jobs) (mJ st.nodes) g3∧oA g3 (tQ st)))
theorem AX.bad {st:ak} {w w':World} {E:Int} (h:aG st=E) (hE:E≠0) (hb:Below w.heap.size w w'):AX st w (.returned (.tuple #[.pointer none,.int .i64 E])) w':=⟨hb,.inl ⟨by rw [h]; exact hE,by rw [h]⟩⟩
theorem Gp {st:ak} (h:ranged st.rev 0 1099511627776=false):aG st=1:=by unfold aG; rw [if_pos h]
theorem sA {st:ak} (h:ranged st.rev 0 1099511627776=true) (h2:dP st=false):aG st=2:=by unfold aG; rw [if_neg (by rw [h]; simp),if_pos h2]
theorem KX {st:ak} (h:ranged st.rev 0 1099511627776=true) (h2:dP st=true) (h3:bZ fE aA.name st.jobs≠0):aG st=bZ fE aA.name st.jobs:=by
 unfold aG; rw [if_neg (by rw [h]; simp),if_neg (by rw [h2]; simp),if_pos h3]
theorem Ji {st:ak} (h:ranged st.rev 0 1099511627776=true) (h2:dP st=true) (h3:bZ fE aA.name st.jobs=0) (h4:bZ eH av.name st.nodes≠0):aG st=bZ eH av.name st.nodes:=by
 unfold aG; rw [if_neg (by rw [h]; simp),if_neg (by rw [h2]; simp),if_neg (by simp [h3]),if_pos h4]
theorem KY {st:ak} (h:ranged st.rev 0 1099511627776=true) (h2:dP st=true) (h3:bZ fE aA.name st.jobs=0) (h4:bZ eH av.name st.nodes=0) :
 aG st=if bZ (fN st) ah.job st.leases≠0 then bZ (fN st) ah.job st.leases else if ni st=true then 0 else 9:=by
 unfold aG; rw [if_neg (by rw [h]; simp),if_neg (by rw [h2]; simp),if_neg (by simp [h3]),if_neg (by simp [h4])]
def MX (w0 wr:World) (st:ak) (x:StA) (b nj:Nat) (i:Value):Prop:=∃ k:Nat,k≤nj∧i = .int .i64 k∧Cv w0 wr st x w0.heap.size (b+1+1+1) b (b+1) (b+1+1) k 0 0 (pU (st.jobs.take k)) noG noG
def MY (w0 wr:World) (st:ak) (x:StA) (b n1 nn:Nat) (i:Value):Prop:=∃ k:Nat,k≤nn∧i = .int .i64 k∧Cv w0 wr st x w0.heap.size (b+1+1+1) b (b+1) (b+1+1) n1 k 0 (pU st.jobs) (mJ (st.nodes.take k)) noG
def ug (st:ak) (l:List av):Bool:=l.all fun n=>decide (tQ st n.name≤n.room)
theorem zh {st:ak} {l:List av} {k:Nat} {x:av} (h:l[k]? = some x):ug st (l.drop k)=(decide (tQ st x.name≤x.room) && ug st (l.drop (k+1))):=by
 rw [drop_cons h]; rfl
def MZ (w0 wr:World) (st:ak) (x:StA) (b n1 n2 n3:Nat) (g3:ByteArray→Option Value) (nn:Nat) (i:Value):Prop:=
 ∃ k:Nat,k≤nn∧i = .int .i64 k∧Cv w0 wr st x w0.heap.size (b+1+1+1) b (b+1) (b+1+1) n1 n2 n3 (pU st.jobs) (mJ st.nodes) g3∧ug st (st.nodes.drop k)=ni st
end Go.Proofs.YtoeejfhdjmkpcaaGreatDoor
