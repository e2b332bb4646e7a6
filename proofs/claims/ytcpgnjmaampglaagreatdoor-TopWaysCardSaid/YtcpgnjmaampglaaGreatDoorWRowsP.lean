/- Of the proof of a statement: RowsP, StAt. -/
import Derived.Lib.QuietBelow
import Derived.Deep.QuietTactic
import Derived.BigQuiet
import Derived.Test.YtcpgnjmaampglaaGreatDoorWCopyK
import Derived.Test.YtcpgnjmaampglaaGreatDoorWPlSum
set_option linter.unusedVariables false
set_option linter.unusedSimpArgs false
set_option maxRecDepth 100000
set_option maxHeartbeats 8000000
/- The walks of Rows at jobs and at nodes, in the program. -/
namespace Go.Proofs.YtcpgnjmaampglaaGreatDoor
open Go.Lib (hid)
open Go.RowKit
theorem fT (name:ByteArray) (prio:Int) (need:Int) (tries:Int) (tag:ByteArray) (w:World):Calls Tryz.prog 49 #[.agg #[.string name,.int .i64 prio,.int .i64 need,.int .i64 tries,.string tag]] w fun e w'=>e = .returned (.string name)∧Below w.heap.size w w':=by
 have HB:=hid ((Below.refl w.heap.size w).alloc (Nat.le_refl _) (.cells #[.string name,.int .i64 prio,.int .i64 need,.int .i64 tries,.string tag] 59))
 go_enter Tryz.func49,Tryz.ntmps49
 go_wp2
 go_ret
 exact⟨rfl,HB.out⟩
theorem iD (name:ByteArray) (room:Int) (zone:ByteArray) (w:World):Calls Tryz.prog 51 #[.agg #[.string name,.int .i64 room,.string zone]] w fun e w'=>e = .returned (.string name)∧Below w.heap.size w w':=by
 have HB:=hid ((Below.refl w.heap.size w).alloc (Nat.le_refl _) (.cells #[.string name,.int .i64 room,.string zone] 61))
 go_enter Tryz.func51,Tryz.ntmps51
 go_wp2
 go_ret
 exact⟨rfl,HB.out⟩
theorem lB :
 (∀ (xs:List aB) (A:Option Addr) (n c:Nat) (w:World) (hx:aQ w w.heap.size 5 A n (au aH xs)) (hl:xs.length=n) (hn:n≤9223372036854775807) (hok:nP xs) (hT:Tabs w),Calls Tryz.prog 80 #[.slice A n c,.func (.func 49) #[] #[],.func (.func 81) #[] #[]] w fun e w'=>e = .returned (.int .i64 (bM eZ aB.name xs))∧Below w.heap.size w w') ∧
 (∀ (xs:List av) (A:Option Addr) (n c:Nat) (w:World) (hx:aQ w w.heap.size 3 A n (au aI xs)) (hl:xs.length=n) (hn:n≤9223372036854775807) (hok:kX xs) (hT:Tabs w),Calls Tryz.prog 82 #[.slice A n c,.func (.func 51) #[] #[],.func (.func 83) #[] #[]] w fun e w'=>e = .returned (.int .i64 (bM eV av.name xs))∧Below w.heap.size w w'):=by
 refine⟨@fun xs A n c w hx hl hn hok hT=>(fun(jM0:Unit)=>?_) (),@fun xs A n c w hx hl hn hok hT=>(fun(jM1:Unit)=>?_) ()⟩<;>(
 first|(guard_hyp jM0;obtain⟨R,hR⟩:∃ R,bM eZ aB.name xs=R:=⟨_,rfl⟩)|obtain⟨R,hR⟩:∃ R,bM eV av.name xs=R:=⟨_,rfl⟩
 rw [hR]
 have HR:=hid hR
 have Hl:=hid hl
 have HT:=hid hT
 have Hok:=hid hok
 clear hl hR hT hok
 first|(guard_hyp jM0;go_enter Tryz.func80,Tryz.ntmps80)|go_enter Tryz.func82,Tryz.ntmps82
 go_wp2
 first|(guard_hyp jM0;go_loopw [6,7,8,9,12,19,28,35] (fun _ _ _ _ i _ _ _ wr=>Pu xs n R w i wr) (fun _ _ _ _ i _ _ _ _=>n - (intOf i).toNat))|go_loopw [6,7,8,9,12,19,28,35] (fun _ _ _ _ i _ _ _ wr=>Nd xs n R w i wr) (fun _ _ _ _ i _ _ _ _=>n - (intOf i).toNat)
 case atStart=>exact⟨0,Nat.zero_le _,rfl,by rw [← HR.out]; rfl,Below.refl _ _⟩
 case round=>
  obtain⟨k,hk,rfl,hrow,hb⟩:=hrel
  have jP:=hid hrow
  have Hb:=hid hb
  have hsz:=hb.size
  clear hrow
  by_cases hlt:k<n
  · obtain⟨x,hf⟩:∃ x,xs[k]? = some x:=⟨_,List.getElem?_eq_getElem (by rw [Hl.out]; exact hlt)⟩
    first|(guard_hyp jM0;obtain⟨b,off,rfl,hbB,hc⟩:=(hx.below hb).dF aN Hl.out hf)|obtain⟨b,off,rfl,hbB,hc⟩:=(hx.below hb).dF bF Hl.out hf
    have hso:=hid (Hok.out x (List.mem_of_getElem? hf))
    have Hf:=hid hf
    first|(guard_hyp jM0;have hkey:x.name=aB.name x:=rfl)|have hkey:x.name=av.name x:=rfl
    first|(guard_hyp jM0;obtain⟨E,hE⟩:∃ E,eZ x=E:=⟨_,rfl⟩)|obtain⟨E,hE⟩:∃ E,eV x=E:=⟨_,rfl⟩
    have HE:=hid hE
    obtain⟨X,hX⟩:∃ X,X=x:=⟨_,rfl⟩
    have HX:=hid hX
    first
     |(
      guard_hyp jM0
      obtain⟨name,prio,need,tries,tag⟩:=x)
     |(
      guard_hyp jM1
      obtain⟨name,room,zone⟩:=x)
    first|(guard_hyp jM0;have c0:wr.cell? ⟨b,off+k*5,none⟩=some (.string name):=hc 0 _ rfl)|have c0:wr.cell? ⟨b,off+k*3,none⟩=some (.string name):=hc 0 _ rfl
    first
     |(
      guard_hyp jM0
      have c1:wr.cell? ⟨b,off+k*5+1,none⟩=some (.int .i64 prio):=hc 1 _ rfl
      have c2:wr.cell? ⟨b,off+k*5+2,none⟩=some (.int .i64 need):=hc 2 _ rfl)
     |skip
    first|(guard_hyp jM0;have c3:wr.cell? ⟨b,off+k*5+3,none⟩=some (.int .i64 tries):=hc 3 _ rfl)|have c1:wr.cell? ⟨b,off+k*3+1,none⟩=some (.int .i64 room):=hc 1 _ rfl
    first|(guard_hyp jM0;have c4:wr.cell? ⟨b,off+k*5+4,none⟩=some (.string tag):=hc 4 _ rfl)|have c2:wr.cell? ⟨b,off+k*3+2,none⟩=some (.string zone):=hc 2 _ rfl
    clear hc hf hE hX hkey
    have hlb:b<wr.heap.size:=by omega
    first
     |(
      guard_hyp jM0
      have hT1:=hid (HT.out.below (Hb.out.alloc Hb.out.size (.cells #[.string name,.int .i64 prio,.int .i64 need,.int .i64 tries,.string tag] 59)))
      have hBa:=hid (Hb.out.alloc Hb.out.size (.cells #[.string name,.int .i64 prio,.int .i64 need,.int .i64 tries,.string tag] 59)))
     |(
      guard_hyp jM1
      have hT1:=hid (HT.out.below (Hb.out.alloc Hb.out.size (.cells #[.string name,.int .i64 room,.string zone] 61)))
      have hBa:=hid (Hb.out.alloc Hb.out.size (.cells #[.string name,.int .i64 room,.string zone] 61)))
    go_wp2_with fail
    first
     |(
      guard_hyp jM0
      refine Calls.mono (uD ⟨name,prio,need,tries,tag⟩ _ hso.out.1 hso.out.2 hT1.out) ?_)
     |(
      guard_hyp jM1
      refine Calls.mono (Bb ⟨name,room,zone⟩ _ hso.out.1 hso.out.2 hT1.out) ?_)
    rintro e w1 ⟨rfl,hb1⟩
    rw [HE.out]
    first
     |(
      guard_hyp jM0
      have hA0:=(Below.refl wr.heap.size wr).alloc (Nat.le_refl _) (.cells #[.string name,.int .i64 prio,.int .i64 need,.int .i64 tries,.string tag] 59))
     |(
      guard_hyp jM1
      have hA0:=(Below.refl wr.heap.size wr).alloc (Nat.le_refl _) (.cells #[.string name,.int .i64 room,.string zone] 61))
    have hA1:=hA0.trans (hb1.mono hA0.size)
    have hB1:=hid (hBa.out.trans (hb1.mono hBa.out.size))
    by_cases he:E=0
    · subst he
      have l0:∀ d os,(Sort.grow (redrawn w1 d) os).cell? ⟨wr.heap.size,0,none⟩=some (.string name):=fun d os=>cell_regrown (by rw [(eH hb1).1 _ _ (by simp)]; simp [go_sem]) d os
      first
       |(
        guard_hyp jM0
        have l1:∀ d os,(Sort.grow (redrawn w1 d) os).cell? ⟨wr.heap.size,1,none⟩=some (.int .i64 prio):=fun d os=>cell_regrown (by rw [(eH hb1).1 _ _ (by simp)]; simp [go_sem]) d os
        have l2:∀ d os,(Sort.grow (redrawn w1 d) os).cell? ⟨wr.heap.size,2,none⟩=some (.int .i64 need):=fun d os=>cell_regrown (by rw [(eH hb1).1 _ _ (by simp)]; simp [go_sem]) d os)
       |skip
      first|(guard_hyp jM0;have l3:∀ d os,(Sort.grow (redrawn w1 d) os).cell? ⟨wr.heap.size,3,none⟩=some (.int .i64 tries):=fun d os=>cell_regrown (by rw [(eH hb1).1 _ _ (by simp)]; simp [go_sem]) d os)|have l1:∀ d os,(Sort.grow (redrawn w1 d) os).cell? ⟨wr.heap.size,1,none⟩=some (.int .i64 room):=fun d os=>cell_regrown (by rw [(eH hb1).1 _ _ (by simp)]; simp [go_sem]) d os
      first|(guard_hyp jM0;have l4:∀ d os,(Sort.grow (redrawn w1 d) os).cell? ⟨wr.heap.size,4,none⟩=some (.string tag):=fun d os=>cell_regrown (by rw [(eH hb1).1 _ _ (by simp)]; simp [go_sem]) d os)|have l2:∀ d os,(Sort.grow (redrawn w1 d) os).cell? ⟨wr.heap.size,2,none⟩=some (.string zone):=fun d os=>cell_regrown (by rw [(eH hb1).1 _ _ (by simp)]; simp [go_sem]) d os
      by_cases hk0:k=0
      · subst hk0
        first|(guard_hyp jM0;have hst:=hid (jN (key:=aB.name) Hf.out HE.out (.inl rfl)))|have hst:=hid (jN (key:=av.name) Hf.out HE.out (.inl rfl))
        first
         |(
          guard_hyp jM0
          clear c0 c1 c2 c3 c4 hb1 hx hA0 hA1)
         |(
          guard_hyp jM1
          clear c0 c1 c2 hb1 hx hA0 hA1)
        go_wp2_with fail
        refine wp_region_quiet_below (by kernel_rfl) (by kernel_rfl) ?_
        repeat (go_big_quiet_step (fail))
        refine wpQuiet_nil ?_
        intro _ hw'
        obtain⟨⟨nq,osq⟩,hw''⟩:=hw'
        subst hw''
        have hb2:=hid (hB1.out.trans ((below_regrown w1 nq osq).mono hB1.out.size))
        first
         |(
          guard_hyp jM0
          clear l0 l1 l2 l3 l4)
         |(
          guard_hyp jM1
          clear l0 l1 l2)
        dsimp only
        generalize Sort.grow (redrawn w1 nq) osq=w2 at hb2 ⊢
        go_wp2
        go_roundw
        case rel=>exact⟨1,by omega,by go_num,by rw [← hst.out]; exact jP.out,hb2.out⟩
        case measure=>simp [intOf]; omega
      · obtain⟨y,hy⟩:∃ y,xs[k - 1]? = some y:=⟨_,List.getElem?_eq_getElem (by rw [Hl.out]; omega)⟩
        first|(guard_hyp jM0;obtain⟨b',off',hbo,yT,hp⟩:=(hx.below hb).dF aN Hl.out hy)|obtain⟨b',off',hbo,yT,hp⟩:=(hx.below hb).dF bF Hl.out hy
        obtain⟨rfl,rfl⟩:b=b'∧off=off':=by simpa using hbo
        have Hy:=hid hy
        obtain⟨Y,hY⟩:∃ Y,Y=y:=⟨_,rfl⟩
        first
         |(
          guard_hyp jM0
          obtain⟨name',Pd,need',Mt,tag'⟩:=y)
         |(
          guard_hyp jM1
          obtain⟨name',room',Pe⟩:=y)
        first|(guard_hyp jM0;have q0:wr.cell? ⟨b,off+(k - 1)*5,none⟩=some (.string name'):=hp 0 _ rfl)|have q0:wr.cell? ⟨b,off+(k - 1)*3,none⟩=some (.string name'):=hp 0 _ rfl
        first
         |(
          guard_hyp jM0
          have q1:wr.cell? ⟨b,off+(k - 1)*5+1,none⟩=some (.int .i64 Pd):=hp 1 _ rfl
          have q2:wr.cell? ⟨b,off+(k - 1)*5+2,none⟩=some (.int .i64 need'):=hp 2 _ rfl)
         |skip
        first|(guard_hyp jM0;have q3:wr.cell? ⟨b,off+(k - 1)*5+3,none⟩=some (.int .i64 Mt):=hp 3 _ rfl)|have q1:wr.cell? ⟨b,off+(k - 1)*3+1,none⟩=some (.int .i64 room'):=hp 1 _ rfl
        first|(guard_hyp jM0;have q4:wr.cell? ⟨b,off+(k - 1)*5+4,none⟩=some (.string tag'):=hp 4 _ rfl)|have q2:wr.cell? ⟨b,off+(k - 1)*3+2,none⟩=some (.string Pe):=hp 2 _ rfl
        first|(guard_hyp jM0;have p0:∀ d os,(Sort.grow (redrawn w1 d) os).cell? ⟨b,off+(k - 1)*5,none⟩=some (.string name'):=fun d os=>cell_regrown (((eH hA1).1 _ _ hlb).trans q0) d os)|have p0:∀ d os,(Sort.grow (redrawn w1 d) os).cell? ⟨b,off+(k - 1)*3,none⟩=some (.string name'):=fun d os=>cell_regrown (((eH hA1).1 _ _ hlb).trans q0) d os
        first|(guard_hyp jM0;have p1:∀ d os,(Sort.grow (redrawn w1 d) os).cell? ⟨b,off+(k - 1)*5+1,none⟩=some (.int .i64 Pd):=fun d os=>cell_regrown (((eH hA1).1 _ _ hlb).trans q1) d os)|have p1:∀ d os,(Sort.grow (redrawn w1 d) os).cell? ⟨b,off+(k - 1)*3+1,none⟩=some (.int .i64 room'):=fun d os=>cell_regrown (((eH hA1).1 _ _ hlb).trans q1) d os
        first
         |(
          guard_hyp jM0
          have p2:∀ d os,(Sort.grow (redrawn w1 d) os).cell? ⟨b,off+(k - 1)*5+2,none⟩=some (.int .i64 need'):=fun d os=>cell_regrown (((eH hA1).1 _ _ hlb).trans q2) d os
          have p3:∀ d os,(Sort.grow (redrawn w1 d) os).cell? ⟨b,off+(k - 1)*5+3,none⟩=some (.int .i64 Mt):=fun d os=>cell_regrown (((eH hA1).1 _ _ hlb).trans q3) d os)
         |skip
        first|(guard_hyp jM0;have p4:∀ d os,(Sort.grow (redrawn w1 d) os).cell? ⟨b,off+(k - 1)*5+4,none⟩=some (.string tag'):=fun d os=>cell_regrown (((eH hA1).1 _ _ hlb).trans q4) d os)|have p2:∀ d os,(Sort.grow (redrawn w1 d) os).cell? ⟨b,off+(k - 1)*3+2,none⟩=some (.string Pe):=fun d os=>cell_regrown (((eH hA1).1 _ _ hlb).trans q2) d os
        first
         |(
          guard_hyp jM0
          clear q0 q1 q2 q3 q4 c0 c1 c2 c3 c4 hp hy hY hb1 hx hA0 hA1)
         |(
          guard_hyp jM1
          clear q0 q1 q2 c0 c1 c2 hp hy hY hb1 hx hA0 hA1)
        have hkp:decide ((0:Int)<(k:Int))=true:=decide_eq_true (by omega)
        have hkn:0<k:=by omega
        have hlt2:=hid (iH name'.toList name.toList)
        obtain⟨B,hB⟩:∃ B,Op.bytesLess name'.toList name.toList=B:=⟨_,rfl⟩
        have HL:=hid hB
        cases B
        · have e1:(Op.bytesLess name.toList name'.toList || name.toList == name'.toList)=true:=by rw [← hlt2.out,hB]; rfl
          first|(guard_hyp jM0;have hst:=hid (pX (key:=aB.name) Hf.out HE.out hk0 Hy.out HL.out))|have hst:=hid (pX (key:=av.name) Hf.out HE.out hk0 Hy.out HL.out)
          clear hB
          go_wp2_with fail
          refine wp_region_quiet_below (by kernel_rfl) (by kernel_rfl) ?_
          first
           |(
            guard_hyp jM0
            repeat (go_big_quiet_step ((go_at_call 49; exact Calls.regrown_of (fT _ _ _ _ _ _)))))
           |(
            guard_hyp jM1
            repeat (go_big_quiet_step ((go_at_call 51; exact Calls.regrown_of (iD _ _ _ _)))))
          refine wpQuiet_nil ?_
          intro _ hw'
          obtain⟨⟨nq,osq⟩,hw''⟩:=hw'
          subst hw''
          have hb2:=hid (hB1.out.trans ((below_regrown w1 nq osq).mono hB1.out.size))
          first
           |(
            guard_hyp jM0
            clear l0 l1 l2 l3 l4 p0 p1 p2 p3 p4)
           |(
            guard_hyp jM1
            clear l0 l1 l2 p0 p1 p2)
          dsimp only
          generalize Sort.grow (redrawn w1 nq) osq=w2 at hb2 ⊢
          go_wp2
          go_ret
          exact⟨bU (by rw [← jP.out]; exact hst.out.symm),hb2.out⟩
        · have e1:(Op.bytesLess name.toList name'.toList || name.toList == name'.toList)=false:=by rw [← hlt2.out,hB]; rfl
          first|(guard_hyp jM0;have hst:=hid (jN (key:=aB.name) Hf.out HE.out (.inr ⟨_,Hy.out,HL.out⟩)))|have hst:=hid (jN (key:=av.name) Hf.out HE.out (.inr ⟨_,Hy.out,HL.out⟩))
          clear hB
          go_wp2_with fail
          refine wp_region_quiet_below (by kernel_rfl) (by kernel_rfl) ?_
          first
           |(
            guard_hyp jM0
            repeat (go_big_quiet_step ((go_at_call 49; exact Calls.regrown_of (fT _ _ _ _ _ _)))))
           |(
            guard_hyp jM1
            repeat (go_big_quiet_step ((go_at_call 51; exact Calls.regrown_of (iD _ _ _ _)))))
          refine wpQuiet_nil ?_
          intro _ hw'
          obtain⟨⟨nq,osq⟩,hw''⟩:=hw'
          subst hw''
          have hb2:=hid (hB1.out.trans ((below_regrown w1 nq osq).mono hB1.out.size))
          first
           |(
            guard_hyp jM0
            clear l0 l1 l2 l3 l4 p0 p1 p2 p3 p4)
           |(
            guard_hyp jM1
            clear l0 l1 l2 p0 p1 p2)
          dsimp only
          generalize Sort.grow (redrawn w1 nq) osq=w2 at hb2 ⊢
          go_wp2
          go_roundw
          case rel=>exact⟨k+1,by omega,by go_num,by rw [← hst.out]; exact jP.out,hb2.out⟩
          case measure=>simp [intOf]; omega
    · first|(guard_hyp jM0;have hst:=hid (uL (E:=eZ) (key:=aB.name) Hf.out (by rw [HE.out]; exact he)))|have hst:=hid (uL (E:=eV) (key:=av.name) Hf.out (by rw [HE.out]; exact he))
      have e1:(E == 0)=false:=beq_eq_false_iff_ne.2 he
      have e2:(E != 0)=true:=bne_iff_ne.2 he
      first
       |(
        guard_hyp jM0
        clear c0 c1 c2 c3 c4 hb1 hx hA0 hA1)
       |(
        guard_hyp jM1
        clear c0 c1 c2 hb1 hx hA0 hA1)
      go_wp2
      go_ret
      exact⟨bU (by rw [← jP.out,hst.out]; exact HE.out.symm),hB1.out⟩
  · obtain rfl:k=n:=by omega
    have fin:=hid (show R=0 by rw [← jP.out]; exact Ah (by rw [Hl.out]; exact Nat.le_refl _) _)
    clear hb hx
    go_wp2
    go_ret
    exact⟨bU fin.out.symm,Hb.out⟩)
structure StA where
 aj:Option Addr
 nj:Nat
 cj:Nat
 an:Option Addr
 nn:Nat
 cn:Nat
 al:Option Addr
 nl:Nat
 cl:Nat
def stC (st:ah) (x:StA):Array Value:=#[.int .i64 st.rev,.slice x.aj x.nj x.cj,.slice x.an x.nn x.cn,.slice x.al x.nl x.cl]
structure StAt (w:World) (B:Nat) (st:ah) (x:StA):Prop where
 j:aQ w B 5 x.aj x.nj (au aH st.jobs)
 n:aQ w B 3 x.an x.nn (au aI st.nodes)
 l:aQ w B 3 x.al x.nl (au aE st.leases)
 lj:st.jobs.length=x.nj
 ln:st.nodes.length=x.nn
 ll:st.leases.length=x.nl
 bj:x.nj≤9223372036854775807
 bn:x.nn≤9223372036854775807
 bl:x.nl≤9223372036854775807
 oj:nP st.jobs
 on_:kX st.nodes
 ol:ji st.leases
theorem StAt.below {w w':World} {B:Nat} {st:ah} {x:StA} (h:StAt w B st x) (hb:Below B w w'):StAt w' B st x:=
 ⟨h.j.below hb,h.n.below hb,h.l.below hb,h.lj,h.ln,h.ll,h.bj,h.bn,h.bl,h.oj,h.on_,h.ol⟩
theorem StAt.more {w:World} {B B':Nat} {st:ah} {x:StA} (h:StAt w B st x) (hB:B≤B'):StAt w B' st x:=
 ⟨h.j.more hB,h.n.more hB,h.l.more hB,h.lj,h.ln,h.ll,h.bj,h.bn,h.bl,h.oj,h.on_,h.ol⟩
theorem below_grown {w0 a b:World} {g:Nat} (hb:Below w0.heap.size w0 a) (hg:a.grownBy b (some g)) (h:w0.heap.size≤g):Below w0.heap.size w0 b:=
 ⟨hg.os.trans hb.os,hg.tape.trans hb.tape,hg.output.trans hb.output,Nat.le_trans hb.size hg.size,fun k hk=>
  (hg.block k (Nat.lt_of_lt_of_le hk hb.size) (by simp; omega)).trans (hb.block k hk)⟩
section
variable {w w':World} {T b1 b2 b3 n1 n2 n3 m:Nat} {g1 g2 g3 g:ByteArray→Option Value}
theorem ig.Ot (h:ig w T b1 b2 b3 n1 n2 n3 g1 g2 g3) (hg:w.grownBy w' (some b1)) (h2:b2≠b1) (h3:b3≠b1) (hT:T≠b1) (hm:bT w' b1 m g):ig w' T b1 b2 b3 m n2 n3 g g2 g3:=
 ⟨(hg.block T h.t.lt (by simp [hT])).trans h.t,hm,h.m2.but hg h2,h.m3.but hg h3⟩
theorem ig.Mm (h:ig w T b1 b2 b3 n1 n2 n3 g1 g2 g3) (hg:w.grownBy w' (some b2)) (h1:b1≠b2) (h3:b3≠b2) (hT:T≠b2) (hm:bT w' b2 m g):ig w' T b1 b2 b3 n1 m n3 g1 g g3:=
 ⟨(hg.block T h.t.lt (by simp [hT])).trans h.t,h.m1.but hg h1,hm,h.m3.but hg h3⟩
end
theorem J8 {l:List aB} (h:bM eZ aB.name l=0) {k:Nat} {x:aB} (hx:l[k]? = some x) (s:ByteArray) :
 ru (l.take (k+1)) s=if s=x.name then some (.agg (aH x).toArray) else ru (l.take k) s:=by
 unfold ru eu
 rw [rI aB.name (Aq h) hx s]
 split <;> rfl
theorem GP {l:List av} (h:bM eV av.name l=0) {k:Nat} {x:av} (hx:l[k]? = some x) (s:ByteArray) :
 nB (l.take (k+1)) s=if s=x.name then some (.agg (aI x).toArray) else nB (l.take k) s:=by
 unfold nB dX
 rw [rI av.name (Aq h) hx s]
 split <;> rfl
structure EV (w0 wr:World) (st:ah) (x:StA) (S T b1 b2 b3 n1 n2 n3:Nat) (g1 g2 g3:ByteArray→Option Value):Prop where
 below:Below w0.heap.size w0 wr
 box:Blk wr S 26 (stC st x)
 tabs:ig wr T b1 b2 b3 n1 n2 n3 g1 g2 g3
def noG:ByteArray→Option Value:=fun _=>none
def EU (w:World):World:=(((w.alloc (.map #[] 0)).alloc (.map #[] 0)).alloc (.map #[] 0)).alloc (.cells #[.map (some w.heap.size),.map (some (w.heap.size+1)),.map (some (w.heap.size+1+1))] 161)
theorem rB (w:World):Below w.heap.size w (EU w):=
 ((((Below.refl w.heap.size w).alloc (Nat.le_refl _) _).alloc (by simp) _).alloc (by simp; omega) _).alloc (by simp; omega) _
theorem GO (w:World):ig (EU w) (w.heap.size+1+1+1) w.heap.size (w.heap.size+1) (w.heap.size+1+1) 0 0 0 noG noG noG:=by
 have m1:=bT.made w
 have m2:=bT.made (w.alloc (.map #[] 0))
 have m3:=bT.made ((w.alloc (.map #[] 0)).alloc (.map #[] 0))
 have up:∀ (W:World) (o:Obj),Below W.heap.size W (W.alloc o):=fun W o=>(Below.refl _ _).alloc (Nat.le_refl _) o
 have e1:(w.alloc (.map #[] 0)).heap.size=w.heap.size+1:=by simp
 have e2:((w.alloc (.map #[] 0)).alloc (.map #[] 0)).heap.size=w.heap.size+1+1:=by simp
 have e3:(((w.alloc (.map #[] 0)).alloc (.map #[] 0)).alloc (.map #[] 0)).heap.size=w.heap.size+1+1+1:=by simp
 have hB:=heap_alloc_new (((w.alloc (.map #[] 0)).alloc (.map #[] 0)).alloc (.map #[] 0)) (.cells #[.map (some w.heap.size),.map (some (w.heap.size+1)),.map (some (w.heap.size+1+1))] 161)
 rw [e1] at m2
 rw [e2] at m3
 rw [e3] at hB
 refine⟨hB,?_,?_,?_⟩
 · exact ((m1.below (up _ _) m1.lt).below (up _ _) (by simp; omega)).below (up _ _) (by simp; omega)
 · exact (m2.below (up _ _) m2.lt).below (up _ _) (by simp)
 · exact m3.below (up _ _) m3.lt
def Db (st:ah) (w:World) (e:Ending) (w':World):Prop:=
 Below w.heap.size w w'∧((ay st≠0∧e = .returned (.tuple #[.pointer none,.int .i64 (ay st)])) ∨
  (ay st=0∧∃ T b1 b2 b3 n1 n2 n3 g3,e = .returned (.tuple #[.pointer (some ⟨T,0,none⟩),.int .i64 0])∧ig w' T b1 b2 b3 n1 n2 n3 (ru st.jobs) (nB st.nodes) g3∧pW g3 (uH st)))
theorem Db.bad {st:ah} {w w':World} {E:Int} (h:ay st=E) (hE:E≠0) (hb:Below w.heap.size w w'):Db st w (.returned (.tuple #[.pointer none,.int .i64 E])) w':=⟨hb,.inl ⟨by rw [h]; exact hE,by rw [h]⟩⟩
theorem F8 {st:ah} (h:ranged st.rev 0 1099511627776=false):ay st=1:=by unfold ay; rw [if_pos h]
theorem qT {st:ah} (h:ranged st.rev 0 1099511627776=true) (h2:dR st=false):ay st=2:=by unfold ay; rw [if_neg (by rw [h]; simp),if_pos h2]
theorem IG {st:ah} (h:ranged st.rev 0 1099511627776=true) (h2:dR st=true) (h3:bM eZ aB.name st.jobs≠0):ay st=bM eZ aB.name st.jobs:=by
 unfold ay; rw [if_neg (by rw [h]; simp),if_neg (by rw [h2]; simp),if_pos h3]
theorem ET {st:ah} (h:ranged st.rev 0 1099511627776=true) (h2:dR st=true) (h3:bM eZ aB.name st.jobs=0) (h4:bM eV av.name st.nodes≠0):ay st=bM eV av.name st.nodes:=by
 unfold ay; rw [if_neg (by rw [h]; simp),if_neg (by rw [h2]; simp),if_neg (by simp [h3]),if_pos h4]
theorem II {st:ah} (h:ranged st.rev 0 1099511627776=true) (h2:dR st=true) (h3:bM eZ aB.name st.jobs=0) (h4:bM eV av.name st.nodes=0) :
 ay st=if bM (eN st) ak.job st.leases≠0 then bM (eN st) ak.job st.leases else if om st=true then 0 else 9:=by
 unfold ay; rw [if_neg (by rw [h]; simp),if_neg (by rw [h2]; simp),if_neg (by simp [h3]),if_neg (by simp [h4])]
def Q8 (w0 wr:World) (st:ah) (x:StA) (b nj:Nat) (i:Value):Prop:=∃ k:Nat,k≤nj∧i = .int .i64 k∧EV w0 wr st x w0.heap.size (b+1+1+1) b (b+1) (b+1+1) k 0 0 (ru (st.jobs.take k)) noG noG
def Q9 (w0 wr:World) (st:ah) (x:StA) (b n1 nn:Nat) (i:Value):Prop:=∃ k:Nat,k≤nn∧i = .int .i64 k∧EV w0 wr st x w0.heap.size (b+1+1+1) b (b+1) (b+1+1) n1 k 0 (ru st.jobs) (nB (st.nodes.take k)) noG
def uQ (st:ah) (l:List av):Bool:=l.all fun n=>decide (uH st n.name≤n.room)
theorem Be {st:ah} {l:List av} {k:Nat} {x:av} (h:l[k]? = some x):uQ st (l.drop k)=(decide (uH st x.name≤x.room) && uQ st (l.drop (k+1))):=by
 rw [drop_cons h]; rfl
def Ra (w0 wr:World) (st:ah) (x:StA) (b n1 n2 n3:Nat) (g3:ByteArray→Option Value) (nn:Nat) (i:Value):Prop:=
 ∃ k:Nat,k≤nn∧i = .int .i64 k∧EV w0 wr st x w0.heap.size (b+1+1+1) b (b+1) (b+1+1) n1 n2 n3 (ru st.jobs) (nB st.nodes) g3∧uQ st (st.nodes.drop k)=om st
end Go.Proofs.YtcpgnjmaampglaaGreatDoor
