/- Of the proof of a statement: BSearch, RowsC. -/
import Derived.Lib.QuietBelow
import Derived.Deep.QuietTactic
import Derived.BigQuiet
import Derived.Test.YtcpgnjmaampglaaGreatDoorWRPh
import Derived.Test.YtcpgnjmaampglaaGreatDoorWRowsP
set_option linter.unusedVariables false
set_option linter.unusedSimpArgs false
set_option maxRecDepth 100000
set_option maxHeartbeats 8000000
/- slices.BinarySearchFunc and serve.place. -/
namespace Go.Proofs.YtcpgnjmaampglaaGreatDoor
open Go.Lib (hid)
open Go.RowKit
def Compares {α:Type} (key:α→ByteArray) (s:ByteArray) (F:FuncId) (caps:Array Value) (enc:α→List Value) (xs:List α) (w:World):Prop:=
 ∀ W,Below w.heap.size w W→∀ x ∈ xs,Calls Tryz.prog F (#[.agg (enc x).toArray,.string s] ++ caps) W fun e W'=>e = .returned (.int .i64 (oq (key x) s))∧Below W.heap.size W W'
def vZ {α:Type} (key:α→ByteArray) (xs:List α) (s:ByteArray) (w:World) (e:Ending) (w':World):Prop:=
 e = .returned (.tuple #[.int .i64 (iw key xs s),.bool (isL key xs s)])∧Below w.heap.size w w'
def Rd {α:Type} (key:α→ByteArray) (xs:List α) (s:ByteArray) (w:World) (i j:Value) (wr:World):Prop:=
 ∃ p q:Nat,i = .int .i64 p∧j = .int .i64 q∧ku key xs s p q∧Below w.heap.size w wr
theorem Ox (s:ByteArray) (F:FuncId) (caps:Array Value) (xs:List aB) (A:Option Addr) (n c:Nat) (w:World) (hent:∀ args w,(callFunc F args).run Tryz.prog w = .ok (.enter F args) w) (hx:aQ w w.heap.size 5 A n (au aH xs)) (hl:xs.length=n) (hn:n≤1000) (hs:aT aB.name xs) (hp:Compares aB.name s F caps aH xs w) :
 Calls Tryz.prog 276 #[.slice A n c,.string s,.func (.func F) #[] caps] w (vZ aB.name xs s w):=by
 have Hl:=hid hl
 have Hp:=hid hp
 have Hs:=hid hs
 have HX:=hid hx
 have H0:=hid (show ku aB.name xs s 0 n from hl ▸ ku.start xs s)
 clear hl hp hs hx
 go_enter Tryz.func276,Tryz.ntmps276
 go_wp2
 go_loopw [9,10,11] (fun i j _ wr=>Rd aB.name xs s w i j wr) (fun i j _ _=>(intOf j).toNat - (intOf i).toNat)
 case atStart=>exact⟨0,n,rfl,rfl,H0.out,Below.refl _ _⟩
 case round=>
  obtain⟨p,q,rfl,rfl,hH,hb⟩:=hrel
  have hpq:=hH.1
  have hqn:q≤n:=by have:=hH.2.1; have:=Hl.out; omega
  have HH:=hid hH
  have Hb:=hid hb
  have hsz:=hb.size
  clear hH
  by_cases hlt:p<q
  · have h1:p≤(p+q) / 2:=by omega
    have h2:(p+q) / 2<q:=by omega
    obtain⟨x,hf⟩:∃ x,xs[(p+q) / 2]? = some x:=⟨_,List.getElem?_eq_getElem (by rw [Hl.out]; omega)⟩
    obtain⟨b,off,rfl,hbB,hc⟩:=(HX.out.below hb).dF aN Hl.out hf
    have Hf:=hid hf
    have hcon:=hid (Hp.out wr hb x (List.mem_of_getElem? hf))
    obtain⟨t,ht⟩:∃ t,oq (aB.name x) s=t:=⟨_,rfl⟩
    rw [ht] at hcon
    have hneg:=zw (a:=aB.name x) (b:=s)
    rw [ht] at hneg
    have Hneg:=hid hneg
    obtain⟨name,prio,need,tries,tag⟩:=x
    obtain⟨c0,c1,c2,c3,c4⟩:=rc5 hc
    have hcon:=hid (show Calls Tryz.prog F (#[.agg #[.string name,.int .i64 prio,.int .i64 need,.int .i64 tries,.string tag],.string s] ++ caps) wr fun e W'=>e = .returned (.int .i64 t)∧Below wr.heap.size wr W' from hcon.out)
    clear hc hf hb ht hneg
    have hlb:b<wr.heap.size:=by omega
    go_wp2_with fail
    refine Calls.mono hcon.out ?_
    rintro e w2 ⟨rfl,hb2⟩
    have Hb2:=hid (Hb.out.trans (hb2.mono Hb.out.size))
    clear hcon hb2 c0 c1 c2 c3 c4
    by_cases htn:t<0
    · have fin:=hid (HH.out.low Hs.out h2 Hf.out (Hneg.out.1 htn))
      have d1:decide (t<0)=true:=decide_eq_true htn
      clear htn
      go_wp2
      go_roundw
      case rel=>exact⟨(p+q) / 2+1,q,by go_num,rfl,fin.out,Hb2.out⟩
      case measure=>simp [intOf]; omega
    · have fin:=hid (HH.out.high Hs.out h1 Hf.out (by
       rw [← Bool.not_eq_true]; exact fun h=>htn (Hneg.out.2 h)))
      have d1:decide (t<0)=false:=decide_eq_false htn
      clear htn
      go_wp2
      go_roundw
      case rel=>exact⟨p,(p+q) / 2,rfl,by go_num,fin.out,Hb2.out⟩
      case measure=>simp [intOf]; omega
  · obtain rfl:q=p:=by omega
    have hpos:=HH.out.pos
    have his:isL aB.name xs s=match xs[q]? with | some a=>decide (aB.name a=s) | none=>false:=by
     unfold isL; rw [hpos]
     cases xs[q]? <;> rfl
    have bJ:=hid (fun (t:Bool) (W:World) (ht:isL aB.name xs s=t) (hW:Below w.heap.size w W)=>(show vZ aB.name xs s w (.returned (.tuple #[.int .i64 q,.bool t])) W from ⟨by rw [hpos,ht],hW⟩))
    clear hpos
    by_cases hq:q<n
    · obtain⟨x,hf⟩:∃ x,xs[q]? = some x:=⟨_,List.getElem?_eq_getElem (by rw [Hl.out]; omega)⟩
      obtain⟨b,off,rfl,hbB,hc⟩:=(HX.out.below hb).dF aN Hl.out hf
      rw [hf] at his
      have hcon:=hid (Hp.out wr hb x (List.mem_of_getElem? hf))
      obtain⟨t,ht⟩:∃ t,oq (aB.name x) s=t:=⟨_,rfl⟩
      rw [ht] at hcon
      have hzero:=J7 (a:=aB.name x) (b:=s)
      rw [ht] at hzero
      have Pc:=hid hzero
      have His:=hid his
      obtain⟨name,prio,need,tries,tag⟩:=x
      obtain⟨c0,c1,c2,c3,c4⟩:=rc5 hc
      have hcon:=hid (show Calls Tryz.prog F (#[.agg #[.string name,.int .i64 prio,.int .i64 need,.int .i64 tries,.string tag],.string s] ++ caps) wr fun e W'=>e = .returned (.int .i64 t)∧Below wr.heap.size wr W' from hcon.out)
      clear hc hf hb ht hzero his hlt hpq
      have hlb:b<wr.heap.size:=by omega
      go_wp2_with fail
      refine Calls.mono hcon.out ?_
      rintro e w2 ⟨rfl,hb2⟩
      have Hb2:=hid (Hb.out.trans (hb2.mono Hb.out.size))
      clear hcon hb2 c0 c1 c2 c3 c4
      have cX:=hid (bJ.out (t == 0) w2 (by
       rw [His.out]
       by_cases h:t=0
       · rw [beq_iff_eq.2 h]; exact decide_eq_true (Pc.out.1 h)
       · rw [beq_eq_false_iff_ne.2 h]; exact decide_eq_false (fun e=>h (Pc.out.2 e))) Hb2.out)
      go_wp2
      go_ret2
      exact cX.out
    · rw [List.getElem?_eq_none (by rw [Hl.out]; omega)] at his
      have cX:=hid (bJ.out false wr his hb)
      clear his hb hlt hpq
      go_wp2
      go_ret2
      exact cX.out
theorem Oy (s:ByteArray) (xs:List aB) (kb:Nat) (w:World) (hk:w.cell? ⟨kb,0,none⟩=some (.func (.func 49) #[] #[])):Compares aB.name s 277 #[.pointer (some ⟨kb,0,none⟩)] aH xs w:=by
 intro W hb x hx
 have hkl:=block_lt_of_cell hk
 have hW:=(hb.cell (p:=⟨kb,0,none⟩) hkl).trans hk
 have hWl:kb<W.heap.size:=Nat.lt_of_lt_of_le hkl hb.size
 have heg:=enters_of Tryz.func49 (by kernel_rfl) rfl
 obtain⟨t,ht⟩:∃ t,oq (aB.name x) s=t:=⟨_,rfl⟩
 have HC:=hid (fun W=>wR (aB.name x) s W)
 simp only [ht] at HC
 rw [ht]
 obtain⟨name,prio,need,tries,tag⟩:=x
 show Calls Tryz.prog 277 #[.agg #[.string name,.int .i64 prio,.int .i64 need,.int .i64 tries,.string tag],.string s,.pointer (some ⟨kb,0,none⟩)] W fun e W'=>e = .returned (.int .i64 t)∧Below W.heap.size W W'
 clear hk hx ht hb hkl
 go_enter Tryz.func277,Tryz.ntmps277
 go_wp2_with fail
 refine Calls.mono (fT name prio need tries tag _) ?_
 rintro e w1 ⟨rfl,hb1⟩
 have Hb1:=hid (((Below.refl W.heap.size W).alloc (Nat.le_refl _) _).trans (hb1.mono (by simp)))
 clear hb1 hW
 go_wp2_with fail
 refine Calls.mono (HC.out _) ?_
 rintro e w2 ⟨rfl,rfl⟩
 go_wp2
 go_ret
 exact⟨rfl,Hb1.out⟩
theorem Jt (s:ByteArray) (xs:List aB) (A:Option Addr) (n c:Nat) (w:World) (hx:aQ w w.heap.size 5 A n (au aH xs)) (hl:xs.length=n) (hn:n≤1000) (hs:aT aB.name xs) :
 Calls Tryz.prog 247 #[.slice A n c,.string s,.func (.func 49) #[] #[]] w (vZ aB.name xs s w):=by
 have hb1:Below w.heap.size w (w.alloc (.cells #[.func (.func 49) #[] #[]] 108)):=(Below.refl _ _).alloc (Nat.le_refl _) _
 have hk:(w.alloc (.cells #[.func (.func 49) #[] #[]] 108)).cell? ⟨w.heap.size,0,none⟩=some (.func (.func 49) #[] #[]):=by
  rw [cell_of_row _ _ 0 _ _ _ (heap_alloc_new w _)]; rfl
 have H:=hid (Ox s 277 #[.pointer (some ⟨w.heap.size,0,none⟩)] xs A n c _ (enters_of Tryz.func277 (by kernel_rfl) rfl) ((hx.below hb1).more hb1.size) hl hn hs (Oy s xs _ _ hk))
 have Hf:=hid (fun (t:Nat) (i:Bool) (W:World) (h1:iw aB.name xs s=t) (h2:isL aB.name xs s=i) (hW:Below w.heap.size w W)=>(show vZ aB.name xs s w (.returned (.tuple #[.int .i64 t,.bool i])) W from ⟨by rw [h1,h2],hW⟩))
 unfold vZ at H
 obtain⟨t,ht⟩:∃ t,iw aB.name xs s=t:=⟨_,rfl⟩
 obtain⟨i,hi⟩:∃ i,isL aB.name xs s=i:=⟨_,rfl⟩
 rw [ht,hi] at H
 have bJ:=hid (fun W hW=>Hf.out t i W ht hi hW)
 have Hb1:=hid hb1
 clear hb1 hk hx hl hs ht hi Hf
 go_enter Tryz.func247,Tryz.ntmps247
 go_wp2_with fail
 refine Calls.mono H.out ?_
 rintro e w2 ⟨rfl,hb2⟩
 have cX:=hid (bJ.out w2 (Hb1.out.trans (hb2.mono Hb1.out.size)))
 clear hb2
 go_wp2
 go_ret2
 exact cX.out
theorem qN (n lo hi:Int) (w:World):Calls Tryz.prog 99 #[.int .i64 n,.int .i64 lo,.int .i64 hi] w fun e w'=>e = .returned (.bool (ranged n lo hi))∧w=w':=by
 cases h:ranged n lo hi
 · have h:=mW.1 h
   by_cases h1:lo≤n
   · have e2:decide (n≤hi)=false:=decide_eq_false (by omega)
     clear h
     go_enter Tryz.func99,Tryz.ntmps99
     go_wp2
     go_ret
     exact⟨rfl,rfl⟩
   · have e1:decide (lo≤n)=false:=decide_eq_false h1
     clear h
     go_enter Tryz.func99,Tryz.ntmps99
     go_wp2
     go_ret
     exact⟨rfl,rfl⟩
 · have h:=aZ.1 h
   have h1:=h.1
   have e2:decide (n≤hi)=true:=decide_eq_true h.2
   clear h
   go_enter Tryz.func99,Tryz.ntmps99
   go_wp2
   go_ret
   exact⟨rfl,rfl⟩
theorem Au (l:ak) (w:World) (h1:l.job.size≤9223372036854775807) (h2:l.node.size≤9223372036854775807) (hT:Tabs w) :
 Calls Tryz.prog 100 #[.agg (aE l).toArray] w fun e w'=>e = .returned (.int .i64 (lsE l))∧Below w.heap.size w w':=by
 obtain⟨E,hE⟩:∃ E,lsE l=E:=⟨_,rfl⟩
 rw [hE]
 have HE:=hid hE
 clear hE
 obtain⟨job,node,till⟩:=l
 unfold aE
 simp only at h1 h2 ⊢
 have hb0:Below w.heap.size w (w.alloc (.cells #[.string job,.string node,.int .i64 till] 63)):=(Below.refl _ _).alloc (Nat.le_refl _) _
 have hT0:=hT.below hb0
 have hN:=hid (mV job _ h1 hT0)
 have HT:=hid hT0
 have HB:=hid hb0
 clear hT0 hb0 hT
 go_enter Tryz.func100,Tryz.ntmps100
 go_wp2_with fail
 refine Calls.mono hN.out ?_
 rintro e w1 ⟨rfl,hb1⟩
 have y1:w1.cell? ⟨w.heap.size,1,none⟩=some (.string node):=by rw [(eH hb1).1 _ _ (by simp)]; simp [go_sem]
 have y2:w1.cell? ⟨w.heap.size,2,none⟩=some (.int .i64 till):=by rw [(eH hb1).1 _ _ (by simp)]; simp [go_sem]
 have HB1:=hid (HB.out.trans (hb1.mono HB.out.size))
 have HT1:=hid (HT.out.below hb1)
 have hsz:w.heap.size<w1.heap.size:=by have:=hb1.size; simp at this; omega
 clear hb1 HB HT hN
 cases hn:cK job
 · go_wp2
   go_ret
   exact⟨bU (by rw [← HE.out]; simp [lsE,hn]),HB1.out⟩
 go_wp2_with fail
 refine Calls.mono (mV node w1 h2 HT1.out) ?_
 rintro e w2 ⟨rfl,hb2⟩
 replace y2:=((eH hb2).1 _ _ hsz).trans y2
 have HB2:=hid (HB1.out.trans (hb2.mono HB1.out.size))
 clear y1 hb2 HB1 HT1 hsz
 cases ht:cK node
 · go_wp2
   go_ret
   exact⟨bU (by rw [← HE.out]; simp [lsE,hn,ht]),HB2.out⟩
 go_wp2_with fail
 refine Calls.mono (qN _ _ _ _) ?_
 rintro e w3 ⟨rfl,rfl⟩
 cases hr1:ranged till 0 1099511627776
 · go_wp2
   go_ret
   exact⟨bU (by rw [← HE.out]; simp [lsE,hn,ht,hr1]),HB2.out⟩
 · go_wp2
   go_ret
   exact⟨bU (by rw [← HE.out]; simp [lsE,hn,ht,hr1]),HB2.out⟩
def Kb (xs:List ak):Prop:=∀ x ∈ xs,x.job.size≤9223372036854775807∧x.node.size≤9223372036854775807
def Kc (xs:List ak) (n:Nat) (R:Int) (w:World) (i:Value) (wr:World):Prop:=∃ k:Nat,k≤n∧i = .int .i64 k∧dS lsE ak.job (prevK ak.job xs k) (xs.drop k)=R∧Below w.heap.size w wr
theorem zq (xs:List ak) (A:Option Addr) (n c:Nat) (w:World) (hx:aQ w w.heap.size 3 A n (au aE xs)) (hl:xs.length=n) (hn:n≤9223372036854775807) (hok:Kb xs) (hT:Tabs w) :
 Calls Tryz.prog 84 #[.slice A n c,.func (.func 53) #[] #[],.func (.func 100) #[] #[]] w fun e w'=>e = .returned (.int .i64 (bM lsE ak.job xs))∧Below w.heap.size w w':=by
 obtain⟨R,hR⟩:∃ R,bM lsE ak.job xs=R:=⟨_,rfl⟩
 rw [hR]
 have HR:=hid hR
 have Hl:=hid hl
 have HT:=hid hT
 have Hok:=hid hok
 clear hl hR hT hok
 go_enter Tryz.func84,Tryz.ntmps84
 go_wp2
 go_loopw [6,7,8,9,12,19,28,35] (fun _ _ _ _ i _ _ _ wr=>Kc xs n R w i wr) (fun _ _ _ _ i _ _ _ _=>n - (intOf i).toNat)
 case atStart=>exact⟨0,Nat.zero_le _,rfl,by rw [← HR.out]; rfl,Below.refl _ _⟩
 case round=>
  obtain⟨k,hk,rfl,hrow,hb⟩:=hrel
  have jP:=hid hrow
  have Hb:=hid hb
  have hsz:=hb.size
  clear hrow
  by_cases hlt:k<n
  · obtain⟨x,hf⟩:∃ x,xs[k]? = some x:=⟨_,List.getElem?_eq_getElem (by rw [Hl.out]; exact hlt)⟩
    obtain⟨b,off,rfl,hbB,hc⟩:=(hx.below hb).dF bB Hl.out hf
    have hso:=hid (Hok.out x (List.mem_of_getElem? hf))
    have Hf:=hid hf
    have hkey:x.job=ak.job x:=rfl
    obtain⟨E,hE⟩:∃ E,lsE x=E:=⟨_,rfl⟩
    have HE:=hid hE
    obtain⟨X,hX⟩:∃ X,X=x:=⟨_,rfl⟩
    have HX:=hid hX
    obtain⟨job,node,till⟩:=x
    obtain⟨c0,c1,c2⟩:=rc3 hc
    clear hc hf hE hX hkey
    have hlb:b<wr.heap.size:=by omega
    have hT1:=hid (HT.out.below (Hb.out.alloc Hb.out.size (.cells #[.string job,.string node,.int .i64 till] 63)))
    have hBa:=hid (Hb.out.alloc Hb.out.size (.cells #[.string job,.string node,.int .i64 till] 63))
    go_wp2_with fail
    refine Calls.mono (Au ⟨job,node,till⟩ _ hso.out.1 hso.out.2 hT1.out) ?_
    rintro e w1 ⟨rfl,hb1⟩
    rw [HE.out]
    have hA0:=(Below.refl wr.heap.size wr).alloc (Nat.le_refl _) (.cells #[.string job,.string node,.int .i64 till] 63)
    have hA1:=hA0.trans (hb1.mono hA0.size)
    have hB1:=hid (hBa.out.trans (hb1.mono hBa.out.size))
    by_cases he:E=0
    · subst he
      have l0:∀ d os,(Sort.grow (redrawn w1 d) os).cell? ⟨wr.heap.size,0,none⟩=some (.string job):=fun d os=>cell_regrown (by rw [(eH hb1).1 _ _ (by simp)]; simp [go_sem]) d os
      have l1:∀ d os,(Sort.grow (redrawn w1 d) os).cell? ⟨wr.heap.size,1,none⟩=some (.string node):=fun d os=>cell_regrown (by rw [(eH hb1).1 _ _ (by simp)]; simp [go_sem]) d os
      have l2:∀ d os,(Sort.grow (redrawn w1 d) os).cell? ⟨wr.heap.size,2,none⟩=some (.int .i64 till):=fun d os=>cell_regrown (by rw [(eH hb1).1 _ _ (by simp)]; simp [go_sem]) d os
      by_cases hk0:k=0
      · subst hk0
        have hst:=hid (jN (key:=ak.job) Hf.out HE.out (.inl rfl))
        clear c0 c1 c2 hb1 hx hA0 hA1
        go_wp2_with fail
        refine wp_region_quiet_below (by kernel_rfl) (by kernel_rfl) ?_
        repeat (go_big_quiet_step (fail))
        refine wpQuiet_nil ?_
        intro _ hw'
        obtain⟨⟨nq,osq⟩,hw''⟩:=hw'
        subst hw''
        have hb2:=hid (hB1.out.trans ((below_regrown w1 nq osq).mono hB1.out.size))
        clear l0 l1 l2
        dsimp only
        generalize Sort.grow (redrawn w1 nq) osq=w2 at hb2 ⊢
        go_wp2
        go_roundw
        case rel=>exact⟨1,by omega,by go_num,by rw [← hst.out]; exact jP.out,hb2.out⟩
        case measure=>simp [intOf]; omega
      · obtain⟨y,hy⟩:∃ y,xs[k - 1]? = some y:=⟨_,List.getElem?_eq_getElem (by rw [Hl.out]; omega)⟩
        obtain⟨b',off',hbo,yT,hp⟩:=(hx.below hb).dF bB Hl.out hy
        obtain⟨rfl,rfl⟩:b=b'∧off=off':=by simpa using hbo
        have Hy:=hid hy
        obtain⟨Y,hY⟩:∃ Y,Y=y:=⟨_,rfl⟩
        obtain⟨tE,Md,Me⟩:=y
        obtain⟨q0,q1,q2⟩:=rc3 hp
        have p0:∀ d os,(Sort.grow (redrawn w1 d) os).cell? ⟨b,off+(k - 1)*3,none⟩=some (.string tE):=fun d os=>cell_regrown (((eH hA1).1 _ _ hlb).trans q0) d os
        have p1:∀ d os,(Sort.grow (redrawn w1 d) os).cell? ⟨b,off+(k - 1)*3+1,none⟩=some (.string Md):=fun d os=>cell_regrown (((eH hA1).1 _ _ hlb).trans q1) d os
        have p2:∀ d os,(Sort.grow (redrawn w1 d) os).cell? ⟨b,off+(k - 1)*3+2,none⟩=some (.int .i64 Me):=fun d os=>cell_regrown (((eH hA1).1 _ _ hlb).trans q2) d os
        clear q0 q1 q2 c0 c1 c2 hp hy hY hb1 hx hA0 hA1
        have hkp:decide ((0:Int)<(k:Int))=true:=decide_eq_true (by omega)
        have hkn:0<k:=by omega
        have hlt2:=hid (iH tE.toList job.toList)
        obtain⟨B,hB⟩:∃ B,Op.bytesLess tE.toList job.toList=B:=⟨_,rfl⟩
        have HL:=hid hB
        cases B
        · have e1:(Op.bytesLess job.toList tE.toList || job.toList == tE.toList)=true:=by rw [← hlt2.out,hB]; rfl
          have hst:=hid (pX (key:=ak.job) Hf.out HE.out hk0 Hy.out HL.out)
          clear hB
          go_wp2_with fail
          refine wp_region_quiet_below (by kernel_rfl) (by kernel_rfl) ?_
          repeat (go_big_quiet_step ((go_at_call 53; exact Calls.regrown_of (eP _ _ _ _))))
          refine wpQuiet_nil ?_
          intro _ hw'
          obtain⟨⟨nq,osq⟩,hw''⟩:=hw'
          subst hw''
          have hb2:=hid (hB1.out.trans ((below_regrown w1 nq osq).mono hB1.out.size))
          clear l0 l1 l2 p0 p1 p2
          dsimp only
          generalize Sort.grow (redrawn w1 nq) osq=w2 at hb2 ⊢
          go_wp2
          go_ret
          exact⟨bU (by rw [← jP.out]; exact hst.out.symm),hb2.out⟩
        · have e1:(Op.bytesLess job.toList tE.toList || job.toList == tE.toList)=false:=by rw [← hlt2.out,hB]; rfl
          have hst:=hid (jN (key:=ak.job) Hf.out HE.out (.inr ⟨_,Hy.out,HL.out⟩))
          clear hB
          go_wp2_with fail
          refine wp_region_quiet_below (by kernel_rfl) (by kernel_rfl) ?_
          repeat (go_big_quiet_step ((go_at_call 53; exact Calls.regrown_of (eP _ _ _ _))))
          refine wpQuiet_nil ?_
          intro _ hw'
          obtain⟨⟨nq,osq⟩,hw''⟩:=hw'
          subst hw''
          have hb2:=hid (hB1.out.trans ((below_regrown w1 nq osq).mono hB1.out.size))
          clear l0 l1 l2 p0 p1 p2
          dsimp only
          generalize Sort.grow (redrawn w1 nq) osq=w2 at hb2 ⊢
          go_wp2
          go_roundw
          case rel=>exact⟨k+1,by omega,by go_num,by rw [← hst.out]; exact jP.out,hb2.out⟩
          case measure=>simp [intOf]; omega
    · have hst:=hid (uL (E:=lsE) (key:=ak.job) Hf.out (by rw [HE.out]; exact he))
      have e1:(E == 0)=false:=beq_eq_false_iff_ne.2 he
      have e2:(E != 0)=true:=bne_iff_ne.2 he
      clear c0 c1 c2 hb1 hx hA0 hA1
      go_wp2
      go_ret
      exact⟨bU (by rw [← jP.out,hst.out]; exact HE.out.symm),hB1.out⟩
  · obtain rfl:k=n:=by omega
    have fin:=hid (show R=0 by rw [← jP.out]; exact Ah (by rw [Hl.out]; exact Nat.le_refl _) _)
    clear hb hx
    go_wp2
    go_ret
    exact⟨bU fin.out.symm,Hb.out⟩
end Go.Proofs.YtcpgnjmaampglaaGreatDoor
