/- Of the proof of a statement: BSearch. -/
import Derived.Test.YtoeejfhdjmkpcaaGreatDoorTPlPlace
import Derived.Test.YtoeejfhdjmkpcaaGreatDoorTRowsL
import Derived.Test.YtoeejfhdjmkpcaaGreatDoorTRowsP
set_option linter.unusedVariables false
set_option linter.unusedSimpArgs false
set_option maxRecDepth 100000
set_option maxHeartbeats 8000000
/- slices.BinarySearchFunc and serve.place. -/
namespace Go.Proofs.YtoeejfhdjmkpcaaGreatDoor
open Go.Lib (hid)
open Go.RowKit
def Compares {α:Type} (key:α→ByteArray) (s:ByteArray) (F:FuncId) (caps:Array Value) (enc:α→List Value) (xs:List α) (w:World):Prop:=
 ∀ W,Below w.heap.size w W→∀ x ∈ xs,Calls Tryz.prog F (#[.agg (enc x).toArray,.string s] ++ caps) W fun e W'=>e = .returned (.int .i64 (lA (key x) s))∧Below W.heap.size W W'
def dJ {α:Type} (key:α→ByteArray) (xs:List α) (s:ByteArray) (w:World) (e:Ending) (w':World):Prop:=
 e = .returned (.tuple #[.int .i64 (cZ key xs s),.bool (isL key xs s)])∧Below w.heap.size w w'
def Dh {α:Type} (key:α→ByteArray) (xs:List α) (s:ByteArray) (w:World) (i j:Value) (wr:World):Prop:=
 ∃ p q:Nat,i = .int .i64 p∧j = .int .i64 q∧gq key xs s p q∧Below w.heap.size w wr
theorem Fw (s:ByteArray) (F:FuncId) (caps:Array Value) (xs:List aD) (A:Option Addr) (n c:Nat) (w:World) (hent:∀ args w,(callFunc F args).run Tryz.prog w = .ok (.enter F args) w) (hx:aW w w.heap.size 5 A n (au aL xs)) (hl:xs.length=n) (hn:n≤1000) (hs:bE aD.name xs) (hp:Compares aD.name s F caps aL xs w) :
 Calls Tryz.prog 335 #[.slice A n c,.string s,.func (.func F) #[] caps] w (dJ aD.name xs s w):=by
 have Hl:=hid hl
 have Hp:=hid hp
 have Hs:=hid hs
 have HX:=hid hx
 have H0:=hid (show gq aD.name xs s 0 n from hl ▸ gq.start xs s)
 clear hl hp hs hx
 go_enter Tryz.func335,Tryz.ntmps335
 go_wp2
 go_loopw [9,10,11] (fun i j _ wr=>Dh aD.name xs s w i j wr) (fun i j _ _=>(intOf j).toNat - (intOf i).toNat)
 case atStart=>exact⟨0,n,rfl,rfl,H0.out,Below.refl _ _⟩
 case round=>
  obtain⟨p,q,rfl,rfl,hH,hb⟩:=hrel
  have hpq:=hH.1
  have hqn:q≤n:=by have:=hH.2.1; have:=Hl.out; omega
  have HH:=hid hH
  have Hb:=hid hb
  have hsz:=hb.size
  clear hH
  by_cases hlt:p<q
  · have h1:p≤(p+q) / 2:=by omega
    have h2:(p+q) / 2<q:=by omega
    obtain⟨x,hf⟩:∃ x,xs[(p+q) / 2]? = some x:=⟨_,List.getElem?_eq_getElem (by rw [Hl.out]; omega)⟩
    obtain⟨b,off,rfl,hbB,hc⟩:=(HX.out.below hb).cV aT Hl.out hf
    have Hf:=hid hf
    have hcon:=hid (Hp.out wr hb x (List.mem_of_getElem? hf))
    obtain⟨t,ht⟩:∃ t,lA (aD.name x) s=t:=⟨_,rfl⟩
    rw [ht] at hcon
    have hneg:=sU (a:=aD.name x) (b:=s)
    rw [ht] at hneg
    have xW:=hid hneg
    obtain⟨name,prio,need,tries,tag⟩:=x
    obtain⟨c0,c1,c2,c3,c4⟩:=rc5 hc
    have hcon:=hid (show Calls Tryz.prog F (#[.agg #[.string name,.int .i64 prio,.int .i64 need,.int .i64 tries,.string tag],.string s] ++ caps) wr fun e W'=>e = .returned (.int .i64 t)∧Below wr.heap.size wr W' from hcon.out)
    clear hc hf hb ht hneg
    have hlb:b<wr.heap.size:=by omega
    go_wp2_with fail
    refine Calls.mono hcon.out ?_
    rintro e w2 ⟨rfl,hb2⟩
    have Hb2:=hid (Hb.out.trans (hb2.mono Hb.out.size))
    clear hcon hb2 c0 c1 c2 c3 c4
    by_cases htn:t<0
    · have fin:=hid (HH.out.low Hs.out h2 Hf.out (xW.out.1 htn))
      have d1:decide (t<0)=true:=decide_eq_true htn
      clear htn
      go_wp2
      go_roundw
      case rel=>exact⟨(p+q) / 2+1,q,by go_num,rfl,fin.out,Hb2.out⟩
      case measure=>simp [intOf]; omega
    · have fin:=hid (HH.out.high Hs.out h1 Hf.out (by
       rw [← Bool.not_eq_true]; exact fun h=>htn (xW.out.2 h)))
      have d1:decide (t<0)=false:=decide_eq_false htn
      clear htn
      go_wp2
      go_roundw
      case rel=>exact⟨p,(p+q) / 2,rfl,by go_num,fin.out,Hb2.out⟩
      case measure=>simp [intOf]; omega
  · obtain rfl:q=p:=by omega
    have hpos:=HH.out.pos
    have his:isL aD.name xs s=match xs[q]? with | some a=>decide (aD.name a=s) | none=>false:=by
     unfold isL; rw [hpos]
     cases xs[q]? <;> rfl
    have aV:=hid (fun (t:Bool) (W:World) (ht:isL aD.name xs s=t) (hW:Below w.heap.size w W)=>(show dJ aD.name xs s w (.returned (.tuple #[.int .i64 q,.bool t])) W from ⟨by rw [hpos,ht],hW⟩))
    clear hpos
    by_cases hq:q<n
    · obtain⟨x,hf⟩:∃ x,xs[q]? = some x:=⟨_,List.getElem?_eq_getElem (by rw [Hl.out]; omega)⟩
      obtain⟨b,off,rfl,hbB,hc⟩:=(HX.out.below hb).cV aT Hl.out hf
      rw [hf] at his
      have hcon:=hid (Hp.out wr hb x (List.mem_of_getElem? hf))
      obtain⟨t,ht⟩:∃ t,lA (aD.name x) s=t:=⟨_,rfl⟩
      rw [ht] at hcon
      have hzero:=qL (a:=aD.name x) (b:=s)
      rw [ht] at hzero
      have rM:=hid hzero
      have His:=hid his
      obtain⟨name,prio,need,tries,tag⟩:=x
      obtain⟨c0,c1,c2,c3,c4⟩:=rc5 hc
      have hcon:=hid (show Calls Tryz.prog F (#[.agg #[.string name,.int .i64 prio,.int .i64 need,.int .i64 tries,.string tag],.string s] ++ caps) wr fun e W'=>e = .returned (.int .i64 t)∧Below wr.heap.size wr W' from hcon.out)
      clear hc hf hb ht hzero his hlt hpq
      have hlb:b<wr.heap.size:=by omega
      go_wp2_with fail
      refine Calls.mono hcon.out ?_
      rintro e w2 ⟨rfl,hb2⟩
      have Hb2:=hid (Hb.out.trans (hb2.mono Hb.out.size))
      clear hcon hb2 c0 c1 c2 c3 c4
      have aR:=hid (aV.out (t == 0) w2 (by
       rw [His.out]
       by_cases h:t=0
       · rw [beq_iff_eq.2 h]; exact decide_eq_true (rM.out.1 h)
       · rw [beq_eq_false_iff_ne.2 h]; exact decide_eq_false (fun e=>h (rM.out.2 e))) Hb2.out)
      go_wp2
      go_ret2
      exact aR.out
    · rw [List.getElem?_eq_none (by rw [Hl.out]; omega)] at his
      have aR:=hid (aV.out false wr his hb)
      clear his hb hlt hpq
      go_wp2
      go_ret2
      exact aR.out
theorem Fx (s:ByteArray) (xs:List aD) (kb:Nat) (w:World) (hk:w.cell? ⟨kb,0,none⟩=some (.func (.func 83) #[] #[])):Compares aD.name s 336 #[.pointer (some ⟨kb,0,none⟩)] aL xs w:=by
 intro W hb x hx
 have hkl:=block_lt_of_cell hk
 have hW:=(hb.cell (p:=⟨kb,0,none⟩) hkl).trans hk
 have hWl:kb<W.heap.size:=Nat.lt_of_lt_of_le hkl hb.size
 have heg:=enters_of Tryz.func83 (by kernel_rfl) rfl
 obtain⟨t,ht⟩:∃ t,lA (aD.name x) s=t:=⟨_,rfl⟩
 have HC:=hid (fun W=>mM (aD.name x) s W)
 simp only [ht] at HC
 rw [ht]
 obtain⟨name,prio,need,tries,tag⟩:=x
 show Calls Tryz.prog 336 #[.agg #[.string name,.int .i64 prio,.int .i64 need,.int .i64 tries,.string tag],.string s,.pointer (some ⟨kb,0,none⟩)] W fun e W'=>e = .returned (.int .i64 t)∧Below W.heap.size W W'
 clear hk hx ht hb hkl
 go_enter Tryz.func336,Tryz.ntmps336
 go_wp2_with fail
 refine Calls.mono (gI name prio need tries tag _) ?_
 rintro e w1 ⟨rfl,hb1⟩
 have Hb1:=hid (((Below.refl W.heap.size W).alloc (Nat.le_refl _) _).trans (hb1.mono (by simp)))
 clear hb1 hW
 go_wp2_with fail
 refine Calls.mono (HC.out _) ?_
 rintro e w2 ⟨rfl,rfl⟩
 go_wp2
 go_ret
 exact⟨rfl,Hb1.out⟩
theorem qM (s:ByteArray) (xs:List aD) (A:Option Addr) (n c:Nat) (w:World) (hx:aW w w.heap.size 5 A n (au aL xs)) (hl:xs.length=n) (hn:n≤1000) (hs:bE aD.name xs) :
 Calls Tryz.prog 236 #[.slice A n c,.string s,.func (.func 83) #[] #[]] w (dJ aD.name xs s w):=by
 have hb1:Below w.heap.size w (w.alloc (.cells #[.func (.func 83) #[] #[]] 160)):=(Below.refl _ _).alloc (Nat.le_refl _) _
 have hk:(w.alloc (.cells #[.func (.func 83) #[] #[]] 160)).cell? ⟨w.heap.size,0,none⟩=some (.func (.func 83) #[] #[]):=by
  rw [cell_of_row _ _ 0 _ _ _ (heap_alloc_new w _)]; rfl
 have H:=hid (Fw s 336 #[.pointer (some ⟨w.heap.size,0,none⟩)] xs A n c _ (enters_of Tryz.func336 (by kernel_rfl) rfl) ((hx.below hb1).more hb1.size) hl hn hs (Fx s xs _ _ hk))
 have Hf:=hid (fun (t:Nat) (i:Bool) (W:World) (h1:cZ aD.name xs s=t) (h2:isL aD.name xs s=i) (hW:Below w.heap.size w W)=>(show dJ aD.name xs s w (.returned (.tuple #[.int .i64 t,.bool i])) W from ⟨by rw [h1,h2],hW⟩))
 unfold dJ at H
 obtain⟨t,ht⟩:∃ t,cZ aD.name xs s=t:=⟨_,rfl⟩
 obtain⟨i,hi⟩:∃ i,isL aD.name xs s=i:=⟨_,rfl⟩
 rw [ht,hi] at H
 have aV:=hid (fun W hW=>Hf.out t i W ht hi hW)
 have Hb1:=hid hb1
 clear hb1 hk hx hl hs ht hi Hf
 go_enter Tryz.func236,Tryz.ntmps236
 go_wp2_with fail
 refine Calls.mono H.out ?_
 rintro e w2 ⟨rfl,hb2⟩
 have aR:=hid (aV.out w2 (Hb1.out.trans (hb2.mono Hb1.out.size)))
 clear hb2
 go_wp2
 go_ret2
 exact aR.out
theorem Di (s:ByteArray) (F:FuncId) (caps:Array Value) (xs:List aA) (A:Option Addr) (n c:Nat) (w:World) (hent:∀ args w,(callFunc F args).run Tryz.prog w = .ok (.enter F args) w) (hx:aW w w.heap.size 3 A n (au aC xs)) (hl:xs.length=n) (hn:n≤1000) (hs:bE aA.name xs) (hp:Compares aA.name s F caps aC xs w) :
 Calls Tryz.prog 339 #[.slice A n c,.string s,.func (.func F) #[] caps] w (dJ aA.name xs s w):=by
 have Hl:=hid hl
 have Hp:=hid hp
 have Hs:=hid hs
 have HX:=hid hx
 have H0:=hid (show gq aA.name xs s 0 n from hl ▸ gq.start xs s)
 clear hl hp hs hx
 go_enter Tryz.func339,Tryz.ntmps339
 go_wp2
 go_loopw [9,10,11] (fun i j _ wr=>Dh aA.name xs s w i j wr) (fun i j _ _=>(intOf j).toNat - (intOf i).toNat)
 case atStart=>exact⟨0,n,rfl,rfl,H0.out,Below.refl _ _⟩
 case round=>
  obtain⟨p,q,rfl,rfl,hH,hb⟩:=hrel
  have hpq:=hH.1
  have hqn:q≤n:=by have:=hH.2.1; have:=Hl.out; omega
  have HH:=hid hH
  have Hb:=hid hb
  have hsz:=hb.size
  clear hH
  by_cases hlt:p<q
  · have h1:p≤(p+q) / 2:=by omega
    have h2:(p+q) / 2<q:=by omega
    obtain⟨x,hf⟩:∃ x,xs[(p+q) / 2]? = some x:=⟨_,List.getElem?_eq_getElem (by rw [Hl.out]; omega)⟩
    obtain⟨b,off,rfl,hbB,hc⟩:=(HX.out.below hb).cV aM Hl.out hf
    have Hf:=hid hf
    have hcon:=hid (Hp.out wr hb x (List.mem_of_getElem? hf))
    obtain⟨t,ht⟩:∃ t,lA (aA.name x) s=t:=⟨_,rfl⟩
    rw [ht] at hcon
    have hneg:=sU (a:=aA.name x) (b:=s)
    rw [ht] at hneg
    have xW:=hid hneg
    obtain⟨name,room,zone⟩:=x
    obtain⟨c0,c1,c2⟩:=rc3 hc
    have hcon:=hid (show Calls Tryz.prog F (#[.agg #[.string name,.int .i64 room,.string zone],.string s] ++ caps) wr fun e W'=>e = .returned (.int .i64 t)∧Below wr.heap.size wr W' from hcon.out)
    clear hc hf hb ht hneg
    have hlb:b<wr.heap.size:=by omega
    go_wp2_with fail
    refine Calls.mono hcon.out ?_
    rintro e w2 ⟨rfl,hb2⟩
    have Hb2:=hid (Hb.out.trans (hb2.mono Hb.out.size))
    clear hcon hb2 c0 c1 c2
    by_cases htn:t<0
    · have fin:=hid (HH.out.low Hs.out h2 Hf.out (xW.out.1 htn))
      have d1:decide (t<0)=true:=decide_eq_true htn
      clear htn
      go_wp2
      go_roundw
      case rel=>exact⟨(p+q) / 2+1,q,by go_num,rfl,fin.out,Hb2.out⟩
      case measure=>simp [intOf]; omega
    · have fin:=hid (HH.out.high Hs.out h1 Hf.out (by
       rw [← Bool.not_eq_true]; exact fun h=>htn (xW.out.2 h)))
      have d1:decide (t<0)=false:=decide_eq_false htn
      clear htn
      go_wp2
      go_roundw
      case rel=>exact⟨p,(p+q) / 2,rfl,by go_num,fin.out,Hb2.out⟩
      case measure=>simp [intOf]; omega
  · obtain rfl:q=p:=by omega
    have hpos:=HH.out.pos
    have his:isL aA.name xs s=match xs[q]? with | some a=>decide (aA.name a=s) | none=>false:=by
     unfold isL; rw [hpos]
     cases xs[q]? <;> rfl
    have aV:=hid (fun (t:Bool) (W:World) (ht:isL aA.name xs s=t) (hW:Below w.heap.size w W)=>(show dJ aA.name xs s w (.returned (.tuple #[.int .i64 q,.bool t])) W from ⟨by rw [hpos,ht],hW⟩))
    clear hpos
    by_cases hq:q<n
    · obtain⟨x,hf⟩:∃ x,xs[q]? = some x:=⟨_,List.getElem?_eq_getElem (by rw [Hl.out]; omega)⟩
      obtain⟨b,off,rfl,hbB,hc⟩:=(HX.out.below hb).cV aM Hl.out hf
      rw [hf] at his
      have hcon:=hid (Hp.out wr hb x (List.mem_of_getElem? hf))
      obtain⟨t,ht⟩:∃ t,lA (aA.name x) s=t:=⟨_,rfl⟩
      rw [ht] at hcon
      have hzero:=qL (a:=aA.name x) (b:=s)
      rw [ht] at hzero
      have rM:=hid hzero
      have His:=hid his
      obtain⟨name,room,zone⟩:=x
      obtain⟨c0,c1,c2⟩:=rc3 hc
      have hcon:=hid (show Calls Tryz.prog F (#[.agg #[.string name,.int .i64 room,.string zone],.string s] ++ caps) wr fun e W'=>e = .returned (.int .i64 t)∧Below wr.heap.size wr W' from hcon.out)
      clear hc hf hb ht hzero his hlt hpq
      have hlb:b<wr.heap.size:=by omega
      go_wp2_with fail
      refine Calls.mono hcon.out ?_
      rintro e w2 ⟨rfl,hb2⟩
      have Hb2:=hid (Hb.out.trans (hb2.mono Hb.out.size))
      clear hcon hb2 c0 c1 c2
      have aR:=hid (aV.out (t == 0) w2 (by
       rw [His.out]
       by_cases h:t=0
       · rw [beq_iff_eq.2 h]; exact decide_eq_true (rM.out.1 h)
       · rw [beq_eq_false_iff_ne.2 h]; exact decide_eq_false (fun e=>h (rM.out.2 e))) Hb2.out)
      go_wp2
      go_ret2
      exact aR.out
    · rw [List.getElem?_eq_none (by rw [Hl.out]; omega)] at his
      have aR:=hid (aV.out false wr his hb)
      clear his hb hlt hpq
      go_wp2
      go_ret2
      exact aR.out
theorem Dj (s:ByteArray) (xs:List aA) (kb:Nat) (w:World) (hk:w.cell? ⟨kb,0,none⟩=some (.func (.func 85) #[] #[])):Compares aA.name s 340 #[.pointer (some ⟨kb,0,none⟩)] aC xs w:=by
 intro W hb x hx
 have hkl:=block_lt_of_cell hk
 have hW:=(hb.cell (p:=⟨kb,0,none⟩) hkl).trans hk
 have hWl:kb<W.heap.size:=Nat.lt_of_lt_of_le hkl hb.size
 have heg:=enters_of Tryz.func85 (by kernel_rfl) rfl
 obtain⟨t,ht⟩:∃ t,lA (aA.name x) s=t:=⟨_,rfl⟩
 have HC:=hid (fun W=>mM (aA.name x) s W)
 simp only [ht] at HC
 rw [ht]
 obtain⟨name,room,zone⟩:=x
 show Calls Tryz.prog 340 #[.agg #[.string name,.int .i64 room,.string zone],.string s,.pointer (some ⟨kb,0,none⟩)] W fun e W'=>e = .returned (.int .i64 t)∧Below W.heap.size W W'
 clear hk hx ht hb hkl
 go_enter Tryz.func340,Tryz.ntmps340
 go_wp2_with fail
 refine Calls.mono (fP name room zone _) ?_
 rintro e w1 ⟨rfl,hb1⟩
 have Hb1:=hid (((Below.refl W.heap.size W).alloc (Nat.le_refl _) _).trans (hb1.mono (by simp)))
 clear hb1 hW
 go_wp2_with fail
 refine Calls.mono (HC.out _) ?_
 rintro e w2 ⟨rfl,rfl⟩
 go_wp2
 go_ret
 exact⟨rfl,Hb1.out⟩
theorem oJ (s:ByteArray) (xs:List aA) (A:Option Addr) (n c:Nat) (w:World) (hx:aW w w.heap.size 3 A n (au aC xs)) (hl:xs.length=n) (hn:n≤1000) (hs:bE aA.name xs) :
 Calls Tryz.prog 238 #[.slice A n c,.string s,.func (.func 85) #[] #[]] w (dJ aA.name xs s w):=by
 have hb1:Below w.heap.size w (w.alloc (.cells #[.func (.func 85) #[] #[]] 163)):=(Below.refl _ _).alloc (Nat.le_refl _) _
 have hk:(w.alloc (.cells #[.func (.func 85) #[] #[]] 163)).cell? ⟨w.heap.size,0,none⟩=some (.func (.func 85) #[] #[]):=by
  rw [cell_of_row _ _ 0 _ _ _ (heap_alloc_new w _)]; rfl
 have H:=hid (Di s 340 #[.pointer (some ⟨w.heap.size,0,none⟩)] xs A n c _ (enters_of Tryz.func340 (by kernel_rfl) rfl) ((hx.below hb1).more hb1.size) hl hn hs (Dj s xs _ _ hk))
 have Hf:=hid (fun (t:Nat) (i:Bool) (W:World) (h1:cZ aA.name xs s=t) (h2:isL aA.name xs s=i) (hW:Below w.heap.size w W)=>(show dJ aA.name xs s w (.returned (.tuple #[.int .i64 t,.bool i])) W from ⟨by rw [h1,h2],hW⟩))
 unfold dJ at H
 obtain⟨t,ht⟩:∃ t,cZ aA.name xs s=t:=⟨_,rfl⟩
 obtain⟨i,hi⟩:∃ i,isL aA.name xs s=i:=⟨_,rfl⟩
 rw [ht,hi] at H
 have aV:=hid (fun W hW=>Hf.out t i W ht hi hW)
 have Hb1:=hid hb1
 clear hb1 hk hx hl hs ht hi Hf
 go_enter Tryz.func238,Tryz.ntmps238
 go_wp2_with fail
 refine Calls.mono H.out ?_
 rintro e w2 ⟨rfl,hb2⟩
 have aR:=hid (aV.out w2 (Hb1.out.trans (hb2.mono Hb1.out.size)))
 clear hb2
 go_wp2
 go_ret2
 exact aR.out
theorem BO (s:ByteArray) (F:FuncId) (caps:Array Value) (xs:List ak) (A:Option Addr) (n c:Nat) (w:World) (hent:∀ args w,(callFunc F args).run Tryz.prog w = .ok (.enter F args) w) (hx:aW w w.heap.size 3 A n (au av xs)) (hl:xs.length=n) (hn:n≤1000) (hs:bE ak.job xs) (hp:Compares ak.job s F caps av xs w) :
 Calls Tryz.prog 344 #[.slice A n c,.string s,.func (.func F) #[] caps] w (dJ ak.job xs s w):=by
 have Hl:=hid hl
 have Hp:=hid hp
 have Hs:=hid hs
 have HX:=hid hx
 have H0:=hid (show gq ak.job xs s 0 n from hl ▸ gq.start xs s)
 clear hl hp hs hx
 go_enter Tryz.func344,Tryz.ntmps344
 go_wp2
 go_loopw [9,10,11] (fun i j _ wr=>Dh ak.job xs s w i j wr) (fun i j _ _=>(intOf j).toNat - (intOf i).toNat)
 case atStart=>exact⟨0,n,rfl,rfl,H0.out,Below.refl _ _⟩
 case round=>
  obtain⟨p,q,rfl,rfl,hH,hb⟩:=hrel
  have hpq:=hH.1
  have hqn:q≤n:=by have:=hH.2.1; have:=Hl.out; omega
  have HH:=hid hH
  have Hb:=hid hb
  have hsz:=hb.size
  clear hH
  by_cases hlt:p<q
  · have h1:p≤(p+q) / 2:=by omega
    have h2:(p+q) / 2<q:=by omega
    obtain⟨x,hf⟩:∃ x,xs[(p+q) / 2]? = some x:=⟨_,List.getElem?_eq_getElem (by rw [Hl.out]; omega)⟩
    obtain⟨b,off,rfl,hbB,hc⟩:=(HX.out.below hb).cV aE Hl.out hf
    have Hf:=hid hf
    have hcon:=hid (Hp.out wr hb x (List.mem_of_getElem? hf))
    obtain⟨t,ht⟩:∃ t,lA (ak.job x) s=t:=⟨_,rfl⟩
    rw [ht] at hcon
    have hneg:=sU (a:=ak.job x) (b:=s)
    rw [ht] at hneg
    have xW:=hid hneg
    obtain⟨job,node,till⟩:=x
    obtain⟨c0,c1,c2⟩:=rc3 hc
    have hcon:=hid (show Calls Tryz.prog F (#[.agg #[.string job,.string node,.int .i64 till],.string s] ++ caps) wr fun e W'=>e = .returned (.int .i64 t)∧Below wr.heap.size wr W' from hcon.out)
    clear hc hf hb ht hneg
    have hlb:b<wr.heap.size:=by omega
    go_wp2_with fail
    refine Calls.mono hcon.out ?_
    rintro e w2 ⟨rfl,hb2⟩
    have Hb2:=hid (Hb.out.trans (hb2.mono Hb.out.size))
    clear hcon hb2 c0 c1 c2
    by_cases htn:t<0
    · have fin:=hid (HH.out.low Hs.out h2 Hf.out (xW.out.1 htn))
      have d1:decide (t<0)=true:=decide_eq_true htn
      clear htn
      go_wp2
      go_roundw
      case rel=>exact⟨(p+q) / 2+1,q,by go_num,rfl,fin.out,Hb2.out⟩
      case measure=>simp [intOf]; omega
    · have fin:=hid (HH.out.high Hs.out h1 Hf.out (by
       rw [← Bool.not_eq_true]; exact fun h=>htn (xW.out.2 h)))
      have d1:decide (t<0)=false:=decide_eq_false htn
      clear htn
      go_wp2
      go_roundw
      case rel=>exact⟨p,(p+q) / 2,rfl,by go_num,fin.out,Hb2.out⟩
      case measure=>simp [intOf]; omega
  · obtain rfl:q=p:=by omega
    have hpos:=HH.out.pos
    have his:isL ak.job xs s=match xs[q]? with | some a=>decide (ak.job a=s) | none=>false:=by
     unfold isL; rw [hpos]
     cases xs[q]? <;> rfl
    have aV:=hid (fun (t:Bool) (W:World) (ht:isL ak.job xs s=t) (hW:Below w.heap.size w W)=>(show dJ ak.job xs s w (.returned (.tuple #[.int .i64 q,.bool t])) W from ⟨by rw [hpos,ht],hW⟩))
    clear hpos
    by_cases hq:q<n
    · obtain⟨x,hf⟩:∃ x,xs[q]? = some x:=⟨_,List.getElem?_eq_getElem (by rw [Hl.out]; omega)⟩
      obtain⟨b,off,rfl,hbB,hc⟩:=(HX.out.below hb).cV aE Hl.out hf
      rw [hf] at his
      have hcon:=hid (Hp.out wr hb x (List.mem_of_getElem? hf))
      obtain⟨t,ht⟩:∃ t,lA (ak.job x) s=t:=⟨_,rfl⟩
      rw [ht] at hcon
      have hzero:=qL (a:=ak.job x) (b:=s)
      rw [ht] at hzero
      have rM:=hid hzero
      have His:=hid his
      obtain⟨job,node,till⟩:=x
      obtain⟨c0,c1,c2⟩:=rc3 hc
      have hcon:=hid (show Calls Tryz.prog F (#[.agg #[.string job,.string node,.int .i64 till],.string s] ++ caps) wr fun e W'=>e = .returned (.int .i64 t)∧Below wr.heap.size wr W' from hcon.out)
      clear hc hf hb ht hzero his hlt hpq
      have hlb:b<wr.heap.size:=by omega
      go_wp2_with fail
      refine Calls.mono hcon.out ?_
      rintro e w2 ⟨rfl,hb2⟩
      have Hb2:=hid (Hb.out.trans (hb2.mono Hb.out.size))
      clear hcon hb2 c0 c1 c2
      have aR:=hid (aV.out (t == 0) w2 (by
       rw [His.out]
       by_cases h:t=0
       · rw [beq_iff_eq.2 h]; exact decide_eq_true (rM.out.1 h)
       · rw [beq_eq_false_iff_ne.2 h]; exact decide_eq_false (fun e=>h (rM.out.2 e))) Hb2.out)
      go_wp2
      go_ret2
      exact aR.out
    · rw [List.getElem?_eq_none (by rw [Hl.out]; omega)] at his
      have aR:=hid (aV.out false wr his hb)
      clear his hb hlt hpq
      go_wp2
      go_ret2
      exact aR.out
theorem BQ (s:ByteArray) (xs:List ak) (kb:Nat) (w:World) (hk:w.cell? ⟨kb,0,none⟩=some (.func (.func 87) #[] #[])):Compares ak.job s 345 #[.pointer (some ⟨kb,0,none⟩)] av xs w:=by
 intro W hb x hx
 have hkl:=block_lt_of_cell hk
 have hW:=(hb.cell (p:=⟨kb,0,none⟩) hkl).trans hk
 have hWl:kb<W.heap.size:=Nat.lt_of_lt_of_le hkl hb.size
 have heg:=enters_of Tryz.func87 (by kernel_rfl) rfl
 obtain⟨t,ht⟩:∃ t,lA (ak.job x) s=t:=⟨_,rfl⟩
 have HC:=hid (fun W=>mM (ak.job x) s W)
 simp only [ht] at HC
 rw [ht]
 obtain⟨job,node,till⟩:=x
 show Calls Tryz.prog 345 #[.agg #[.string job,.string node,.int .i64 till],.string s,.pointer (some ⟨kb,0,none⟩)] W fun e W'=>e = .returned (.int .i64 t)∧Below W.heap.size W W'
 clear hk hx ht hb hkl
 go_enter Tryz.func345,Tryz.ntmps345
 go_wp2_with fail
 refine Calls.mono (dM job node till _) ?_
 rintro e w1 ⟨rfl,hb1⟩
 have Hb1:=hid (((Below.refl W.heap.size W).alloc (Nat.le_refl _) _).trans (hb1.mono (by simp)))
 clear hb1 hW
 go_wp2_with fail
 refine Calls.mono (HC.out _) ?_
 rintro e w2 ⟨rfl,rfl⟩
 go_wp2
 go_ret
 exact⟨rfl,Hb1.out⟩
theorem mN (s:ByteArray) (xs:List ak) (A:Option Addr) (n c:Nat) (w:World) (hx:aW w w.heap.size 3 A n (au av xs)) (hl:xs.length=n) (hn:n≤1000) (hs:bE ak.job xs) :
 Calls Tryz.prog 243 #[.slice A n c,.string s,.func (.func 87) #[] #[]] w (dJ ak.job xs s w):=by
 have hb1:Below w.heap.size w (w.alloc (.cells #[.func (.func 87) #[] #[]] 166)):=(Below.refl _ _).alloc (Nat.le_refl _) _
 have hk:(w.alloc (.cells #[.func (.func 87) #[] #[]] 166)).cell? ⟨w.heap.size,0,none⟩=some (.func (.func 87) #[] #[]):=by
  rw [cell_of_row _ _ 0 _ _ _ (heap_alloc_new w _)]; rfl
 have H:=hid (BO s 345 #[.pointer (some ⟨w.heap.size,0,none⟩)] xs A n c _ (enters_of Tryz.func345 (by kernel_rfl) rfl) ((hx.below hb1).more hb1.size) hl hn hs (BQ s xs _ _ hk))
 have Hf:=hid (fun (t:Nat) (i:Bool) (W:World) (h1:cZ ak.job xs s=t) (h2:isL ak.job xs s=i) (hW:Below w.heap.size w W)=>(show dJ ak.job xs s w (.returned (.tuple #[.int .i64 t,.bool i])) W from ⟨by rw [h1,h2],hW⟩))
 unfold dJ at H
 obtain⟨t,ht⟩:∃ t,cZ ak.job xs s=t:=⟨_,rfl⟩
 obtain⟨i,hi⟩:∃ i,isL ak.job xs s=i:=⟨_,rfl⟩
 rw [ht,hi] at H
 have aV:=hid (fun W hW=>Hf.out t i W ht hi hW)
 have Hb1:=hid hb1
 clear hb1 hk hx hl hs ht hi Hf
 go_enter Tryz.func243,Tryz.ntmps243
 go_wp2_with fail
 refine Calls.mono H.out ?_
 rintro e w2 ⟨rfl,hb2⟩
 have aR:=hid (aV.out w2 (Hb1.out.trans (hb2.mono Hb1.out.size)))
 clear hb2
 go_wp2
 go_ret2
 exact aR.out
end Go.Proofs.YtoeejfhdjmkpcaaGreatDoor
