/- Of the proof of a statement: BSearch. -/
import Derived.Test.YtoeejfhdjmkpcaaGreatDoorUCopyK
import Derived.Test.YtoeejfhdjmkpcaaGreatDoorURowsL
set_option linter.unusedVariables false
set_option linter.unusedSimpArgs false
set_option maxRecDepth 100000
set_option maxHeartbeats 8000000
/- slices.BinarySearchFunc and serve.place. -/
namespace Go.Proofs.YtoeejfhdjmkpcaaGreatDoor
open Go.Lib (hid)
open Go.RowKit
def Compares {α:Type} (key:α→ByteArray) (s:ByteArray) (F:FuncId) (caps:Array Value) (enc:α→List Value) (xs:List α) (w:World):Prop:=
 ∀ W,Below w.heap.size w W→∀ x ∈ xs,Calls Tryz.prog F (#[.agg (enc x).toArray,.string s] ++ caps) W fun e W'=>e = .returned (.int .i64 (kD (key x) s))∧Below W.heap.size W W'
def dU {α:Type} (key:α→ByteArray) (xs:List α) (s:ByteArray) (w:World) (e:Ending) (w':World):Prop:=
 e = .returned (.tuple #[.int .i64 (dG key xs s),.bool (isL key xs s)])∧Below w.heap.size w w'
def Gs {α:Type} (key:α→ByteArray) (xs:List α) (s:ByteArray) (w:World) (i j:Value) (wr:World):Prop:=
 ∃ p q:Nat,i = .int .i64 p∧j = .int .i64 q∧gR key xs s p q∧Below w.heap.size w wr
theorem JH (s:ByteArray) (F:FuncId) (caps:Array Value) (xs:List aA) (A:Option Addr) (n c:Nat) (w:World) (hent:∀ args w,(callFunc F args).run Tryz.prog w = .ok (.enter F args) w) (hx:aQ w w.heap.size 5 A n (au aJ xs)) (hl:xs.length=n) (hn:n≤1000) (hs:aK aA.name xs) (hp:Compares aA.name s F caps aJ xs w) :
 Calls Tryz.prog 335 #[.slice A n c,.string s,.func (.func F) #[] caps] w (dU aA.name xs s w):=by
 have Hl:=hid hl
 have Hp:=hid hp
 have Hs:=hid hs
 have HX:=hid hx
 have H0:=hid (show gR aA.name xs s 0 n from hl ▸ gR.start xs s)
 clear hl hp hs hx
 go_enter Tryz.func335,Tryz.ntmps335
 go_wp2
 go_loopw [9,10,11] (fun i j _ wr=>Gs aA.name xs s w i j wr) (fun i j _ _=>(intOf j).toNat - (intOf i).toNat)
 case atStart=>exact⟨0,n,rfl,rfl,H0.out,Below.refl _ _⟩
 case round=>
  obtain⟨p,q,rfl,rfl,hH,hb⟩:=hrel
  have hpq:=hH.1
  have hqn:q≤n:=by have:=hH.2.1; have:=Hl.out; omega
  have HH:=hid hH
  have Hb:=hid hb
  have hsz:=hb.size
  clear hH
  by_cases hlt:p<q
  · have h1:p≤(p+q) / 2:=by omega
    have h2:(p+q) / 2<q:=by omega
    obtain⟨x,hf⟩:∃ x,xs[(p+q) / 2]? = some x:=⟨_,List.getElem?_eq_getElem (by rw [Hl.out]; omega)⟩
    obtain⟨b,off,rfl,hbB,hc⟩:=(HX.out.below hb).cR aP Hl.out hf
    have Hf:=hid hf
    have hcon:=hid (Hp.out wr hb x (List.mem_of_getElem? hf))
    obtain⟨t,ht⟩:∃ t,kD (aA.name x) s=t:=⟨_,rfl⟩
    rw [ht] at hcon
    have hneg:=oQ (a:=aA.name x) (b:=s)
    rw [ht] at hneg
    have A7:=hid hneg
    obtain⟨name,prio,need,tries,tag⟩:=x
    obtain⟨c0,c1,c2,c3,c4⟩:=rc5 hc
    have hcon:=hid (show Calls Tryz.prog F (#[.agg #[.string name,.int .i64 prio,.int .i64 need,.int .i64 tries,.string tag],.string s] ++ caps) wr fun e W'=>e = .returned (.int .i64 t)∧Below wr.heap.size wr W' from hcon.out)
    clear hc hf hb ht hneg
    have hlb:b<wr.heap.size:=by omega
    go_wp2_with fail
    refine Calls.mono hcon.out ?_
    rintro e w2 ⟨rfl,hb2⟩
    have Hb2:=hid (Hb.out.trans (hb2.mono Hb.out.size))
    clear hcon hb2 c0 c1 c2 c3 c4
    by_cases htn:t<0
    · have fin:=hid (HH.out.low Hs.out h2 Hf.out (A7.out.1 htn))
      have d1:decide (t<0)=true:=decide_eq_true htn
      clear htn
      go_wp2
      go_roundw
      case rel=>exact⟨(p+q) / 2+1,q,by go_num,rfl,fin.out,Hb2.out⟩
      case measure=>simp [intOf]; omega
    · have fin:=hid (HH.out.high Hs.out h1 Hf.out (by
       rw [← Bool.not_eq_true]; exact fun h=>htn (A7.out.2 h)))
      have d1:decide (t<0)=false:=decide_eq_false htn
      clear htn
      go_wp2
      go_roundw
      case rel=>exact⟨p,(p+q) / 2,rfl,by go_num,fin.out,Hb2.out⟩
      case measure=>simp [intOf]; omega
  · obtain rfl:q=p:=by omega
    have hpos:=HH.out.pos
    have his:isL aA.name xs s=match xs[q]? with | some a=>decide (aA.name a=s) | none=>false:=by
     unfold isL; rw [hpos]
     cases xs[q]? <;> rfl
    have bO:=hid (fun (t:Bool) (W:World) (ht:isL aA.name xs s=t) (hW:Below w.heap.size w W)=>(show dU aA.name xs s w (.returned (.tuple #[.int .i64 q,.bool t])) W from ⟨by rw [hpos,ht],hW⟩))
    clear hpos
    by_cases hq:q<n
    · obtain⟨x,hf⟩:∃ x,xs[q]? = some x:=⟨_,List.getElem?_eq_getElem (by rw [Hl.out]; omega)⟩
      obtain⟨b,off,rfl,hbB,hc⟩:=(HX.out.below hb).cR aP Hl.out hf
      rw [hf] at his
      have hcon:=hid (Hp.out wr hb x (List.mem_of_getElem? hf))
      obtain⟨t,ht⟩:∃ t,kD (aA.name x) s=t:=⟨_,rfl⟩
      rw [ht] at hcon
      have hzero:=um (a:=aA.name x) (b:=s)
      rw [ht] at hzero
      have vE:=hid hzero
      have His:=hid his
      obtain⟨name,prio,need,tries,tag⟩:=x
      obtain⟨c0,c1,c2,c3,c4⟩:=rc5 hc
      have hcon:=hid (show Calls Tryz.prog F (#[.agg #[.string name,.int .i64 prio,.int .i64 need,.int .i64 tries,.string tag],.string s] ++ caps) wr fun e W'=>e = .returned (.int .i64 t)∧Below wr.heap.size wr W' from hcon.out)
      clear hc hf hb ht hzero his hlt hpq
      have hlb:b<wr.heap.size:=by omega
      go_wp2_with fail
      refine Calls.mono hcon.out ?_
      rintro e w2 ⟨rfl,hb2⟩
      have Hb2:=hid (Hb.out.trans (hb2.mono Hb.out.size))
      clear hcon hb2 c0 c1 c2 c3 c4
      have aS:=hid (bO.out (t == 0) w2 (by
       rw [His.out]
       by_cases h:t=0
       · rw [beq_iff_eq.2 h]; exact decide_eq_true (vE.out.1 h)
       · rw [beq_eq_false_iff_ne.2 h]; exact decide_eq_false (fun e=>h (vE.out.2 e))) Hb2.out)
      go_wp2
      go_ret2
      exact aS.out
    · rw [List.getElem?_eq_none (by rw [Hl.out]; omega)] at his
      have aS:=hid (bO.out false wr his hb)
      clear his hb hlt hpq
      go_wp2
      go_ret2
      exact aS.out
theorem JI (s:ByteArray) (xs:List aA) (kb:Nat) (w:World) (hk:w.cell? ⟨kb,0,none⟩=some (.func (.func 83) #[] #[])):Compares aA.name s 336 #[.pointer (some ⟨kb,0,none⟩)] aJ xs w:=by
 intro W hb x hx
 have hkl:=block_lt_of_cell hk
 have hW:=(hb.cell (p:=⟨kb,0,none⟩) hkl).trans hk
 have hWl:kb<W.heap.size:=Nat.lt_of_lt_of_le hkl hb.size
 have heg:=enters_of Tryz.func83 (by kernel_rfl) rfl
 obtain⟨t,ht⟩:∃ t,kD (aA.name x) s=t:=⟨_,rfl⟩
 have HC:=hid (fun W=>mK (aA.name x) s W)
 simp only [ht] at HC
 rw [ht]
 obtain⟨name,prio,need,tries,tag⟩:=x
 show Calls Tryz.prog 336 #[.agg #[.string name,.int .i64 prio,.int .i64 need,.int .i64 tries,.string tag],.string s,.pointer (some ⟨kb,0,none⟩)] W fun e W'=>e = .returned (.int .i64 t)∧Below W.heap.size W W'
 clear hk hx ht hb hkl
 go_enter Tryz.func336,Tryz.ntmps336
 go_wp2_with fail
 refine Calls.mono (fL name prio need tries tag _) ?_
 rintro e w1 ⟨rfl,hb1⟩
 have Hb1:=hid (((Below.refl W.heap.size W).alloc (Nat.le_refl _) _).trans (hb1.mono (by simp)))
 clear hb1 hW
 go_wp2_with fail
 refine Calls.mono (HC.out _) ?_
 rintro e w2 ⟨rfl,rfl⟩
 go_wp2
 go_ret
 exact⟨rfl,Hb1.out⟩
theorem uo (s:ByteArray) (xs:List aA) (A:Option Addr) (n c:Nat) (w:World) (hx:aQ w w.heap.size 5 A n (au aJ xs)) (hl:xs.length=n) (hn:n≤1000) (hs:aK aA.name xs) :
 Calls Tryz.prog 236 #[.slice A n c,.string s,.func (.func 83) #[] #[]] w (dU aA.name xs s w):=by
 have hb1:Below w.heap.size w (w.alloc (.cells #[.func (.func 83) #[] #[]] 160)):=(Below.refl _ _).alloc (Nat.le_refl _) _
 have hk:(w.alloc (.cells #[.func (.func 83) #[] #[]] 160)).cell? ⟨w.heap.size,0,none⟩=some (.func (.func 83) #[] #[]):=by
  rw [cell_of_row _ _ 0 _ _ _ (heap_alloc_new w _)]; rfl
 have H:=hid (JH s 336 #[.pointer (some ⟨w.heap.size,0,none⟩)] xs A n c _ (enters_of Tryz.func336 (by kernel_rfl) rfl) ((hx.below hb1).more hb1.size) hl hn hs (JI s xs _ _ hk))
 have Hf:=hid (fun (t:Nat) (i:Bool) (W:World) (h1:dG aA.name xs s=t) (h2:isL aA.name xs s=i) (hW:Below w.heap.size w W)=>(show dU aA.name xs s w (.returned (.tuple #[.int .i64 t,.bool i])) W from ⟨by rw [h1,h2],hW⟩))
 unfold dU at H
 obtain⟨t,ht⟩:∃ t,dG aA.name xs s=t:=⟨_,rfl⟩
 obtain⟨i,hi⟩:∃ i,isL aA.name xs s=i:=⟨_,rfl⟩
 rw [ht,hi] at H
 have bO:=hid (fun W hW=>Hf.out t i W ht hi hW)
 have Hb1:=hid hb1
 clear hb1 hk hx hl hs ht hi Hf
 go_enter Tryz.func236,Tryz.ntmps236
 go_wp2_with fail
 refine Calls.mono H.out ?_
 rintro e w2 ⟨rfl,hb2⟩
 have aS:=hid (bO.out w2 (Hb1.out.trans (hb2.mono Hb1.out.size)))
 clear hb2
 go_wp2
 go_ret2
 exact aS.out
theorem Gt (s:ByteArray) (F:FuncId) (caps:Array Value) (xs:List av) (A:Option Addr) (n c:Nat) (w:World) (hent:∀ args w,(callFunc F args).run Tryz.prog w = .ok (.enter F args) w) (hx:aQ w w.heap.size 3 A n (au aB xs)) (hl:xs.length=n) (hn:n≤1000) (hs:aK av.name xs) (hp:Compares av.name s F caps aB xs w) :
 Calls Tryz.prog 339 #[.slice A n c,.string s,.func (.func F) #[] caps] w (dU av.name xs s w):=by
 have Hl:=hid hl
 have Hp:=hid hp
 have Hs:=hid hs
 have HX:=hid hx
 have H0:=hid (show gR av.name xs s 0 n from hl ▸ gR.start xs s)
 clear hl hp hs hx
 go_enter Tryz.func339,Tryz.ntmps339
 go_wp2
 go_loopw [9,10,11] (fun i j _ wr=>Gs av.name xs s w i j wr) (fun i j _ _=>(intOf j).toNat - (intOf i).toNat)
 case atStart=>exact⟨0,n,rfl,rfl,H0.out,Below.refl _ _⟩
 case round=>
  obtain⟨p,q,rfl,rfl,hH,hb⟩:=hrel
  have hpq:=hH.1
  have hqn:q≤n:=by have:=hH.2.1; have:=Hl.out; omega
  have HH:=hid hH
  have Hb:=hid hb
  have hsz:=hb.size
  clear hH
  by_cases hlt:p<q
  · have h1:p≤(p+q) / 2:=by omega
    have h2:(p+q) / 2<q:=by omega
    obtain⟨x,hf⟩:∃ x,xs[(p+q) / 2]? = some x:=⟨_,List.getElem?_eq_getElem (by rw [Hl.out]; omega)⟩
    obtain⟨b,off,rfl,hbB,hc⟩:=(HX.out.below hb).cR aL Hl.out hf
    have Hf:=hid hf
    have hcon:=hid (Hp.out wr hb x (List.mem_of_getElem? hf))
    obtain⟨t,ht⟩:∃ t,kD (av.name x) s=t:=⟨_,rfl⟩
    rw [ht] at hcon
    have hneg:=oQ (a:=av.name x) (b:=s)
    rw [ht] at hneg
    have A7:=hid hneg
    obtain⟨name,room,zone⟩:=x
    obtain⟨c0,c1,c2⟩:=rc3 hc
    have hcon:=hid (show Calls Tryz.prog F (#[.agg #[.string name,.int .i64 room,.string zone],.string s] ++ caps) wr fun e W'=>e = .returned (.int .i64 t)∧Below wr.heap.size wr W' from hcon.out)
    clear hc hf hb ht hneg
    have hlb:b<wr.heap.size:=by omega
    go_wp2_with fail
    refine Calls.mono hcon.out ?_
    rintro e w2 ⟨rfl,hb2⟩
    have Hb2:=hid (Hb.out.trans (hb2.mono Hb.out.size))
    clear hcon hb2 c0 c1 c2
    by_cases htn:t<0
    · have fin:=hid (HH.out.low Hs.out h2 Hf.out (A7.out.1 htn))
      have d1:decide (t<0)=true:=decide_eq_true htn
      clear htn
      go_wp2
      go_roundw
      case rel=>exact⟨(p+q) / 2+1,q,by go_num,rfl,fin.out,Hb2.out⟩
      case measure=>simp [intOf]; omega
    · have fin:=hid (HH.out.high Hs.out h1 Hf.out (by
       rw [← Bool.not_eq_true]; exact fun h=>htn (A7.out.2 h)))
      have d1:decide (t<0)=false:=decide_eq_false htn
      clear htn
      go_wp2
      go_roundw
      case rel=>exact⟨p,(p+q) / 2,rfl,by go_num,fin.out,Hb2.out⟩
      case measure=>simp [intOf]; omega
  · obtain rfl:q=p:=by omega
    have hpos:=HH.out.pos
    have his:isL av.name xs s=match xs[q]? with | some a=>decide (av.name a=s) | none=>false:=by
     unfold isL; rw [hpos]
     cases xs[q]? <;> rfl
    have bO:=hid (fun (t:Bool) (W:World) (ht:isL av.name xs s=t) (hW:Below w.heap.size w W)=>(show dU av.name xs s w (.returned (.tuple #[.int .i64 q,.bool t])) W from ⟨by rw [hpos,ht],hW⟩))
    clear hpos
    by_cases hq:q<n
    · obtain⟨x,hf⟩:∃ x,xs[q]? = some x:=⟨_,List.getElem?_eq_getElem (by rw [Hl.out]; omega)⟩
      obtain⟨b,off,rfl,hbB,hc⟩:=(HX.out.below hb).cR aL Hl.out hf
      rw [hf] at his
      have hcon:=hid (Hp.out wr hb x (List.mem_of_getElem? hf))
      obtain⟨t,ht⟩:∃ t,kD (av.name x) s=t:=⟨_,rfl⟩
      rw [ht] at hcon
      have hzero:=um (a:=av.name x) (b:=s)
      rw [ht] at hzero
      have vE:=hid hzero
      have His:=hid his
      obtain⟨name,room,zone⟩:=x
      obtain⟨c0,c1,c2⟩:=rc3 hc
      have hcon:=hid (show Calls Tryz.prog F (#[.agg #[.string name,.int .i64 room,.string zone],.string s] ++ caps) wr fun e W'=>e = .returned (.int .i64 t)∧Below wr.heap.size wr W' from hcon.out)
      clear hc hf hb ht hzero his hlt hpq
      have hlb:b<wr.heap.size:=by omega
      go_wp2_with fail
      refine Calls.mono hcon.out ?_
      rintro e w2 ⟨rfl,hb2⟩
      have Hb2:=hid (Hb.out.trans (hb2.mono Hb.out.size))
      clear hcon hb2 c0 c1 c2
      have aS:=hid (bO.out (t == 0) w2 (by
       rw [His.out]
       by_cases h:t=0
       · rw [beq_iff_eq.2 h]; exact decide_eq_true (vE.out.1 h)
       · rw [beq_eq_false_iff_ne.2 h]; exact decide_eq_false (fun e=>h (vE.out.2 e))) Hb2.out)
      go_wp2
      go_ret2
      exact aS.out
    · rw [List.getElem?_eq_none (by rw [Hl.out]; omega)] at his
      have aS:=hid (bO.out false wr his hb)
      clear his hb hlt hpq
      go_wp2
      go_ret2
      exact aS.out
theorem Gu (s:ByteArray) (xs:List av) (kb:Nat) (w:World) (hk:w.cell? ⟨kb,0,none⟩=some (.func (.func 85) #[] #[])):Compares av.name s 340 #[.pointer (some ⟨kb,0,none⟩)] aB xs w:=by
 intro W hb x hx
 have hkl:=block_lt_of_cell hk
 have hW:=(hb.cell (p:=⟨kb,0,none⟩) hkl).trans hk
 have hWl:kb<W.heap.size:=Nat.lt_of_lt_of_le hkl hb.size
 have heg:=enters_of Tryz.func85 (by kernel_rfl) rfl
 obtain⟨t,ht⟩:∃ t,kD (av.name x) s=t:=⟨_,rfl⟩
 have HC:=hid (fun W=>mK (av.name x) s W)
 simp only [ht] at HC
 rw [ht]
 obtain⟨name,room,zone⟩:=x
 show Calls Tryz.prog 340 #[.agg #[.string name,.int .i64 room,.string zone],.string s,.pointer (some ⟨kb,0,none⟩)] W fun e W'=>e = .returned (.int .i64 t)∧Below W.heap.size W W'
 clear hk hx ht hb hkl
 go_enter Tryz.func340,Tryz.ntmps340
 go_wp2_with fail
 refine Calls.mono (eN name room zone _) ?_
 rintro e w1 ⟨rfl,hb1⟩
 have Hb1:=hid (((Below.refl W.heap.size W).alloc (Nat.le_refl _) _).trans (hb1.mono (by simp)))
 clear hb1 hW
 go_wp2_with fail
 refine Calls.mono (HC.out _) ?_
 rintro e w2 ⟨rfl,rfl⟩
 go_wp2
 go_ret
 exact⟨rfl,Hb1.out⟩
theorem qY (s:ByteArray) (xs:List av) (A:Option Addr) (n c:Nat) (w:World) (hx:aQ w w.heap.size 3 A n (au aB xs)) (hl:xs.length=n) (hn:n≤1000) (hs:aK av.name xs) :
 Calls Tryz.prog 238 #[.slice A n c,.string s,.func (.func 85) #[] #[]] w (dU av.name xs s w):=by
 have hb1:Below w.heap.size w (w.alloc (.cells #[.func (.func 85) #[] #[]] 163)):=(Below.refl _ _).alloc (Nat.le_refl _) _
 have hk:(w.alloc (.cells #[.func (.func 85) #[] #[]] 163)).cell? ⟨w.heap.size,0,none⟩=some (.func (.func 85) #[] #[]):=by
  rw [cell_of_row _ _ 0 _ _ _ (heap_alloc_new w _)]; rfl
 have H:=hid (Gt s 340 #[.pointer (some ⟨w.heap.size,0,none⟩)] xs A n c _ (enters_of Tryz.func340 (by kernel_rfl) rfl) ((hx.below hb1).more hb1.size) hl hn hs (Gu s xs _ _ hk))
 have Hf:=hid (fun (t:Nat) (i:Bool) (W:World) (h1:dG av.name xs s=t) (h2:isL av.name xs s=i) (hW:Below w.heap.size w W)=>(show dU av.name xs s w (.returned (.tuple #[.int .i64 t,.bool i])) W from ⟨by rw [h1,h2],hW⟩))
 unfold dU at H
 obtain⟨t,ht⟩:∃ t,dG av.name xs s=t:=⟨_,rfl⟩
 obtain⟨i,hi⟩:∃ i,isL av.name xs s=i:=⟨_,rfl⟩
 rw [ht,hi] at H
 have bO:=hid (fun W hW=>Hf.out t i W ht hi hW)
 have Hb1:=hid hb1
 clear hb1 hk hx hl hs ht hi Hf
 go_enter Tryz.func238,Tryz.ntmps238
 go_wp2_with fail
 refine Calls.mono H.out ?_
 rintro e w2 ⟨rfl,hb2⟩
 have aS:=hid (bO.out w2 (Hb1.out.trans (hb2.mono Hb1.out.size)))
 clear hb2
 go_wp2
 go_ret2
 exact aS.out
theorem EH (s:ByteArray) (F:FuncId) (caps:Array Value) (xs:List ah) (A:Option Addr) (n c:Nat) (w:World) (hent:∀ args w,(callFunc F args).run Tryz.prog w = .ok (.enter F args) w) (hx:aQ w w.heap.size 3 A n (au ay xs)) (hl:xs.length=n) (hn:n≤1000) (hs:aK ah.job xs) (hp:Compares ah.job s F caps ay xs w) :
 Calls Tryz.prog 344 #[.slice A n c,.string s,.func (.func F) #[] caps] w (dU ah.job xs s w):=by
 have Hl:=hid hl
 have Hp:=hid hp
 have Hs:=hid hs
 have HX:=hid hx
 have H0:=hid (show gR ah.job xs s 0 n from hl ▸ gR.start xs s)
 clear hl hp hs hx
 go_enter Tryz.func344,Tryz.ntmps344
 go_wp2
 go_loopw [9,10,11] (fun i j _ wr=>Gs ah.job xs s w i j wr) (fun i j _ _=>(intOf j).toNat - (intOf i).toNat)
 case atStart=>exact⟨0,n,rfl,rfl,H0.out,Below.refl _ _⟩
 case round=>
  obtain⟨p,q,rfl,rfl,hH,hb⟩:=hrel
  have hpq:=hH.1
  have hqn:q≤n:=by have:=hH.2.1; have:=Hl.out; omega
  have HH:=hid hH
  have Hb:=hid hb
  have hsz:=hb.size
  clear hH
  by_cases hlt:p<q
  · have h1:p≤(p+q) / 2:=by omega
    have h2:(p+q) / 2<q:=by omega
    obtain⟨x,hf⟩:∃ x,xs[(p+q) / 2]? = some x:=⟨_,List.getElem?_eq_getElem (by rw [Hl.out]; omega)⟩
    obtain⟨b,off,rfl,hbB,hc⟩:=(HX.out.below hb).cR aH Hl.out hf
    have Hf:=hid hf
    have hcon:=hid (Hp.out wr hb x (List.mem_of_getElem? hf))
    obtain⟨t,ht⟩:∃ t,kD (ah.job x) s=t:=⟨_,rfl⟩
    rw [ht] at hcon
    have hneg:=oQ (a:=ah.job x) (b:=s)
    rw [ht] at hneg
    have A7:=hid hneg
    obtain⟨job,node,till⟩:=x
    obtain⟨c0,c1,c2⟩:=rc3 hc
    have hcon:=hid (show Calls Tryz.prog F (#[.agg #[.string job,.string node,.int .i64 till],.string s] ++ caps) wr fun e W'=>e = .returned (.int .i64 t)∧Below wr.heap.size wr W' from hcon.out)
    clear hc hf hb ht hneg
    have hlb:b<wr.heap.size:=by omega
    go_wp2_with fail
    refine Calls.mono hcon.out ?_
    rintro e w2 ⟨rfl,hb2⟩
    have Hb2:=hid (Hb.out.trans (hb2.mono Hb.out.size))
    clear hcon hb2 c0 c1 c2
    by_cases htn:t<0
    · have fin:=hid (HH.out.low Hs.out h2 Hf.out (A7.out.1 htn))
      have d1:decide (t<0)=true:=decide_eq_true htn
      clear htn
      go_wp2
      go_roundw
      case rel=>exact⟨(p+q) / 2+1,q,by go_num,rfl,fin.out,Hb2.out⟩
      case measure=>simp [intOf]; omega
    · have fin:=hid (HH.out.high Hs.out h1 Hf.out (by
       rw [← Bool.not_eq_true]; exact fun h=>htn (A7.out.2 h)))
      have d1:decide (t<0)=false:=decide_eq_false htn
      clear htn
      go_wp2
      go_roundw
      case rel=>exact⟨p,(p+q) / 2,rfl,by go_num,fin.out,Hb2.out⟩
      case measure=>simp [intOf]; omega
  · obtain rfl:q=p:=by omega
    have hpos:=HH.out.pos
    have his:isL ah.job xs s=match xs[q]? with | some a=>decide (ah.job a=s) | none=>false:=by
     unfold isL; rw [hpos]
     cases xs[q]? <;> rfl
    have bO:=hid (fun (t:Bool) (W:World) (ht:isL ah.job xs s=t) (hW:Below w.heap.size w W)=>(show dU ah.job xs s w (.returned (.tuple #[.int .i64 q,.bool t])) W from ⟨by rw [hpos,ht],hW⟩))
    clear hpos
    by_cases hq:q<n
    · obtain⟨x,hf⟩:∃ x,xs[q]? = some x:=⟨_,List.getElem?_eq_getElem (by rw [Hl.out]; omega)⟩
      obtain⟨b,off,rfl,hbB,hc⟩:=(HX.out.below hb).cR aH Hl.out hf
      rw [hf] at his
      have hcon:=hid (Hp.out wr hb x (List.mem_of_getElem? hf))
      obtain⟨t,ht⟩:∃ t,kD (ah.job x) s=t:=⟨_,rfl⟩
      rw [ht] at hcon
      have hzero:=um (a:=ah.job x) (b:=s)
      rw [ht] at hzero
      have vE:=hid hzero
      have His:=hid his
      obtain⟨job,node,till⟩:=x
      obtain⟨c0,c1,c2⟩:=rc3 hc
      have hcon:=hid (show Calls Tryz.prog F (#[.agg #[.string job,.string node,.int .i64 till],.string s] ++ caps) wr fun e W'=>e = .returned (.int .i64 t)∧Below wr.heap.size wr W' from hcon.out)
      clear hc hf hb ht hzero his hlt hpq
      have hlb:b<wr.heap.size:=by omega
      go_wp2_with fail
      refine Calls.mono hcon.out ?_
      rintro e w2 ⟨rfl,hb2⟩
      have Hb2:=hid (Hb.out.trans (hb2.mono Hb.out.size))
      clear hcon hb2 c0 c1 c2
      have aS:=hid (bO.out (t == 0) w2 (by
       rw [His.out]
       by_cases h:t=0
       · rw [beq_iff_eq.2 h]; exact decide_eq_true (vE.out.1 h)
       · rw [beq_eq_false_iff_ne.2 h]; exact decide_eq_false (fun e=>h (vE.out.2 e))) Hb2.out)
      go_wp2
      go_ret2
      exact aS.out
    · rw [List.getElem?_eq_none (by rw [Hl.out]; omega)] at his
      have aS:=hid (bO.out false wr his hb)
      clear his hb hlt hpq
      go_wp2
      go_ret2
      exact aS.out
theorem EI (s:ByteArray) (xs:List ah) (kb:Nat) (w:World) (hk:w.cell? ⟨kb,0,none⟩=some (.func (.func 87) #[] #[])):Compares ah.job s 345 #[.pointer (some ⟨kb,0,none⟩)] ay xs w:=by
 intro W hb x hx
 have hkl:=block_lt_of_cell hk
 have hW:=(hb.cell (p:=⟨kb,0,none⟩) hkl).trans hk
 have hWl:kb<W.heap.size:=Nat.lt_of_lt_of_le hkl hb.size
 have heg:=enters_of Tryz.func87 (by kernel_rfl) rfl
 obtain⟨t,ht⟩:∃ t,kD (ah.job x) s=t:=⟨_,rfl⟩
 have HC:=hid (fun W=>mK (ah.job x) s W)
 simp only [ht] at HC
 rw [ht]
 obtain⟨job,node,till⟩:=x
 show Calls Tryz.prog 345 #[.agg #[.string job,.string node,.int .i64 till],.string s,.pointer (some ⟨kb,0,none⟩)] W fun e W'=>e = .returned (.int .i64 t)∧Below W.heap.size W W'
 clear hk hx ht hb hkl
 go_enter Tryz.func345,Tryz.ntmps345
 go_wp2_with fail
 refine Calls.mono (cZ job node till _) ?_
 rintro e w1 ⟨rfl,hb1⟩
 have Hb1:=hid (((Below.refl W.heap.size W).alloc (Nat.le_refl _) _).trans (hb1.mono (by simp)))
 clear hb1 hW
 go_wp2_with fail
 refine Calls.mono (HC.out _) ?_
 rintro e w2 ⟨rfl,rfl⟩
 go_wp2
 go_ret
 exact⟨rfl,Hb1.out⟩
theorem oR (s:ByteArray) (xs:List ah) (A:Option Addr) (n c:Nat) (w:World) (hx:aQ w w.heap.size 3 A n (au ay xs)) (hl:xs.length=n) (hn:n≤1000) (hs:aK ah.job xs) :
 Calls Tryz.prog 243 #[.slice A n c,.string s,.func (.func 87) #[] #[]] w (dU ah.job xs s w):=by
 have hb1:Below w.heap.size w (w.alloc (.cells #[.func (.func 87) #[] #[]] 166)):=(Below.refl _ _).alloc (Nat.le_refl _) _
 have hk:(w.alloc (.cells #[.func (.func 87) #[] #[]] 166)).cell? ⟨w.heap.size,0,none⟩=some (.func (.func 87) #[] #[]):=by
  rw [cell_of_row _ _ 0 _ _ _ (heap_alloc_new w _)]; rfl
 have H:=hid (EH s 345 #[.pointer (some ⟨w.heap.size,0,none⟩)] xs A n c _ (enters_of Tryz.func345 (by kernel_rfl) rfl) ((hx.below hb1).more hb1.size) hl hn hs (EI s xs _ _ hk))
 have Hf:=hid (fun (t:Nat) (i:Bool) (W:World) (h1:dG ah.job xs s=t) (h2:isL ah.job xs s=i) (hW:Below w.heap.size w W)=>(show dU ah.job xs s w (.returned (.tuple #[.int .i64 t,.bool i])) W from ⟨by rw [h1,h2],hW⟩))
 unfold dU at H
 obtain⟨t,ht⟩:∃ t,dG ah.job xs s=t:=⟨_,rfl⟩
 obtain⟨i,hi⟩:∃ i,isL ah.job xs s=i:=⟨_,rfl⟩
 rw [ht,hi] at H
 have bO:=hid (fun W hW=>Hf.out t i W ht hi hW)
 have Hb1:=hid hb1
 clear hb1 hk hx hl hs ht hi Hf
 go_enter Tryz.func243,Tryz.ntmps243
 go_wp2_with fail
 refine Calls.mono H.out ?_
 rintro e w2 ⟨rfl,hb2⟩
 have aS:=hid (bO.out w2 (Hb1.out.trans (hb2.mono Hb1.out.size)))
 clear hb2
 go_wp2
 go_ret2
 exact aS.out
end Go.Proofs.YtoeejfhdjmkpcaaGreatDoor
