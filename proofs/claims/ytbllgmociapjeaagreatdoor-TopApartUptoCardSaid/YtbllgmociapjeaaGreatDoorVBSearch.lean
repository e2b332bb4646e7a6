/- Of the proof of a statement: BSearch. -/
import Derived.Test.YtbllgmociapjeaaGreatDoorVLease
import Derived.Test.YtbllgmociapjeaaGreatDoorVPlPlace
import Derived.Test.YtbllgmociapjeaaGreatDoorVRowsP
set_option linter.unusedVariables false
set_option linter.unusedSimpArgs false
set_option maxRecDepth 100000
set_option maxHeartbeats 8000000
/- slices.BinarySearchFunc and serve.place. -/
namespace Go.Proofs.YtbllgmociapjeaaGreatDoor
open Go.Lib (hid)
open Go.RowKit
def Compares {α:Type} (key:α→ByteArray) (s:ByteArray) (F:FuncId) (caps:Array Value) (enc:α→List Value) (xs:List α) (w:World):Prop:=
 ∀ W,Below w.heap.size w W→∀ x ∈ xs,Calls Tryz.prog F (#[.agg (enc x).toArray,.string s] ++ caps) W fun e W'=>e = .returned (.int .i64 (mC (key x) s))∧Below W.heap.size W W'
def dS {α:Type} (key:α→ByteArray) (xs:List α) (s:ByteArray) (w:World) (e:Ending) (w':World):Prop:=
 e = .returned (.tuple #[.int .i64 (dF key xs s),.bool (isL key xs s)])∧Below w.heap.size w w'
def Fp {α:Type} (key:α→ByteArray) (xs:List α) (s:ByteArray) (w:World) (i j:Value) (wr:World):Prop:=
 ∃ p q:Nat,i = .int .i64 p∧j = .int .i64 q∧gL key xs s p q∧Below w.heap.size w wr
theorem IL (s:ByteArray) (F:FuncId) (caps:Array Value) (xs:List aC) (A:Option Addr) (n c:Nat) (w:World) (hent:∀ args w,(callFunc F args).run Tryz.prog w = .ok (.enter F args) w) (hx:aU w w.heap.size 5 A n (au aI xs)) (hl:xs.length=n) (hn:n≤1000) (hs:bG aC.name xs) (hp:Compares aC.name s F caps aI xs w) :
 Calls Tryz.prog 221 #[.slice A n c,.string s,.func (.func F) #[] caps] w (dS aC.name xs s w):=by
 have Hl:=hid hl
 have Hp:=hid hp
 have Hs:=hid hs
 have HX:=hid hx
 have H0:=hid (show gL aC.name xs s 0 n from hl ▸ gL.start xs s)
 clear hl hp hs hx
 go_enter Tryz.func221,Tryz.ntmps221
 go_wp2
 go_loopw [9,10,11] (fun i j _ wr=>Fp aC.name xs s w i j wr) (fun i j _ _=>(intOf j).toNat - (intOf i).toNat)
 case atStart=>exact⟨0,n,rfl,rfl,H0.out,Below.refl _ _⟩
 case round=>
  obtain⟨p,q,rfl,rfl,hH,hb⟩:=hrel
  have hpq:=hH.1
  have hqn:q≤n:=by have:=hH.2.1; have:=Hl.out; omega
  have HH:=hid hH
  have Hb:=hid hb
  have hsz:=hb.size
  clear hH
  by_cases hlt:p<q
  · have h1:p≤(p+q) / 2:=by omega
    have h2:(p+q) / 2<q:=by omega
    obtain⟨x,hf⟩:∃ x,xs[(p+q) / 2]? = some x:=⟨_,List.getElem?_eq_getElem (by rw [Hl.out]; omega)⟩
    obtain⟨b,off,rfl,hbB,hc⟩:=(HX.out.below hb).dB aV Hl.out hf
    have Hf:=hid hf
    have hcon:=hid (Hp.out wr hb x (List.mem_of_getElem? hf))
    obtain⟨t,ht⟩:∃ t,mC (aC.name x) s=t:=⟨_,rfl⟩
    rw [ht] at hcon
    have hneg:=uO (a:=aC.name x) (b:=s)
    rw [ht] at hneg
    have zO:=hid hneg
    obtain⟨name,prio,need,tries,tag⟩:=x
    obtain⟨c0,c1,c2,c3,c4⟩:=rc5 hc
    have hcon:=hid (show Calls Tryz.prog F (#[.agg #[.string name,.int .i64 prio,.int .i64 need,.int .i64 tries,.string tag],.string s] ++ caps) wr fun e W'=>e = .returned (.int .i64 t)∧Below wr.heap.size wr W' from hcon.out)
    clear hc hf hb ht hneg
    have hlb:b<wr.heap.size:=by omega
    go_wp2_with fail
    refine Calls.mono hcon.out ?_
    rintro e w2 ⟨rfl,hb2⟩
    have Hb2:=hid (Hb.out.trans (hb2.mono Hb.out.size))
    clear hcon hb2 c0 c1 c2 c3 c4
    by_cases htn:t<0
    · have fin:=hid (HH.out.low Hs.out h2 Hf.out (zO.out.1 htn))
      have d1:decide (t<0)=true:=decide_eq_true htn
      clear htn
      go_wp2
      go_roundw
      case rel=>exact⟨(p+q) / 2+1,q,by go_num,rfl,fin.out,Hb2.out⟩
      case measure=>simp [intOf]; omega
    · have fin:=hid (HH.out.high Hs.out h1 Hf.out (by
       rw [← Bool.not_eq_true]; exact fun h=>htn (zO.out.2 h)))
      have d1:decide (t<0)=false:=decide_eq_false htn
      clear htn
      go_wp2
      go_roundw
      case rel=>exact⟨p,(p+q) / 2,rfl,by go_num,fin.out,Hb2.out⟩
      case measure=>simp [intOf]; omega
  · obtain rfl:q=p:=by omega
    have hpos:=HH.out.pos
    have his:isL aC.name xs s=match xs[q]? with | some a=>decide (aC.name a=s) | none=>false:=by
     unfold isL; rw [hpos]
     cases xs[q]? <;> rfl
    have bI:=hid (fun (t:Bool) (W:World) (ht:isL aC.name xs s=t) (hW:Below w.heap.size w W)=>(show dS aC.name xs s w (.returned (.tuple #[.int .i64 q,.bool t])) W from ⟨by rw [hpos,ht],hW⟩))
    clear hpos
    by_cases hq:q<n
    · obtain⟨x,hf⟩:∃ x,xs[q]? = some x:=⟨_,List.getElem?_eq_getElem (by rw [Hl.out]; omega)⟩
      obtain⟨b,off,rfl,hbB,hc⟩:=(HX.out.below hb).dB aV Hl.out hf
      rw [hf] at his
      have hcon:=hid (Hp.out wr hb x (List.mem_of_getElem? hf))
      obtain⟨t,ht⟩:∃ t,mC (aC.name x) s=t:=⟨_,rfl⟩
      rw [ht] at hcon
      have hzero:=su (a:=aC.name x) (b:=s)
      rw [ht] at hzero
      have tE:=hid hzero
      have His:=hid his
      obtain⟨name,prio,need,tries,tag⟩:=x
      obtain⟨c0,c1,c2,c3,c4⟩:=rc5 hc
      have hcon:=hid (show Calls Tryz.prog F (#[.agg #[.string name,.int .i64 prio,.int .i64 need,.int .i64 tries,.string tag],.string s] ++ caps) wr fun e W'=>e = .returned (.int .i64 t)∧Below wr.heap.size wr W' from hcon.out)
      clear hc hf hb ht hzero his hlt hpq
      have hlb:b<wr.heap.size:=by omega
      go_wp2_with fail
      refine Calls.mono hcon.out ?_
      rintro e w2 ⟨rfl,hb2⟩
      have Hb2:=hid (Hb.out.trans (hb2.mono Hb.out.size))
      clear hcon hb2 c0 c1 c2 c3 c4
      have aP:=hid (bI.out (t == 0) w2 (by
       rw [His.out]
       by_cases h:t=0
       · rw [beq_iff_eq.2 h]; exact decide_eq_true (tE.out.1 h)
       · rw [beq_eq_false_iff_ne.2 h]; exact decide_eq_false (fun e=>h (tE.out.2 e))) Hb2.out)
      go_wp2
      go_ret2
      exact aP.out
    · rw [List.getElem?_eq_none (by rw [Hl.out]; omega)] at his
      have aP:=hid (bI.out false wr his hb)
      clear his hb hlt hpq
      go_wp2
      go_ret2
      exact aP.out
theorem IM (s:ByteArray) (xs:List aC) (kb:Nat) (w:World) (hk:w.cell? ⟨kb,0,none⟩=some (.func (.func 144) #[] #[])):Compares aC.name s 222 #[.pointer (some ⟨kb,0,none⟩)] aI xs w:=by
 intro W hb x hx
 have hkl:=block_lt_of_cell hk
 have hW:=(hb.cell (p:=⟨kb,0,none⟩) hkl).trans hk
 have hWl:kb<W.heap.size:=Nat.lt_of_lt_of_le hkl hb.size
 have heg:=enters_of Tryz.func144 (by kernel_rfl) rfl
 obtain⟨t,ht⟩:∃ t,mC (aC.name x) s=t:=⟨_,rfl⟩
 have HC:=hid (fun W=>nT (aC.name x) s W)
 simp only [ht] at HC
 rw [ht]
 obtain⟨name,prio,need,tries,tag⟩:=x
 show Calls Tryz.prog 222 #[.agg #[.string name,.int .i64 prio,.int .i64 need,.int .i64 tries,.string tag],.string s,.pointer (some ⟨kb,0,none⟩)] W fun e W'=>e = .returned (.int .i64 t)∧Below W.heap.size W W'
 clear hk hx ht hb hkl
 go_enter Tryz.func222,Tryz.ntmps222
 go_wp2_with fail
 refine Calls.mono (gS name prio need tries tag _) ?_
 rintro e w1 ⟨rfl,hb1⟩
 have Hb1:=hid (((Below.refl W.heap.size W).alloc (Nat.le_refl _) _).trans (hb1.mono (by simp)))
 clear hb1 hW
 go_wp2_with fail
 refine Calls.mono (HC.out _) ?_
 rintro e w2 ⟨rfl,rfl⟩
 go_wp2
 go_ret
 exact⟨rfl,Hb1.out⟩
theorem sw (s:ByteArray) (xs:List aC) (A:Option Addr) (n c:Nat) (w:World) (hx:aU w w.heap.size 5 A n (au aI xs)) (hl:xs.length=n) (hn:n≤1000) (hs:bG aC.name xs) :
 Calls Tryz.prog 190 #[.slice A n c,.string s,.func (.func 144) #[] #[]] w (dS aC.name xs s w):=by
 have hb1:Below w.heap.size w (w.alloc (.cells #[.func (.func 144) #[] #[]] 212)):=(Below.refl _ _).alloc (Nat.le_refl _) _
 have hk:(w.alloc (.cells #[.func (.func 144) #[] #[]] 212)).cell? ⟨w.heap.size,0,none⟩=some (.func (.func 144) #[] #[]):=by
  rw [cell_of_row _ _ 0 _ _ _ (heap_alloc_new w _)]; rfl
 have H:=hid (IL s 222 #[.pointer (some ⟨w.heap.size,0,none⟩)] xs A n c _ (enters_of Tryz.func222 (by kernel_rfl) rfl) ((hx.below hb1).more hb1.size) hl hn hs (IM s xs _ _ hk))
 have Hf:=hid (fun (t:Nat) (i:Bool) (W:World) (h1:dF aC.name xs s=t) (h2:isL aC.name xs s=i) (hW:Below w.heap.size w W)=>(show dS aC.name xs s w (.returned (.tuple #[.int .i64 t,.bool i])) W from ⟨by rw [h1,h2],hW⟩))
 unfold dS at H
 obtain⟨t,ht⟩:∃ t,dF aC.name xs s=t:=⟨_,rfl⟩
 obtain⟨i,hi⟩:∃ i,isL aC.name xs s=i:=⟨_,rfl⟩
 rw [ht,hi] at H
 have bI:=hid (fun W hW=>Hf.out t i W ht hi hW)
 have Hb1:=hid hb1
 clear hb1 hk hx hl hs ht hi Hf
 go_enter Tryz.func190,Tryz.ntmps190
 go_wp2_with fail
 refine Calls.mono H.out ?_
 rintro e w2 ⟨rfl,hb2⟩
 have aP:=hid (bI.out w2 (Hb1.out.trans (hb2.mono Hb1.out.size)))
 clear hb2
 go_wp2
 go_ret2
 exact aP.out
theorem Fq (s:ByteArray) (F:FuncId) (caps:Array Value) (xs:List aA) (A:Option Addr) (n c:Nat) (w:World) (hent:∀ args w,(callFunc F args).run Tryz.prog w = .ok (.enter F args) w) (hx:aU w w.heap.size 3 A n (au aB xs)) (hl:xs.length=n) (hn:n≤1000) (hs:bG aA.name xs) (hp:Compares aA.name s F caps aB xs w) :
 Calls Tryz.prog 226 #[.slice A n c,.string s,.func (.func F) #[] caps] w (dS aA.name xs s w):=by
 have Hl:=hid hl
 have Hp:=hid hp
 have Hs:=hid hs
 have HX:=hid hx
 have H0:=hid (show gL aA.name xs s 0 n from hl ▸ gL.start xs s)
 clear hl hp hs hx
 go_enter Tryz.func226,Tryz.ntmps226
 go_wp2
 go_loopw [9,10,11] (fun i j _ wr=>Fp aA.name xs s w i j wr) (fun i j _ _=>(intOf j).toNat - (intOf i).toNat)
 case atStart=>exact⟨0,n,rfl,rfl,H0.out,Below.refl _ _⟩
 case round=>
  obtain⟨p,q,rfl,rfl,hH,hb⟩:=hrel
  have hpq:=hH.1
  have hqn:q≤n:=by have:=hH.2.1; have:=Hl.out; omega
  have HH:=hid hH
  have Hb:=hid hb
  have hsz:=hb.size
  clear hH
  by_cases hlt:p<q
  · have h1:p≤(p+q) / 2:=by omega
    have h2:(p+q) / 2<q:=by omega
    obtain⟨x,hf⟩:∃ x,xs[(p+q) / 2]? = some x:=⟨_,List.getElem?_eq_getElem (by rw [Hl.out]; omega)⟩
    obtain⟨b,off,rfl,hbB,hc⟩:=(HX.out.below hb).dB aJ Hl.out hf
    have Hf:=hid hf
    have hcon:=hid (Hp.out wr hb x (List.mem_of_getElem? hf))
    obtain⟨t,ht⟩:∃ t,mC (aA.name x) s=t:=⟨_,rfl⟩
    rw [ht] at hcon
    have hneg:=uO (a:=aA.name x) (b:=s)
    rw [ht] at hneg
    have zO:=hid hneg
    obtain⟨name,room,zone⟩:=x
    obtain⟨c0,c1,c2⟩:=rc3 hc
    have hcon:=hid (show Calls Tryz.prog F (#[.agg #[.string name,.int .i64 room,.string zone],.string s] ++ caps) wr fun e W'=>e = .returned (.int .i64 t)∧Below wr.heap.size wr W' from hcon.out)
    clear hc hf hb ht hneg
    have hlb:b<wr.heap.size:=by omega
    go_wp2_with fail
    refine Calls.mono hcon.out ?_
    rintro e w2 ⟨rfl,hb2⟩
    have Hb2:=hid (Hb.out.trans (hb2.mono Hb.out.size))
    clear hcon hb2 c0 c1 c2
    by_cases htn:t<0
    · have fin:=hid (HH.out.low Hs.out h2 Hf.out (zO.out.1 htn))
      have d1:decide (t<0)=true:=decide_eq_true htn
      clear htn
      go_wp2
      go_roundw
      case rel=>exact⟨(p+q) / 2+1,q,by go_num,rfl,fin.out,Hb2.out⟩
      case measure=>simp [intOf]; omega
    · have fin:=hid (HH.out.high Hs.out h1 Hf.out (by
       rw [← Bool.not_eq_true]; exact fun h=>htn (zO.out.2 h)))
      have d1:decide (t<0)=false:=decide_eq_false htn
      clear htn
      go_wp2
      go_roundw
      case rel=>exact⟨p,(p+q) / 2,rfl,by go_num,fin.out,Hb2.out⟩
      case measure=>simp [intOf]; omega
  · obtain rfl:q=p:=by omega
    have hpos:=HH.out.pos
    have his:isL aA.name xs s=match xs[q]? with | some a=>decide (aA.name a=s) | none=>false:=by
     unfold isL; rw [hpos]
     cases xs[q]? <;> rfl
    have bI:=hid (fun (t:Bool) (W:World) (ht:isL aA.name xs s=t) (hW:Below w.heap.size w W)=>(show dS aA.name xs s w (.returned (.tuple #[.int .i64 q,.bool t])) W from ⟨by rw [hpos,ht],hW⟩))
    clear hpos
    by_cases hq:q<n
    · obtain⟨x,hf⟩:∃ x,xs[q]? = some x:=⟨_,List.getElem?_eq_getElem (by rw [Hl.out]; omega)⟩
      obtain⟨b,off,rfl,hbB,hc⟩:=(HX.out.below hb).dB aJ Hl.out hf
      rw [hf] at his
      have hcon:=hid (Hp.out wr hb x (List.mem_of_getElem? hf))
      obtain⟨t,ht⟩:∃ t,mC (aA.name x) s=t:=⟨_,rfl⟩
      rw [ht] at hcon
      have hzero:=su (a:=aA.name x) (b:=s)
      rw [ht] at hzero
      have tE:=hid hzero
      have His:=hid his
      obtain⟨name,room,zone⟩:=x
      obtain⟨c0,c1,c2⟩:=rc3 hc
      have hcon:=hid (show Calls Tryz.prog F (#[.agg #[.string name,.int .i64 room,.string zone],.string s] ++ caps) wr fun e W'=>e = .returned (.int .i64 t)∧Below wr.heap.size wr W' from hcon.out)
      clear hc hf hb ht hzero his hlt hpq
      have hlb:b<wr.heap.size:=by omega
      go_wp2_with fail
      refine Calls.mono hcon.out ?_
      rintro e w2 ⟨rfl,hb2⟩
      have Hb2:=hid (Hb.out.trans (hb2.mono Hb.out.size))
      clear hcon hb2 c0 c1 c2
      have aP:=hid (bI.out (t == 0) w2 (by
       rw [His.out]
       by_cases h:t=0
       · rw [beq_iff_eq.2 h]; exact decide_eq_true (tE.out.1 h)
       · rw [beq_eq_false_iff_ne.2 h]; exact decide_eq_false (fun e=>h (tE.out.2 e))) Hb2.out)
      go_wp2
      go_ret2
      exact aP.out
    · rw [List.getElem?_eq_none (by rw [Hl.out]; omega)] at his
      have aP:=hid (bI.out false wr his hb)
      clear his hb hlt hpq
      go_wp2
      go_ret2
      exact aP.out
theorem Fr (s:ByteArray) (xs:List aA) (kb:Nat) (w:World) (hk:w.cell? ⟨kb,0,none⟩=some (.func (.func 147) #[] #[])):Compares aA.name s 227 #[.pointer (some ⟨kb,0,none⟩)] aB xs w:=by
 intro W hb x hx
 have hkl:=block_lt_of_cell hk
 have hW:=(hb.cell (p:=⟨kb,0,none⟩) hkl).trans hk
 have hWl:kb<W.heap.size:=Nat.lt_of_lt_of_le hkl hb.size
 have heg:=enters_of Tryz.func147 (by kernel_rfl) rfl
 obtain⟨t,ht⟩:∃ t,mC (aA.name x) s=t:=⟨_,rfl⟩
 have HC:=hid (fun W=>nT (aA.name x) s W)
 simp only [ht] at HC
 rw [ht]
 obtain⟨name,room,zone⟩:=x
 show Calls Tryz.prog 227 #[.agg #[.string name,.int .i64 room,.string zone],.string s,.pointer (some ⟨kb,0,none⟩)] W fun e W'=>e = .returned (.int .i64 t)∧Below W.heap.size W W'
 clear hk hx ht hb hkl
 go_enter Tryz.func227,Tryz.ntmps227
 go_wp2_with fail
 refine Calls.mono (fW name room zone _) ?_
 rintro e w1 ⟨rfl,hb1⟩
 have Hb1:=hid (((Below.refl W.heap.size W).alloc (Nat.le_refl _) _).trans (hb1.mono (by simp)))
 clear hb1 hW
 go_wp2_with fail
 refine Calls.mono (HC.out _) ?_
 rintro e w2 ⟨rfl,rfl⟩
 go_wp2
 go_ret
 exact⟨rfl,Hb1.out⟩
theorem pW (s:ByteArray) (xs:List aA) (A:Option Addr) (n c:Nat) (w:World) (hx:aU w w.heap.size 3 A n (au aB xs)) (hl:xs.length=n) (hn:n≤1000) (hs:bG aA.name xs) :
 Calls Tryz.prog 192 #[.slice A n c,.string s,.func (.func 147) #[] #[]] w (dS aA.name xs s w):=by
 have hb1:Below w.heap.size w (w.alloc (.cells #[.func (.func 147) #[] #[]] 214)):=(Below.refl _ _).alloc (Nat.le_refl _) _
 have hk:(w.alloc (.cells #[.func (.func 147) #[] #[]] 214)).cell? ⟨w.heap.size,0,none⟩=some (.func (.func 147) #[] #[]):=by
  rw [cell_of_row _ _ 0 _ _ _ (heap_alloc_new w _)]; rfl
 have H:=hid (Fq s 227 #[.pointer (some ⟨w.heap.size,0,none⟩)] xs A n c _ (enters_of Tryz.func227 (by kernel_rfl) rfl) ((hx.below hb1).more hb1.size) hl hn hs (Fr s xs _ _ hk))
 have Hf:=hid (fun (t:Nat) (i:Bool) (W:World) (h1:dF aA.name xs s=t) (h2:isL aA.name xs s=i) (hW:Below w.heap.size w W)=>(show dS aA.name xs s w (.returned (.tuple #[.int .i64 t,.bool i])) W from ⟨by rw [h1,h2],hW⟩))
 unfold dS at H
 obtain⟨t,ht⟩:∃ t,dF aA.name xs s=t:=⟨_,rfl⟩
 obtain⟨i,hi⟩:∃ i,isL aA.name xs s=i:=⟨_,rfl⟩
 rw [ht,hi] at H
 have bI:=hid (fun W hW=>Hf.out t i W ht hi hW)
 have Hb1:=hid hb1
 clear hb1 hk hx hl hs ht hi Hf
 go_enter Tryz.func192,Tryz.ntmps192
 go_wp2_with fail
 refine Calls.mono H.out ?_
 rintro e w2 ⟨rfl,hb2⟩
 have aP:=hid (bI.out w2 (Hb1.out.trans (hb2.mono Hb1.out.size)))
 clear hb2
 go_wp2
 go_ret2
 exact aP.out
theorem DB (s:ByteArray) (F:FuncId) (caps:Array Value) (xs:List ak) (A:Option Addr) (n c:Nat) (w:World) (hent:∀ args w,(callFunc F args).run Tryz.prog w = .ok (.enter F args) w) (hx:aU w w.heap.size 3 A n (au av xs)) (hl:xs.length=n) (hn:n≤1000) (hs:bG ak.job xs) (hp:Compares ak.job s F caps av xs w) :
 Calls Tryz.prog 231 #[.slice A n c,.string s,.func (.func F) #[] caps] w (dS ak.job xs s w):=by
 have Hl:=hid hl
 have Hp:=hid hp
 have Hs:=hid hs
 have HX:=hid hx
 have H0:=hid (show gL ak.job xs s 0 n from hl ▸ gL.start xs s)
 clear hl hp hs hx
 go_enter Tryz.func231,Tryz.ntmps231
 go_wp2
 go_loopw [9,10,11] (fun i j _ wr=>Fp ak.job xs s w i j wr) (fun i j _ _=>(intOf j).toNat - (intOf i).toNat)
 case atStart=>exact⟨0,n,rfl,rfl,H0.out,Below.refl _ _⟩
 case round=>
  obtain⟨p,q,rfl,rfl,hH,hb⟩:=hrel
  have hpq:=hH.1
  have hqn:q≤n:=by have:=hH.2.1; have:=Hl.out; omega
  have HH:=hid hH
  have Hb:=hid hb
  have hsz:=hb.size
  clear hH
  by_cases hlt:p<q
  · have h1:p≤(p+q) / 2:=by omega
    have h2:(p+q) / 2<q:=by omega
    obtain⟨x,hf⟩:∃ x,xs[(p+q) / 2]? = some x:=⟨_,List.getElem?_eq_getElem (by rw [Hl.out]; omega)⟩
    obtain⟨b,off,rfl,hbB,hc⟩:=(HX.out.below hb).dB aG Hl.out hf
    have Hf:=hid hf
    have hcon:=hid (Hp.out wr hb x (List.mem_of_getElem? hf))
    obtain⟨t,ht⟩:∃ t,mC (ak.job x) s=t:=⟨_,rfl⟩
    rw [ht] at hcon
    have hneg:=uO (a:=ak.job x) (b:=s)
    rw [ht] at hneg
    have zO:=hid hneg
    obtain⟨job,node,till⟩:=x
    obtain⟨c0,c1,c2⟩:=rc3 hc
    have hcon:=hid (show Calls Tryz.prog F (#[.agg #[.string job,.string node,.int .i64 till],.string s] ++ caps) wr fun e W'=>e = .returned (.int .i64 t)∧Below wr.heap.size wr W' from hcon.out)
    clear hc hf hb ht hneg
    have hlb:b<wr.heap.size:=by omega
    go_wp2_with fail
    refine Calls.mono hcon.out ?_
    rintro e w2 ⟨rfl,hb2⟩
    have Hb2:=hid (Hb.out.trans (hb2.mono Hb.out.size))
    clear hcon hb2 c0 c1 c2
    by_cases htn:t<0
    · have fin:=hid (HH.out.low Hs.out h2 Hf.out (zO.out.1 htn))
      have d1:decide (t<0)=true:=decide_eq_true htn
      clear htn
      go_wp2
      go_roundw
      case rel=>exact⟨(p+q) / 2+1,q,by go_num,rfl,fin.out,Hb2.out⟩
      case measure=>simp [intOf]; omega
    · have fin:=hid (HH.out.high Hs.out h1 Hf.out (by
       rw [← Bool.not_eq_true]; exact fun h=>htn (zO.out.2 h)))
      have d1:decide (t<0)=false:=decide_eq_false htn
      clear htn
      go_wp2
      go_roundw
      case rel=>exact⟨p,(p+q) / 2,rfl,by go_num,fin.out,Hb2.out⟩
      case measure=>simp [intOf]; omega
  · obtain rfl:q=p:=by omega
    have hpos:=HH.out.pos
    have his:isL ak.job xs s=match xs[q]? with | some a=>decide (ak.job a=s) | none=>false:=by
     unfold isL; rw [hpos]
     cases xs[q]? <;> rfl
    have bI:=hid (fun (t:Bool) (W:World) (ht:isL ak.job xs s=t) (hW:Below w.heap.size w W)=>(show dS ak.job xs s w (.returned (.tuple #[.int .i64 q,.bool t])) W from ⟨by rw [hpos,ht],hW⟩))
    clear hpos
    by_cases hq:q<n
    · obtain⟨x,hf⟩:∃ x,xs[q]? = some x:=⟨_,List.getElem?_eq_getElem (by rw [Hl.out]; omega)⟩
      obtain⟨b,off,rfl,hbB,hc⟩:=(HX.out.below hb).dB aG Hl.out hf
      rw [hf] at his
      have hcon:=hid (Hp.out wr hb x (List.mem_of_getElem? hf))
      obtain⟨t,ht⟩:∃ t,mC (ak.job x) s=t:=⟨_,rfl⟩
      rw [ht] at hcon
      have hzero:=su (a:=ak.job x) (b:=s)
      rw [ht] at hzero
      have tE:=hid hzero
      have His:=hid his
      obtain⟨job,node,till⟩:=x
      obtain⟨c0,c1,c2⟩:=rc3 hc
      have hcon:=hid (show Calls Tryz.prog F (#[.agg #[.string job,.string node,.int .i64 till],.string s] ++ caps) wr fun e W'=>e = .returned (.int .i64 t)∧Below wr.heap.size wr W' from hcon.out)
      clear hc hf hb ht hzero his hlt hpq
      have hlb:b<wr.heap.size:=by omega
      go_wp2_with fail
      refine Calls.mono hcon.out ?_
      rintro e w2 ⟨rfl,hb2⟩
      have Hb2:=hid (Hb.out.trans (hb2.mono Hb.out.size))
      clear hcon hb2 c0 c1 c2
      have aP:=hid (bI.out (t == 0) w2 (by
       rw [His.out]
       by_cases h:t=0
       · rw [beq_iff_eq.2 h]; exact decide_eq_true (tE.out.1 h)
       · rw [beq_eq_false_iff_ne.2 h]; exact decide_eq_false (fun e=>h (tE.out.2 e))) Hb2.out)
      go_wp2
      go_ret2
      exact aP.out
    · rw [List.getElem?_eq_none (by rw [Hl.out]; omega)] at his
      have aP:=hid (bI.out false wr his hb)
      clear his hb hlt hpq
      go_wp2
      go_ret2
      exact aP.out
theorem DC (s:ByteArray) (xs:List ak) (kb:Nat) (w:World) (hk:w.cell? ⟨kb,0,none⟩=some (.func (.func 150) #[] #[])):Compares ak.job s 232 #[.pointer (some ⟨kb,0,none⟩)] av xs w:=by
 intro W hb x hx
 have hkl:=block_lt_of_cell hk
 have hW:=(hb.cell (p:=⟨kb,0,none⟩) hkl).trans hk
 have hWl:kb<W.heap.size:=Nat.lt_of_lt_of_le hkl hb.size
 have heg:=enters_of Tryz.func150 (by kernel_rfl) rfl
 obtain⟨t,ht⟩:∃ t,mC (ak.job x) s=t:=⟨_,rfl⟩
 have HC:=hid (fun W=>nT (ak.job x) s W)
 simp only [ht] at HC
 rw [ht]
 obtain⟨job,node,till⟩:=x
 show Calls Tryz.prog 232 #[.agg #[.string job,.string node,.int .i64 till],.string s,.pointer (some ⟨kb,0,none⟩)] W fun e W'=>e = .returned (.int .i64 t)∧Below W.heap.size W W'
 clear hk hx ht hb hkl
 go_enter Tryz.func232,Tryz.ntmps232
 go_wp2_with fail
 refine Calls.mono (eA job node till _) ?_
 rintro e w1 ⟨rfl,hb1⟩
 have Hb1:=hid (((Below.refl W.heap.size W).alloc (Nat.le_refl _) _).trans (hb1.mono (by simp)))
 clear hb1 hW
 go_wp2_with fail
 refine Calls.mono (HC.out _) ?_
 rintro e w2 ⟨rfl,rfl⟩
 go_wp2
 go_ret
 exact⟨rfl,Hb1.out⟩
theorem nU (s:ByteArray) (xs:List ak) (A:Option Addr) (n c:Nat) (w:World) (hx:aU w w.heap.size 3 A n (au av xs)) (hl:xs.length=n) (hn:n≤1000) (hs:bG ak.job xs) :
 Calls Tryz.prog 197 #[.slice A n c,.string s,.func (.func 150) #[] #[]] w (dS ak.job xs s w):=by
 have hb1:Below w.heap.size w (w.alloc (.cells #[.func (.func 150) #[] #[]] 221)):=(Below.refl _ _).alloc (Nat.le_refl _) _
 have hk:(w.alloc (.cells #[.func (.func 150) #[] #[]] 221)).cell? ⟨w.heap.size,0,none⟩=some (.func (.func 150) #[] #[]):=by
  rw [cell_of_row _ _ 0 _ _ _ (heap_alloc_new w _)]; rfl
 have H:=hid (DB s 232 #[.pointer (some ⟨w.heap.size,0,none⟩)] xs A n c _ (enters_of Tryz.func232 (by kernel_rfl) rfl) ((hx.below hb1).more hb1.size) hl hn hs (DC s xs _ _ hk))
 have Hf:=hid (fun (t:Nat) (i:Bool) (W:World) (h1:dF ak.job xs s=t) (h2:isL ak.job xs s=i) (hW:Below w.heap.size w W)=>(show dS ak.job xs s w (.returned (.tuple #[.int .i64 t,.bool i])) W from ⟨by rw [h1,h2],hW⟩))
 unfold dS at H
 obtain⟨t,ht⟩:∃ t,dF ak.job xs s=t:=⟨_,rfl⟩
 obtain⟨i,hi⟩:∃ i,isL ak.job xs s=i:=⟨_,rfl⟩
 rw [ht,hi] at H
 have bI:=hid (fun W hW=>Hf.out t i W ht hi hW)
 have Hb1:=hid hb1
 clear hb1 hk hx hl hs ht hi Hf
 go_enter Tryz.func197,Tryz.ntmps197
 go_wp2_with fail
 refine Calls.mono H.out ?_
 rintro e w2 ⟨rfl,hb2⟩
 have aP:=hid (bI.out w2 (Hb1.out.trans (hb2.mono Hb1.out.size)))
 clear hb2
 go_wp2
 go_ret2
 exact aP.out
end Go.Proofs.YtbllgmociapjeaaGreatDoor
