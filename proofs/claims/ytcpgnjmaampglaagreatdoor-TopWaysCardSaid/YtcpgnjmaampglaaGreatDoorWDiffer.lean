/- Of the proof of a statement: Differ. -/
import Derived.Lib.QuietBelow
import Derived.Test.YtcpgnjmaampglaaGreatDoorWHas
import Derived.Test.YtcpgnjmaampglaaGreatDoorWTake
set_option linter.unusedVariables false
set_option linter.unusedSimpArgs false
set_option maxRecDepth 100000
set_option maxHeartbeats 8000000
/- The walks of differ, at jobs, nodes and leases. -/
namespace Go.Proofs.YtcpgnjmaampglaaGreatDoor
open Go.Lib (hid)
open Go.RowKit
def Fv {α:Type} (key:α→ByteArray) (a b:List α) (T:TypeId) (sz:Nat) (enc:α→List Value) (w:World) (e:Ending) (w':World):Prop:=
 ∃ A c G c',e = .returned (.tuple #[.slice A (newL a b).length c,.slice G (bH key a b).length c'])∧w'.ownsRow (w.heap.size+1) T sz (.slice A (newL a b).length c) (newL a b).length (au enc (newL a b)) ∧
  w'.ownsRow (w.heap.size+1) 9 1 (.slice G (bH key a b).length c') (bH key a b).length (au mN (bH key a b))∧Below w.heap.size w w'
structure sO (w0:World) (F:FuncId) (wr:World):Prop where
 below:Below w0.heap.size w0 wr
 key:wr.cell? ⟨w0.heap.size,0,none⟩=some (.func (.func F) #[] #[])
 size:w0.heap.size<wr.heap.size
theorem sO.kept {w0 w w':World} {F:FuncId} (h:sO w0 F w) (hb:Below w.heap.size w w'):sO w0 F w':=
 ⟨h.below.trans (hb.mono h.below.size),(hb.cell (p:=⟨w0.heap.size,0,none⟩) h.size).trans h.key,Nat.lt_of_lt_of_le h.size hb.size⟩
theorem sO.grew {w0 w w':World} {F:FuncId} {v v':Value} (h:sO w0 F w) (hg:dE w w' v v') (hv:∀ k,v.ownBlock=some k→w0.heap.size+1≤k):sO w0 F w':=
 have hb:=hg.below (B:=w0.heap.size+1) h.size hv
 ⟨h.below.trans (hb.mono (Nat.le_succ _)),(hb.cell (p:=⟨w0.heap.size,0,none⟩) (Nat.lt_succ_self _)).trans h.key,Nat.lt_of_lt_of_le h.size hb.size⟩
theorem sP {α:Type} {key:α→ByteArray} {a b:List α} {k:Nat} {x:α} (h:a[k]? = some x):((b.any fun y=>decide (key y=key x))=false→(((a.take (k+1)).filter fun x=>!b.any fun y=>decide (key y=key x)).map key)=(((a.take k).filter fun x=>!b.any fun y=>decide (key y=key x)).map key) ++ [key x])∧((b.any fun y=>decide (key y=key x))=true→(((a.take (k+1)).filter fun x=>!b.any fun y=>decide (key y=key x)).map key)=(((a.take k).filter fun x=>!b.any fun y=>decide (key y=key x)).map key)):=by
 constructor
 · intro h1
   rw [yR (p:=fun x=>!b.any fun y=>decide (key y=key x)) h (by simp only [h1]; rfl),List.map_append]; rfl
 · intro h1
   rw [Bo (p:=fun x=>!b.any fun y=>decide (key y=key x)) h (by simp only [h1]; rfl)]
theorem I5 (dO:ByteArray) (lI:Int) (lJ:Int) (iC:Int) (qC:ByteArray) (fL:ByteArray) (ou:Int) (ow:Int) (kF:Int) (vg:ByteArray) (kb xb:Nat) (w:World) (hk:w.cell? ⟨kb,0,none⟩=some (.func (.func 49) #[] #[])) (hx:Blk w xb 59 #[.string fL,.int .i64 ou,.int .i64 ow,.int .i64 kF,.string vg]) :
 Calls Tryz.prog 140 #[.agg #[.string dO,.int .i64 lI,.int .i64 lJ,.int .i64 iC,.string qC],.pointer (some ⟨kb,0,none⟩),.pointer (some ⟨xb,0,none⟩)] w fun e w'=>e = .returned (.bool (decide (dO=fL)))∧Below w.heap.size w w':=by
 rw [← Cu]
 have hb0:=(Below.refl w.heap.size w).alloc (Nat.le_refl _) (.cells #[.string dO,.int .i64 lI,.int .i64 lJ,.int .i64 iC,.string qC] 59)
 have hkl:=block_lt_of_cell hk
 have hxl:=hx.lt
 have hxa:=hx.alloc (.cells #[.string dO,.int .i64 lI,.int .i64 lJ,.int .i64 iC,.string qC] 59)
 generalize hw1:w.alloc (.cells #[.string dO,.int .i64 lI,.int .i64 lJ,.int .i64 iC,.string qC] 59)=w1 at hb0 hxa
 have b0:=fun d os=>cell_regrown (show w1.cell? ⟨w.heap.size,0,none⟩=some (.string dO) by rw [← hw1]; simp [go_sem]) d os
 have x0:=fun d os=>cell_regrown (show w1.cell? ⟨xb,0,none⟩=some (.string fL) from hxa.cell 0) d os
 have b1:=fun d os=>cell_regrown (show w1.cell? ⟨w.heap.size,1,none⟩=some (.int .i64 lI) by rw [← hw1]; simp [go_sem]) d os
 have x1:=fun d os=>cell_regrown (show w1.cell? ⟨xb,1,none⟩=some (.int .i64 ou) from hxa.cell 1) d os
 have b2:=fun d os=>cell_regrown (show w1.cell? ⟨w.heap.size,2,none⟩=some (.int .i64 lJ) by rw [← hw1]; simp [go_sem]) d os
 have x2:=fun d os=>cell_regrown (show w1.cell? ⟨xb,2,none⟩=some (.int .i64 ow) from hxa.cell 2) d os
 have b3:=fun d os=>cell_regrown (show w1.cell? ⟨w.heap.size,3,none⟩=some (.int .i64 iC) by rw [← hw1]; simp [go_sem]) d os
 have x3:=fun d os=>cell_regrown (show w1.cell? ⟨xb,3,none⟩=some (.int .i64 kF) from hxa.cell 3) d os
 have b4:=fun d os=>cell_regrown (show w1.cell? ⟨w.heap.size,4,none⟩=some (.string qC) by rw [← hw1]; simp [go_sem]) d os
 have x4:=fun d os=>cell_regrown (show w1.cell? ⟨xb,4,none⟩=some (.string vg) from hxa.cell 4) d os
 have k0:=fun d os=>cell_regrown ((hb0.cell (p:=⟨kb,0,none⟩) hkl).trans hk) d os
 have Hb0:=hid hb0
 have HW:=hid hw1
 clear hb0 hw1 hk hx hkl hxl hxa
 go_enter Tryz.func140,Tryz.ntmps140
 go_wp2_with fail
 rw [HW.out]
 refine wp_region_quiet_below (by kernel_rfl) (by kernel_rfl) ?_
 repeat (go_big_quiet_step ((go_at_call 49; exact Calls.regrown_of (fT _ _ _ _ _ _))))
 refine wpQuiet_nil ?_
 intro _ hw'
 obtain⟨⟨nq,osq⟩,hw''⟩:=hw'
 subst hw''
 have hb2:=hid (Hb0.out.trans ((below_regrown w1 nq osq).mono Hb0.out.size))
 clear b0 x0 b1 x1 b2 x2 b3 x3 b4 x4 k0
 dsimp only
 generalize Sort.grow (redrawn w1 nq) osq=w2 at hb2 ⊢
 go_wp2
 go_ret
 exact⟨rfl,hb2.out⟩
theorem Fw (dO:ByteArray) (lK:Int) (lL:ByteArray) (fL:ByteArray) (oz:Int) (oA:ByteArray) (kb xb:Nat) (w:World) (hk:w.cell? ⟨kb,0,none⟩=some (.func (.func 51) #[] #[])) (hx:Blk w xb 61 #[.string fL,.int .i64 oz,.string oA]) :
 Calls Tryz.prog 143 #[.agg #[.string dO,.int .i64 lK,.string lL],.pointer (some ⟨kb,0,none⟩),.pointer (some ⟨xb,0,none⟩)] w fun e w'=>e = .returned (.bool (decide (dO=fL)))∧Below w.heap.size w w':=by
 rw [← Cu]
 have hb0:=(Below.refl w.heap.size w).alloc (Nat.le_refl _) (.cells #[.string dO,.int .i64 lK,.string lL] 61)
 have hkl:=block_lt_of_cell hk
 have hxl:=hx.lt
 have hxa:=hx.alloc (.cells #[.string dO,.int .i64 lK,.string lL] 61)
 generalize hw1:w.alloc (.cells #[.string dO,.int .i64 lK,.string lL] 61)=w1 at hb0 hxa
 have b0:=fun d os=>cell_regrown (show w1.cell? ⟨w.heap.size,0,none⟩=some (.string dO) by rw [← hw1]; simp [go_sem]) d os
 have x0:=fun d os=>cell_regrown (show w1.cell? ⟨xb,0,none⟩=some (.string fL) from hxa.cell 0) d os
 have b1:=fun d os=>cell_regrown (show w1.cell? ⟨w.heap.size,1,none⟩=some (.int .i64 lK) by rw [← hw1]; simp [go_sem]) d os
 have x1:=fun d os=>cell_regrown (show w1.cell? ⟨xb,1,none⟩=some (.int .i64 oz) from hxa.cell 1) d os
 have b2:=fun d os=>cell_regrown (show w1.cell? ⟨w.heap.size,2,none⟩=some (.string lL) by rw [← hw1]; simp [go_sem]) d os
 have x2:=fun d os=>cell_regrown (show w1.cell? ⟨xb,2,none⟩=some (.string oA) from hxa.cell 2) d os
 have k0:=fun d os=>cell_regrown ((hb0.cell (p:=⟨kb,0,none⟩) hkl).trans hk) d os
 have Hb0:=hid hb0
 have HW:=hid hw1
 clear hb0 hw1 hk hx hkl hxl hxa
 go_enter Tryz.func143,Tryz.ntmps143
 go_wp2_with fail
 rw [HW.out]
 refine wp_region_quiet_below (by kernel_rfl) (by kernel_rfl) ?_
 repeat (go_big_quiet_step ((go_at_call 51; exact Calls.regrown_of (iD _ _ _ _))))
 refine wpQuiet_nil ?_
 intro _ hw'
 obtain⟨⟨nq,osq⟩,hw''⟩:=hw'
 subst hw''
 have hb2:=hid (Hb0.out.trans ((below_regrown w1 nq osq).mono Hb0.out.size))
 clear b0 x0 b1 x1 b2 x2 k0
 dsimp only
 generalize Sort.grow (redrawn w1 nq) osq=w2 at hb2 ⊢
 go_wp2
 go_ret
 exact⟨rfl,hb2.out⟩
theorem DG (pF:ByteArray) (lM:ByteArray) (lN:Int) (sF:ByteArray) (oB:ByteArray) (oC:Int) (kb xb:Nat) (w:World) (hk:w.cell? ⟨kb,0,none⟩=some (.func (.func 53) #[] #[])) (hx:Blk w xb 63 #[.string sF,.string oB,.int .i64 oC]) :
 Calls Tryz.prog 146 #[.agg #[.string pF,.string lM,.int .i64 lN],.pointer (some ⟨kb,0,none⟩),.pointer (some ⟨xb,0,none⟩)] w fun e w'=>e = .returned (.bool (decide (pF=sF)))∧Below w.heap.size w w':=by
 rw [← Cu]
 have hb0:=(Below.refl w.heap.size w).alloc (Nat.le_refl _) (.cells #[.string pF,.string lM,.int .i64 lN] 63)
 have hkl:=block_lt_of_cell hk
 have hxl:=hx.lt
 have hxa:=hx.alloc (.cells #[.string pF,.string lM,.int .i64 lN] 63)
 generalize hw1:w.alloc (.cells #[.string pF,.string lM,.int .i64 lN] 63)=w1 at hb0 hxa
 have b0:=fun d os=>cell_regrown (show w1.cell? ⟨w.heap.size,0,none⟩=some (.string pF) by rw [← hw1]; simp [go_sem]) d os
 have x0:=fun d os=>cell_regrown (show w1.cell? ⟨xb,0,none⟩=some (.string sF) from hxa.cell 0) d os
 have b1:=fun d os=>cell_regrown (show w1.cell? ⟨w.heap.size,1,none⟩=some (.string lM) by rw [← hw1]; simp [go_sem]) d os
 have x1:=fun d os=>cell_regrown (show w1.cell? ⟨xb,1,none⟩=some (.string oB) from hxa.cell 1) d os
 have b2:=fun d os=>cell_regrown (show w1.cell? ⟨w.heap.size,2,none⟩=some (.int .i64 lN) by rw [← hw1]; simp [go_sem]) d os
 have x2:=fun d os=>cell_regrown (show w1.cell? ⟨xb,2,none⟩=some (.int .i64 oC) from hxa.cell 2) d os
 have k0:=fun d os=>cell_regrown ((hb0.cell (p:=⟨kb,0,none⟩) hkl).trans hk) d os
 have Hb0:=hid hb0
 have HW:=hid hw1
 clear hb0 hw1 hk hx hkl hxl hxa
 go_enter Tryz.func146,Tryz.ntmps146
 go_wp2_with fail
 rw [HW.out]
 refine wp_region_quiet_below (by kernel_rfl) (by kernel_rfl) ?_
 repeat (go_big_quiet_step ((go_at_call 53; exact Calls.regrown_of (eP _ _ _ _))))
 refine wpQuiet_nil ?_
 intro _ hw'
 obtain⟨⟨nq,osq⟩,hw''⟩:=hw'
 subst hw''
 have hb2:=hid (Hb0.out.trans ((below_regrown w1 nq osq).mono Hb0.out.size))
 clear b0 x0 b1 x1 b2 x2 k0
 dsimp only
 generalize Sort.grow (redrawn w1 nq) osq=w2 at hb2 ⊢
 go_wp2
 go_ret
 exact⟨rfl,hb2.out⟩
theorem pD :
 (∀ (a b:List aB) (A B:Option Addr) (n cA m cB:Nat) (w:World) (ha:aQ w w.heap.size 5 A n (au aH a)) (la:a.length=n) (hn:n≤1000) (hb:aQ w w.heap.size 5 B m (au aH b)) (lb:b.length=m) (hm:m≤1000),Calls Tryz.prog 96 #[.slice A n cA,.slice B m cB,.func (.func 49) #[] #[]] w (Fv aB.name a b 59 5 aH w)) ∧
 (∀ (a b:List av) (A B:Option Addr) (n cA m cB:Nat) (w:World) (ha:aQ w w.heap.size 3 A n (au aI a)) (la:a.length=n) (hn:n≤1000) (hb:aQ w w.heap.size 3 B m (au aI b)) (lb:b.length=m) (hm:m≤1000),Calls Tryz.prog 97 #[.slice A n cA,.slice B m cB,.func (.func 51) #[] #[]] w (Fv av.name a b 61 3 aI w)) ∧
 (∀ (a b:List ak) (A B:Option Addr) (n cA m cB:Nat) (w:World) (ha:aQ w w.heap.size 3 A n (au aE a)) (la:a.length=n) (hn:n≤1000) (hb:aQ w w.heap.size 3 B m (au aE b)) (lb:b.length=m) (hm:m≤1000),Calls Tryz.prog 98 #[.slice A n cA,.slice B m cB,.func (.func 53) #[] #[]] w (Fv ak.job a b 63 3 aE w)):=by
 refine⟨@fun a b A B n cA m cB w ha la hn hb lb hm=>(fun(jM0:Unit)=>?_) (),@fun a b A B n cA m cB w ha la hn hb lb hm=>(fun(jM1 jM3:Unit)=>?_) () (),@fun a b A B n cA m cB w ha la hn hb lb hm=>(fun(jM2 jM3:Unit)=>?_) () ()⟩<;>(
 have HA:=hid ha
 have HB:=hid hb
 have La:=hid la
 have Lb:=hid lb
 first|(guard_hyp jM0;have H0:=hid (show ∀ t,sO w 49 (w.alloc (.cells #[.func (.func 49) #[] #[]] t)) from fun t=>⟨(Below.refl _ _).alloc (Nat.le_refl _) _,by simp [go_sem],by simp⟩))|(guard_hyp jM1;have H0:=hid (show ∀ t,sO w 51 (w.alloc (.cells #[.func (.func 51) #[] #[]] t)) from fun t=>⟨(Below.refl _ _).alloc (Nat.le_refl _) _,by simp [go_sem],by simp⟩))|have H0:=hid (show ∀ t,sO w 53 (w.alloc (.cells #[.func (.func 53) #[] #[]] t)) from fun t=>⟨(Below.refl _ _).alloc (Nat.le_refl _) _,by simp [go_sem],by simp⟩)
 clear ha hb la lb
 first|(guard_hyp jM0;go_enter Tryz.func96,Tryz.ntmps96)|(guard_hyp jM1;go_enter Tryz.func97,Tryz.ntmps97)|go_enter Tryz.func98,Tryz.ntmps98
 go_wp2
 first|(guard_hyp jM0;go_loopw [14,6] (fun i s wr=>∃ (k:Nat) (A1:Option Addr) (c1:Nat) (l1:List aB),k≤m∧i = .int .i64 k∧l1=((b.take k).filter fun x=>!a.any (eqB x))∧s = .slice A1 l1.length c1∧sO w 49 wr∧wr.ownsRow (w.heap.size+1) 59 5 (.slice A1 l1.length c1) l1.length (au aH l1)) (fun i _ _=>m - (intOf i).toNat))|(guard_hyp jM1;go_loopw [14,6] (fun i s wr=>∃ (k:Nat) (A1:Option Addr) (c1:Nat) (l1:List av),k≤m∧i = .int .i64 k∧l1=((b.take k).filter fun x=>!a.any (eqB x))∧s = .slice A1 l1.length c1∧sO w 51 wr∧wr.ownsRow (w.heap.size+1) 61 3 (.slice A1 l1.length c1) l1.length (au aI l1)) (fun i _ _=>m - (intOf i).toNat))|go_loopw [14,6] (fun i s wr=>∃ (k:Nat) (A1:Option Addr) (c1:Nat) (l1:List ak),k≤m∧i = .int .i64 k∧l1=((b.take k).filter fun x=>!a.any (eqB x))∧s = .slice A1 l1.length c1∧sO w 53 wr∧wr.ownsRow (w.heap.size+1) 63 3 (.slice A1 l1.length c1) l1.length (au aE l1)) (fun i _ _=>m - (intOf i).toNat)
 case atStart=>exact⟨0,none,0,[],Nat.zero_le _,rfl,by simp,rfl,H0.out _,World.ownsRow_nil _ _ _ _⟩
 case round=>
  clear H0
  obtain⟨k,A1,c1,l1,hk,rfl,hl1,rfl,hat,ho⟩:=hrel
  have HAt:=hid hat
  have Ho:=hid ho
  have HL1:=hid hl1
  have hll:l1.length≤k:=by rw [hl1]; exact yS _ _ _
  have hsz:=hat.size
  clear hl1 ho
  by_cases hlt:k<m
  · obtain⟨x,hf⟩:∃ x,b[k]? = some x:=⟨_,List.getElem?_eq_getElem (by rw [Lb.out]; exact hlt)⟩
    first|(guard_hyp jM0;obtain⟨bb,off,rfl,hbB,hc⟩:=(HB.out.below hat.below).dF aN Lb.out hf)|(guard_hyp jM1;obtain⟨bb,off,rfl,hbB,hc⟩:=(HB.out.below hat.below).dF bF Lb.out hf)|obtain⟨bb,off,rfl,hbB,hc⟩:=(HB.out.below hat.below).dF bB Lb.out hf
    have Hf:=hid hf
    first
     |(
      guard_hyp jM0
      obtain⟨name,prio,need,tries,tag⟩:=x
      obtain⟨c0,c1,c2,c3,c4⟩:=rc5 hc)
     |(
      guard_hyp jM1
      obtain⟨name,room,zone⟩:=x
      obtain⟨c0,c1,c2⟩:=rc3 hc)
     |(
      guard_hyp jM2
      obtain⟨job,node,till⟩:=x
      obtain⟨c0,c1,c2⟩:=rc3 hc)
    have hlb:bb<wr.heap.size:=by omega
    first
     |(
      guard_hyp jM0
      have hX:Below wr.heap.size wr (wr.alloc (.cells #[.string name,.int .i64 prio,.int .i64 need,.int .i64 tries,.string tag] 59)):=(Below.refl _ _).alloc (Nat.le_refl _) _
      have HX:=hid (show Blk (wr.alloc (.cells #[.string name,.int .i64 prio,.int .i64 need,.int .i64 tries,.string tag] 59)) wr.heap.size 59 #[.string name,.int .i64 prio,.int .i64 need,.int .i64 tries,.string tag] from heap_alloc_new wr _))
     |(
      guard_hyp jM1
      have hX:Below wr.heap.size wr (wr.alloc (.cells #[.string name,.int .i64 room,.string zone] 61)):=(Below.refl _ _).alloc (Nat.le_refl _) _
      have HX:=hid (show Blk (wr.alloc (.cells #[.string name,.int .i64 room,.string zone] 61)) wr.heap.size 61 #[.string name,.int .i64 room,.string zone] from heap_alloc_new wr _))
     |(
      guard_hyp jM2
      have hX:Below wr.heap.size wr (wr.alloc (.cells #[.string job,.string node,.int .i64 till] 63)):=(Below.refl _ _).alloc (Nat.le_refl _) _
      have HX:=hid (show Blk (wr.alloc (.cells #[.string job,.string node,.int .i64 till] 63)) wr.heap.size 63 #[.string job,.string node,.int .i64 till] from heap_alloc_new wr _))
    have hAX:=hat.kept hX
    have HAX:=hid hAX
    have HOX:=hid (aU Ho.out hX)
    first
     |(
      guard_hyp jM0
      have HC:=hid (Nm ⟨name,prio,need,tries,tag⟩ a A n cA (wr.alloc (.cells #[.string name,.int .i64 prio,.int .i64 need,.int .i64 tries,.string tag] 59)) ((HA.out.below hAX.below).more hAX.below.size) La.out (by omega))
      rw [show (Value.agg (aH ⟨name,prio,need,tries,tag⟩).toArray) = .agg #[.string name,.int .i64 prio,.int .i64 need,.int .i64 tries,.string tag] from rfl] at HC)
     |(
      guard_hyp jM1
      have HC:=hid (KS ⟨name,room,zone⟩ a A n cA (wr.alloc (.cells #[.string name,.int .i64 room,.string zone] 61)) ((HA.out.below hAX.below).more hAX.below.size) La.out (by omega))
      rw [show (Value.agg (aI ⟨name,room,zone⟩).toArray) = .agg #[.string name,.int .i64 room,.string zone] from rfl] at HC)
     |(
      guard_hyp jM2
      have HC:=hid (I6 ⟨job,node,till⟩ a A n cA (wr.alloc (.cells #[.string job,.string node,.int .i64 till] 63)) ((HA.out.below hAX.below).more hAX.below.size) La.out (by omega))
      rw [show (Value.agg (aE ⟨job,node,till⟩).toArray) = .agg #[.string job,.string node,.int .i64 till] from rfl] at HC)
    clear hc hf hX hAX hat
    go_wp2_with fail
    refine Calls.mono HC.out ?_
    rintro e w3 ⟨rfl,hb3⟩
    have HA3:=hid (HAX.out.kept hb3)
    have HO3:=hid (aU HOX.out hb3)
    have hX3:=HX.out.below hb3 HX.out.lt
    have hxl:=hX3.lt
    first
     |(
      guard_hyp jM0
      obtain⟨j0,j1,j2,j3,j4⟩:=Blk.c5 (hX3)
      clear hb3 HC HX HAX HOX hX3 c0 c1 c2 c3 c4
      cases hany:a.any (eqB ⟨name,prio,need,tries,tag⟩))
     |(
      guard_hyp jM1
      have j0:w3.cell? ⟨wr.heap.size,0,none⟩=some (.string name):=hX3.cell 0
      have j1:w3.cell? ⟨wr.heap.size,1,none⟩=some (.int .i64 room):=hX3.cell 1
      have j2:w3.cell? ⟨wr.heap.size,2,none⟩=some (.string zone):=hX3.cell 2
      clear hb3 HC HX HAX HOX hX3 c0 c1 c2
      cases hany:a.any (eqB ⟨name,room,zone⟩))
     |(
      guard_hyp jM2
      have j0:w3.cell? ⟨wr.heap.size,0,none⟩=some (.string job):=hX3.cell 0
      have j1:w3.cell? ⟨wr.heap.size,1,none⟩=some (.string node):=hX3.cell 1
      have j2:w3.cell? ⟨wr.heap.size,2,none⟩=some (.int .i64 till):=hX3.cell 2
      clear hb3 HC HX HAX HOX hX3 c0 c1 c2
      cases hany:a.any (eqB ⟨job,node,till⟩))
    · have Hst:=hid (yR (p:=fun x=>!a.any (eqB x)) Hf.out (by simp only [hany]; rfl))
      have hbr:w.heap.size+1≤w3.heap.size:=by omega
      clear hany
      first
       |(
        guard_hyp jM0
        go_wp2_with (at_builtin; refine fu aH rfl _ _ 22 59 (.agg #[.string ⟨#[]⟩,.int .i64 0,.int .i64 0,.int .i64 0,.string ⟨#[]⟩]) 5 56 rfl Tryz.underlying22 oo rfl (by decide) aN kE (w.heap.size+1) _ _ _ l1 rfl HO3.out _ ⟨name,prio,need,tries,tag⟩ rfl _ (by simp) rfl (by omega) (by unfold maxLen; omega) hbr ?_; intro A2 c2 w4 ho4 hg4))
       |(
        guard_hyp jM1
        go_wp2_with (at_builtin; refine fu aI rfl _ _ 23 61 (.agg #[.string ⟨#[]⟩,.int .i64 0,.string ⟨#[]⟩]) 3 40 rfl Tryz.underlying23 mD rfl (by decide) bF jv (w.heap.size+1) _ _ _ l1 rfl HO3.out _ ⟨name,room,zone⟩ rfl _ (by simp) rfl (by omega) (by unfold maxLen; omega) hbr ?_; intro A2 c2 w4 ho4 hg4))
       |(
        guard_hyp jM2
        go_wp2_with (at_builtin; refine fu aE rfl _ _ 24 63 (.agg #[.string ⟨#[]⟩,.string ⟨#[]⟩,.int .i64 0]) 3 40 rfl Tryz.underlying24 kD rfl (by decide) bB iA (w.heap.size+1) _ _ _ l1 rfl HO3.out _ ⟨job,node,till⟩ rfl _ (by simp) rfl (by omega) (by unfold maxLen; omega) hbr ?_; intro A2 c2 w4 ho4 hg4))
      have HA4:=HA3.out.grew hg4 (fun k hk=>(HO3.out.lt k hk).1)
      go_roundw
      first
       |(
        guard_hyp jM0
        case rel=>exact⟨k+1,A2,c2,l1 ++ [⟨name,prio,need,tries,tag⟩],by omega,by go_num,by rw [Hst.out,← HL1.out],by simp,HA4,by simpa using ho4⟩)
       |(
        guard_hyp jM1
        case rel=>exact⟨k+1,A2,c2,l1 ++ [⟨name,room,zone⟩],by omega,by go_num,by rw [Hst.out,← HL1.out],by simp,HA4,by simpa using ho4⟩)
       |(
        guard_hyp jM2
        case rel=>exact⟨k+1,A2,c2,l1 ++ [⟨job,node,till⟩],by omega,by go_num,by rw [Hst.out,← HL1.out],by simp,HA4,by simpa using ho4⟩)
      case measure=>simp [intOf]; omega
    · have Hst:=hid (Bo (p:=fun x=>!a.any (eqB x)) Hf.out (by simp only [hany]; rfl))
      clear hany
      go_wp2
      go_roundw
      case rel=>exact⟨k+1,A1,c1,l1,by omega,by go_num,by rw [Hst.out,← HL1.out],rfl,HA3.out,HO3.out⟩
      case measure=>simp [intOf]; omega
  · have hnew:l1=newL a b:=by rw [HL1.out,filter_all _ (by rw [Lb.out]; omega)]; rfl
    subst hnew
    clear HL1
    have HO1:=Ho
    go_wp2
    first|(guard_hyp jM0;go_loopw [29,7] (fun i s wr=>∃ (k:Nat) (G:Option Addr) (cG:Nat) (g:List ByteArray),k≤n∧i = .int .i64 k∧g=(((a.take k).filter fun x=>!b.any fun y=>decide (y.name=x.name)).map aB.name)∧s = .slice G g.length cG∧sO w 49 wr∧wr.ownsRow (w.heap.size+1) 59 5 (.slice A1 (newL a b).length c1) (newL a b).length (au aH (newL a b))∧wr.ownsRow (w.heap.size+1) 9 1 (.slice G g.length cG) g.length (au mN g)) (fun i _ _=>n - (intOf i).toNat))|(guard_hyp jM1;go_loopw [29,7] (fun i s wr=>∃ (k:Nat) (G:Option Addr) (cG:Nat) (g:List ByteArray),k≤n∧i = .int .i64 k∧g=(((a.take k).filter fun x=>!b.any fun y=>decide (y.name=x.name)).map av.name)∧s = .slice G g.length cG∧sO w 51 wr∧wr.ownsRow (w.heap.size+1) 61 3 (.slice A1 (newL a b).length c1) (newL a b).length (au aI (newL a b))∧wr.ownsRow (w.heap.size+1) 9 1 (.slice G g.length cG) g.length (au mN g)) (fun i _ _=>n - (intOf i).toNat))|go_loopw [29,7] (fun i s wr=>∃ (k:Nat) (G:Option Addr) (cG:Nat) (g:List ByteArray),k≤n∧i = .int .i64 k∧g=(((a.take k).filter fun x=>!b.any fun y=>decide (y.job=x.job)).map ak.job)∧s = .slice G g.length cG∧sO w 53 wr∧wr.ownsRow (w.heap.size+1) 63 3 (.slice A1 (newL a b).length c1) (newL a b).length (au aE (newL a b))∧wr.ownsRow (w.heap.size+1) 9 1 (.slice G g.length cG) g.length (au mN g)) (fun i _ _=>n - (intOf i).toNat)
    case atStart=>exact⟨0,none,0,[],Nat.zero_le _,rfl,by simp,rfl,HAt.out,HO1.out,World.ownsRow_nil _ _ _ _⟩
    case round=>
     clear HAt HO1 hat hsz Ho hk hlt hll
     obtain⟨k,G,cG,g,hk,rfl,hg,rfl,hat,ho1,ho⟩:=hrel
     have HAt:=hid hat
     have Ho:=hid ho
     have Ho1:=hid ho1
     have HG:=hid hg
     have hgl:g.length≤k:=by rw [hg,List.length_map]; exact yS _ _ _
     have hsz:=hat.size
     clear hg ho ho1
     by_cases hlt:k<n
     · obtain⟨x,hf⟩:∃ x,a[k]? = some x:=⟨_,List.getElem?_eq_getElem (by rw [La.out]; exact hlt)⟩
       first|(guard_hyp jM0;obtain⟨bb,off,rfl,hbB,hc⟩:=(HA.out.below hat.below).dF aN La.out hf)|(guard_hyp jM1;obtain⟨bb,off,rfl,hbB,hc⟩:=(HA.out.below hat.below).dF bF La.out hf)|obtain⟨bb,off,rfl,hbB,hc⟩:=(HA.out.below hat.below).dF bB La.out hf
       first|(guard_hyp jM0;have Hst:=hid (sP (key:=aB.name) (b:=b) hf))|(guard_hyp jM1;have Hst:=hid (sP (key:=av.name) (b:=b) hf))|have Hst:=hid (sP (key:=ak.job) (b:=b) hf)
       first
        |(
         guard_hyp jM0
         obtain⟨name,prio,need,tries,tag⟩:=x
         obtain⟨c0,c1,c2,c3,c4⟩:=rc5 hc)
        |(
         guard_hyp jM1
         obtain⟨name,room,zone⟩:=x
         obtain⟨c0,c1,c2⟩:=rc3 hc)
        |(
         guard_hyp jM2
         obtain⟨job,node,till⟩:=x
         obtain⟨c0,c1,c2⟩:=rc3 hc)
       have hlb:bb<wr.heap.size:=by omega
       first
        |(
         guard_hyp jM0
         have hX:Below wr.heap.size wr (wr.alloc (.cells #[.string name,.int .i64 prio,.int .i64 need,.int .i64 tries,.string tag] 59)):=(Below.refl _ _).alloc (Nat.le_refl _) _
         have hXB:Blk (wr.alloc (.cells #[.string name,.int .i64 prio,.int .i64 need,.int .i64 tries,.string tag] 59)) wr.heap.size 59 #[.string name,.int .i64 prio,.int .i64 need,.int .i64 tries,.string tag]:=heap_alloc_new wr _)
        |(
         guard_hyp jM1
         have hX:Below wr.heap.size wr (wr.alloc (.cells #[.string name,.int .i64 room,.string zone] 61)):=(Below.refl _ _).alloc (Nat.le_refl _) _
         have hXB:Blk (wr.alloc (.cells #[.string name,.int .i64 room,.string zone] 61)) wr.heap.size 61 #[.string name,.int .i64 room,.string zone]:=heap_alloc_new wr _)
        |(
         guard_hyp jM2
         have hX:Below wr.heap.size wr (wr.alloc (.cells #[.string job,.string node,.int .i64 till] 63)):=(Below.refl _ _).alloc (Nat.le_refl _) _
         have hXB:Blk (wr.alloc (.cells #[.string job,.string node,.int .i64 till] 63)) wr.heap.size 63 #[.string job,.string node,.int .i64 till]:=heap_alloc_new wr _)
       have HX:=hid hXB
       have hAX:=hat.kept hX
       have HAX:=hid hAX
       have HOX:=hid (aU Ho.out hX)
       have No:=hid (aU Ho1.out hX)
       first
        |(
         guard_hyp jM0
         have hP:mq (fun y:aB=>decide (y.name=name)) 140 #[.pointer (some ⟨w.heap.size,0,none⟩),.pointer (some ⟨wr.heap.size,0,none⟩)] aH b (wr.alloc (.cells #[.string name,.int .i64 prio,.int .i64 need,.int .i64 tries,.string tag] 59)):=by
          intro W hW y _
          obtain⟨dO,lI,lJ,iC,qC⟩:=y
          exact I5 dO lI lJ iC qC name prio need tries tag w.heap.size wr.heap.size W (hAX.kept (hW.mono (Nat.le_refl _))).key (hXB.below hW hXB.lt)
         have HC:=hid (KT (fun y:aB=>decide (y.name=name)) 140 #[.pointer (some ⟨w.heap.size,0,none⟩),.pointer (some ⟨wr.heap.size,0,none⟩)] b B m cB (wr.alloc (.cells #[.string name,.int .i64 prio,.int .i64 need,.int .i64 tries,.string tag] 59)) (Go.Proofs.enters_of Tryz.func140 (by kernel_rfl) rfl) ((HB.out.below hAX.below).more hAX.below.size) Lb.out (by omega) hP))
        |(
         guard_hyp jM1
         have hP:mq (fun y:av=>decide (y.name=name)) 143 #[.pointer (some ⟨w.heap.size,0,none⟩),.pointer (some ⟨wr.heap.size,0,none⟩)] aI b (wr.alloc (.cells #[.string name,.int .i64 room,.string zone] 61)):=by
          intro W hW y _
          obtain⟨dO,lK,lL⟩:=y
          exact Fw dO lK lL name room zone w.heap.size wr.heap.size W (hAX.kept (hW.mono (Nat.le_refl _))).key (hXB.below hW hXB.lt)
         have HC:=hid (I7 (fun y:av=>decide (y.name=name)) 143 #[.pointer (some ⟨w.heap.size,0,none⟩),.pointer (some ⟨wr.heap.size,0,none⟩)] b B m cB (wr.alloc (.cells #[.string name,.int .i64 room,.string zone] 61)) (Go.Proofs.enters_of Tryz.func143 (by kernel_rfl) rfl) ((HB.out.below hAX.below).more hAX.below.size) Lb.out (by omega) hP))
        |(
         guard_hyp jM2
         have hP:mq (fun y:ak=>decide (y.job=job)) 146 #[.pointer (some ⟨w.heap.size,0,none⟩),.pointer (some ⟨wr.heap.size,0,none⟩)] aE b (wr.alloc (.cells #[.string job,.string node,.int .i64 till] 63)):=by
          intro W hW y _
          obtain⟨pF,lM,lN⟩:=y
          exact DG pF lM lN job node till w.heap.size wr.heap.size W (hAX.kept (hW.mono (Nat.le_refl _))).key (hXB.below hW hXB.lt)
         have HC:=hid (Fx (fun y:ak=>decide (y.job=job)) 146 #[.pointer (some ⟨w.heap.size,0,none⟩),.pointer (some ⟨wr.heap.size,0,none⟩)] b B m cB (wr.alloc (.cells #[.string job,.string node,.int .i64 till] 63)) (Go.Proofs.enters_of Tryz.func146 (by kernel_rfl) rfl) ((HB.out.below hAX.below).more hAX.below.size) Lb.out (by omega) hP))
       have hmf:∀ (fn:Fn) (first cap:Array Value) (w:World),(Instr.makeFunc fn first cap).run Tryz.prog w = .ok (.func fn first cap) w:=fun _ _ _ _=>rfl
       clear hc hf hX hXB hAX hat hP
       go_wp2_with fail
       refine Calls.mono HC.out ?_
       rintro e w3 ⟨rfl,hb3⟩
       have HA3:=hid (HAX.out.kept hb3)
       have HO3:=hid (aU HOX.out hb3)
       have HO13:=hid (aU No.out hb3)
       have hX3:=HX.out.below hb3 HX.out.lt
       have hxl:=hX3.lt
       first|(guard_hyp jM0;have hky:w3.cell? ⟨w.heap.size,0,none⟩=some (.func (.func 49) #[] #[]):=HA3.out.key)|(guard_hyp jM1;have hky:w3.cell? ⟨w.heap.size,0,none⟩=some (.func (.func 51) #[] #[]):=HA3.out.key)|have hky:w3.cell? ⟨w.heap.size,0,none⟩=some (.func (.func 53) #[] #[]):=HA3.out.key
       have hwl:=HA3.out.size
       first
        |(
         guard_hyp jM0
         obtain⟨j0,j1,j2,j3,j4⟩:=Blk.c5 (hX3)
         clear hb3 HC HX HAX HOX No hX3 c0 c1 c2 c3 c4)
        |(
         guard_hyp jM1
         have j0:w3.cell? ⟨wr.heap.size,0,none⟩=some (.string name):=hX3.cell 0
         have j1:w3.cell? ⟨wr.heap.size,1,none⟩=some (.int .i64 room):=hX3.cell 1
         have j2:w3.cell? ⟨wr.heap.size,2,none⟩=some (.string zone):=hX3.cell 2
         clear hb3 HC HX HAX HOX No hX3 c0 c1 c2)
        |(
         guard_hyp jM2
         have j0:w3.cell? ⟨wr.heap.size,0,none⟩=some (.string job):=hX3.cell 0
         have j1:w3.cell? ⟨wr.heap.size,1,none⟩=some (.string node):=hX3.cell 1
         have j2:w3.cell? ⟨wr.heap.size,2,none⟩=some (.int .i64 till):=hX3.cell 2
         clear hb3 HC HX HAX HOX No hX3 c0 c1 c2)
       first|(guard_hyp jM2;cases hany:b.any fun y=>decide (y.job=job))|cases hany:b.any fun y=>decide (y.name=name)
       · have Hs:=hid (Hst.out.1 hany)
         clear hany
         go_wp2_with fail
         first
          |(
           guard_hyp jM0
           refine Calls.mono (fT name prio need tries tag _) ?_)
          |(
           guard_hyp jM1
           refine Calls.mono (iD name room zone _) ?_)
          |(
           guard_hyp jM2
           refine Calls.mono (eP job node till _) ?_)
         rintro e w5 ⟨rfl,hb5⟩
         have HA5:=hid (HA3.out.kept hb5)
         have HO5:=hid (aU HO3.out hb5)
         have HO15:=hid (aU HO13.out hb5)
         have hbr:w.heap.size+1≤w5.heap.size:=by have:=hb5.size; omega
         first
          |(
           guard_hyp jM0
           clear hb5 hky j0 j1 j2 j3 j4)
          |(
           guard_hyp jM3
           clear hb5 hky j0 j1 j2)
         first|(guard_hyp jM2;go_wp2_with (at_builtin; refine fu mN rfl _ _ 46 9 (.string ⟨#[]⟩) 1 16 rfl Tryz.underlying46 DH rfl (by decide) jQ Bp (w.heap.size+1) _ _ _ g rfl HO5.out _ job rfl _ (by simp) rfl (by omega) (by unfold maxLen; omega) hbr ?_; intro A2 c2 w4 ho4 hg4))|go_wp2_with (at_builtin; refine fu mN rfl _ _ 46 9 (.string ⟨#[]⟩) 1 16 rfl Tryz.underlying46 DH rfl (by decide) jQ Bp (w.heap.size+1) _ _ _ g rfl HO5.out _ name rfl _ (by simp) rfl (by omega) (by unfold maxLen; omega) hbr ?_; intro A2 c2 w4 ho4 hg4)
         have HA4:=HA5.out.grew hg4 (fun k hk=>(HO5.out.lt k hk).1)
         have HO14:=nV HO15.out hg4 HO5.out (by decide)
         go_roundw
         case rel=>first|(guard_hyp jM2;exact⟨k+1,A2,c2,g ++ [job],by omega,by go_num,by rw [HG.out]; exact Hs.out.symm,by simp,HA4,HO14,by simpa using ho4⟩)|exact⟨k+1,A2,c2,g ++ [name],by omega,by go_num,by rw [HG.out]; exact Hs.out.symm,by simp,HA4,HO14,by simpa using ho4⟩
         case measure=>simp [intOf]; omega
       · have Hs:=hid (Hst.out.2 hany)
         clear hany
         go_wp2
         go_roundw
         case rel=>exact⟨k+1,G,cG,g,by omega,by go_num,by rw [HG.out]; exact Hs.out.symm,rfl,HA3.out,HO13.out,HO3.out⟩
         case measure=>simp [intOf]; omega
     · first|(guard_hyp jM0;have hgo:g=bH aB.name a b:=by rw [HG.out,filter_all _ (by rw [La.out]; omega)]; rfl)|(guard_hyp jM1;have hgo:g=bH av.name a b:=by rw [HG.out,filter_all _ (by rw [La.out]; omega)]; rfl)|have hgo:g=bH ak.job a b:=by rw [HG.out,filter_all _ (by rw [La.out]; omega)]; rfl
       subst hgo
       clear HG
       go_wp2
       go_ret2
       exact⟨A1,c1,G,cG,rfl,Ho1.out,Ho.out,HAt.out.below⟩)
end Go.Proofs.YtcpgnjmaampglaaGreatDoor
