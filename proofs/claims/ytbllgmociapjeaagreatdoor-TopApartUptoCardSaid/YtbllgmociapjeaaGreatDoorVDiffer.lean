/- Of the proof of a statement: Differ. -/
import Derived.Lib.QuietBelow
import Derived.Test.YtbllgmociapjeaaGreatDoorVRowsC
set_option linter.unusedVariables false
set_option linter.unusedSimpArgs false
set_option maxRecDepth 100000
set_option maxHeartbeats 8000000
/- The walks of differ, at jobs, nodes and leases. -/
namespace Go.Proofs.YtbllgmociapjeaaGreatDoor
open Go.Lib (hid)
open Go.RowKit
def BE {α:Type} (key:α→ByteArray) (a b:List α) (T:TypeId) (sz:Nat) (enc:α→List Value) (w:World) (e:Ending) (w':World):Prop:=
 ∃ A c G c',e = .returned (.tuple #[.slice A (newL a b).length c,.slice G (bX key a b).length c'])∧w'.ownsRow (w.heap.size+1) T sz (.slice A (newL a b).length c) (newL a b).length (au enc (newL a b)) ∧
  w'.ownsRow (w.heap.size+1) 9 1 (.slice G (bX key a b).length c') (bX key a b).length (au mD (bX key a b))∧Below w.heap.size w w'
structure p8 (w0:World) (F:FuncId) (wr:World):Prop where
 below:Below w0.heap.size w0 wr
 key:wr.cell? ⟨w0.heap.size,0,none⟩=some (.func (.func F) #[] #[])
 size:w0.heap.size<wr.heap.size
theorem p8.kept {w0 w w':World} {F:FuncId} (h:p8 w0 F w) (hb:Below w.heap.size w w'):p8 w0 F w':=
 ⟨h.below.trans (hb.mono h.below.size),(hb.cell (p:=⟨w0.heap.size,0,none⟩) h.size).trans h.key,Nat.lt_of_lt_of_le h.size hb.size⟩
theorem p8.grew {w0 w w':World} {F:FuncId} {v v':Value} (h:p8 w0 F w) (hg:bZ w w' v v') (hv:∀ k,v.ownBlock=some k→w0.heap.size+1≤k):p8 w0 F w':=
 have hb:=hg.below (B:=w0.heap.size+1) h.size hv
 ⟨h.below.trans (hb.mono (Nat.le_succ _)),(hb.cell (p:=⟨w0.heap.size,0,none⟩) (Nat.lt_succ_self _)).trans h.key,Nat.lt_of_lt_of_le h.size hb.size⟩
theorem p9 {α:Type} {key:α→ByteArray} {a b:List α} {k:Nat} {x:α} (h:a[k]? = some x):((b.any fun y=>decide (key y=key x))=false→(((a.take (k+1)).filter fun x=>!b.any fun y=>decide (key y=key x)).map key)=(((a.take k).filter fun x=>!b.any fun y=>decide (key y=key x)).map key) ++ [key x])∧((b.any fun y=>decide (key y=key x))=true→(((a.take (k+1)).filter fun x=>!b.any fun y=>decide (key y=key x)).map key)=(((a.take k).filter fun x=>!b.any fun y=>decide (key y=key x)).map key)):=by
 constructor
 · intro h1
   rw [nu (p:=fun x=>!b.any fun y=>decide (key y=key x)) h (by simp only [h1]; rfl),List.map_append]; rfl
 · intro h1
   rw [o7 (p:=fun x=>!b.any fun y=>decide (key y=key x)) h (by simp only [h1]; rfl)]
theorem DQ (kg:ByteArray) (uW:Int) (uX:Int) (qc:Int) (BF:ByteArray) (uY:ByteArray) (Kd:Int) (Ke:Int) (FI:Int) (xtag:ByteArray) (kb xb:Nat) (w:World) (hk:w.cell? ⟨kb,0,none⟩=some (.func (.func 144) #[] #[])) (hx:Blk w xb 32 #[.string uY,.int .i64 Kd,.int .i64 Ke,.int .i64 FI,.string xtag]) :
 Calls Tryz.prog 202 #[.agg #[.string kg,.int .i64 uW,.int .i64 uX,.int .i64 qc,.string BF],.pointer (some ⟨kb,0,none⟩),.pointer (some ⟨xb,0,none⟩)] w fun e w'=>e = .returned (.bool (decide (kg=uY)))∧Below w.heap.size w w':=by
 rw [← qT]
 have hb0:=(Below.refl w.heap.size w).alloc (Nat.le_refl _) (.cells #[.string kg,.int .i64 uW,.int .i64 uX,.int .i64 qc,.string BF] 32)
 have hkl:=block_lt_of_cell hk
 have hxl:=hx.lt
 have hxa:=hx.alloc (.cells #[.string kg,.int .i64 uW,.int .i64 uX,.int .i64 qc,.string BF] 32)
 generalize hw1:w.alloc (.cells #[.string kg,.int .i64 uW,.int .i64 uX,.int .i64 qc,.string BF] 32)=w1 at hb0 hxa
 have b0:=fun d os=>cell_regrown (show w1.cell? ⟨w.heap.size,0,none⟩=some (.string kg) by rw [← hw1]; simp [go_sem]) d os
 have x0:=fun d os=>cell_regrown (show w1.cell? ⟨xb,0,none⟩=some (.string uY) from hxa.cell 0) d os
 have b1:=fun d os=>cell_regrown (show w1.cell? ⟨w.heap.size,1,none⟩=some (.int .i64 uW) by rw [← hw1]; simp [go_sem]) d os
 have x1:=fun d os=>cell_regrown (show w1.cell? ⟨xb,1,none⟩=some (.int .i64 Kd) from hxa.cell 1) d os
 have b2:=fun d os=>cell_regrown (show w1.cell? ⟨w.heap.size,2,none⟩=some (.int .i64 uX) by rw [← hw1]; simp [go_sem]) d os
 have x2:=fun d os=>cell_regrown (show w1.cell? ⟨xb,2,none⟩=some (.int .i64 Ke) from hxa.cell 2) d os
 have b3:=fun d os=>cell_regrown (show w1.cell? ⟨w.heap.size,3,none⟩=some (.int .i64 qc) by rw [← hw1]; simp [go_sem]) d os
 have x3:=fun d os=>cell_regrown (show w1.cell? ⟨xb,3,none⟩=some (.int .i64 FI) from hxa.cell 3) d os
 have b4:=fun d os=>cell_regrown (show w1.cell? ⟨w.heap.size,4,none⟩=some (.string BF) by rw [← hw1]; simp [go_sem]) d os
 have x4:=fun d os=>cell_regrown (show w1.cell? ⟨xb,4,none⟩=some (.string xtag) from hxa.cell 4) d os
 have k0:=fun d os=>cell_regrown ((hb0.cell (p:=⟨kb,0,none⟩) hkl).trans hk) d os
 have Hb0:=hid hb0
 have HW:=hid hw1
 clear hb0 hw1 hk hx hkl hxl hxa
 go_enter Tryz.func202,Tryz.ntmps202
 go_wp2_with fail
 rw [HW.out]
 refine wp_region_quiet_below (by kernel_rfl) (by kernel_rfl) ?_
 repeat (go_big_quiet_step ((go_at_call 144; exact Calls.regrown_of (gS _ _ _ _ _ _))))
 refine wpQuiet_nil ?_
 intro _ hw'
 obtain⟨⟨nq,osq⟩,hw''⟩:=hw'
 subst hw''
 have hb2:=hid (Hb0.out.trans ((below_regrown w1 nq osq).mono Hb0.out.size))
 clear b0 x0 b1 x1 b2 x2 b3 x3 b4 x4 k0
 dsimp only
 generalize Sort.grow (redrawn w1 nq) osq=w2 at hb2 ⊢
 go_wp2
 go_ret
 exact⟨rfl,hb2.out⟩
theorem Bt (a b:List aC) (A B:Option Addr) (n cA m cB:Nat) (w:World) (ha:aU w w.heap.size 5 A n (au aI a)) (la:a.length=n) (hn:n≤1000) (hb:aU w w.heap.size 5 B m (au aI b)) (lb:b.length=m) (hm:m≤1000) :
 Calls Tryz.prog 168 #[.slice A n cA,.slice B m cB,.func (.func 144) #[] #[]] w (BE aC.name a b 32 5 aI w):=by
 have HA:=hid ha
 have HB:=hid hb
 have La:=hid la
 have Lb:=hid lb
 have H0:=hid (show ∀ t,p8 w 144 (w.alloc (.cells #[.func (.func 144) #[] #[]] t)) from fun t=>⟨(Below.refl _ _).alloc (Nat.le_refl _) _,by simp [go_sem],by simp⟩)
 clear ha hb la lb
 go_enter Tryz.func168,Tryz.ntmps168
 go_wp2
 go_loopw [14,6] (fun i s wr=>∃ (k:Nat) (A1:Option Addr) (c1:Nat) (l1:List aC),k≤m∧i = .int .i64 k∧l1=((b.take k).filter fun x=>!a.any (eqB x))∧s = .slice A1 l1.length c1∧p8 w 144 wr∧wr.ownsRow (w.heap.size+1) 32 5 (.slice A1 l1.length c1) l1.length (au aI l1)) (fun i _ _=>m - (intOf i).toNat)
 case atStart=>exact⟨0,none,0,[],Nat.zero_le _,rfl,by simp,rfl,H0.out _,World.ownsRow_nil _ _ _ _⟩
 case round=>
  clear H0
  obtain⟨k,A1,c1,l1,hk,rfl,hl1,rfl,hat,ho⟩:=hrel
  have HAt:=hid hat
  have Ho:=hid ho
  have HL1:=hid hl1
  have hll:l1.length≤k:=by rw [hl1]; exact jI _ _ _
  have hsz:=hat.size
  clear hl1 ho
  by_cases hlt:k<m
  · obtain⟨x,hf⟩:∃ x,b[k]? = some x:=⟨_,List.getElem?_eq_getElem (by rw [Lb.out]; exact hlt)⟩
    obtain⟨bb,off,rfl,hbB,hc⟩:=(HB.out.below hat.below).dB aV Lb.out hf
    have Hf:=hid hf
    obtain⟨name,prio,need,tries,tag⟩:=x
    obtain⟨c0,c1,c2,c3,c4⟩:=rc5 hc
    have hlb:bb<wr.heap.size:=by omega
    have hX:Below wr.heap.size wr (wr.alloc (.cells #[.string name,.int .i64 prio,.int .i64 need,.int .i64 tries,.string tag] 32)):=(Below.refl _ _).alloc (Nat.le_refl _) _
    have HX:=hid (show Blk (wr.alloc (.cells #[.string name,.int .i64 prio,.int .i64 need,.int .i64 tries,.string tag] 32)) wr.heap.size 32 #[.string name,.int .i64 prio,.int .i64 need,.int .i64 tries,.string tag] from heap_alloc_new wr _)
    have hAX:=hat.kept hX
    have HAX:=hid hAX
    have HOX:=hid (ay Ho.out hX)
    have HC:=hid (IR ⟨name,prio,need,tries,tag⟩ a A n cA (wr.alloc (.cells #[.string name,.int .i64 prio,.int .i64 need,.int .i64 tries,.string tag] 32)) ((HA.out.below hAX.below).more hAX.below.size) La.out (by omega))
    rw [show (Value.agg (aI ⟨name,prio,need,tries,tag⟩).toArray) = .agg #[.string name,.int .i64 prio,.int .i64 need,.int .i64 tries,.string tag] from rfl] at HC
    clear hc hf hX hAX hat
    go_wp2_with fail
    refine Calls.mono HC.out ?_
    rintro e w3 ⟨rfl,hb3⟩
    have HA3:=hid (HAX.out.kept hb3)
    have HO3:=hid (ay HOX.out hb3)
    have hX3:=HX.out.below hb3 HX.out.lt
    have hxl:=hX3.lt
    obtain⟨j0,j1,j2,j3,j4⟩:=Blk.c5 (hX3)
    clear hb3 HC HX HAX HOX hX3 c0 c1 c2 c3 c4
    cases hany:a.any (eqB ⟨name,prio,need,tries,tag⟩)
    · have Hst:=hid (nu (p:=fun x=>!a.any (eqB x)) Hf.out (by simp only [hany]; rfl))
      have hbr:w.heap.size+1≤w3.heap.size:=by omega
      clear hany
      go_wp2_with (at_builtin; refine ko aI rfl _ _ 22 32 (.agg #[.string ⟨#[]⟩,.int .i64 0,.int .i64 0,.int .i64 0,.string ⟨#[]⟩]) 5 56 rfl Tryz.underlying22 zS rfl (by decide) aV xJ (w.heap.size+1) _ _ _ l1 rfl HO3.out _ ⟨name,prio,need,tries,tag⟩ rfl _ (by simp) rfl (by omega) (by unfold maxLen; omega) hbr ?_; intro A2 c2 w4 ho4 hg4)
      have HA4:=HA3.out.grew hg4 (fun k hk=>(HO3.out.lt k hk).1)
      go_roundw
      case rel=>exact⟨k+1,A2,c2,l1 ++ [⟨name,prio,need,tries,tag⟩],by omega,by go_num,by rw [Hst.out,← HL1.out],by simp,HA4,by simpa using ho4⟩
      case measure=>simp [intOf]; omega
    · have Hst:=hid (o7 (p:=fun x=>!a.any (eqB x)) Hf.out (by simp only [hany]; rfl))
      clear hany
      go_wp2
      go_roundw
      case rel=>exact⟨k+1,A1,c1,l1,by omega,by go_num,by rw [Hst.out,← HL1.out],rfl,HA3.out,HO3.out⟩
      case measure=>simp [intOf]; omega
  · have hnew:l1=newL a b:=by rw [HL1.out,filter_all _ (by rw [Lb.out]; omega)]; rfl
    subst hnew
    clear HL1
    have HO1:=Ho
    go_wp2
    go_loopw [29,7] (fun i s wr=>∃ (k:Nat) (G:Option Addr) (cG:Nat) (g:List ByteArray),k≤n∧i = .int .i64 k∧g=(((a.take k).filter fun x=>!b.any fun y=>decide (y.name=x.name)).map aC.name)∧s = .slice G g.length cG∧p8 w 144 wr∧wr.ownsRow (w.heap.size+1) 32 5 (.slice A1 (newL a b).length c1) (newL a b).length (au aI (newL a b))∧wr.ownsRow (w.heap.size+1) 9 1 (.slice G g.length cG) g.length (au mD g)) (fun i _ _=>n - (intOf i).toNat)
    case atStart=>exact⟨0,none,0,[],Nat.zero_le _,rfl,by simp,rfl,HAt.out,HO1.out,World.ownsRow_nil _ _ _ _⟩
    case round=>
     clear HAt HO1 hat hsz Ho hk hlt hll
     obtain⟨k,G,cG,g,hk,rfl,hg,rfl,hat,ho1,ho⟩:=hrel
     have HAt:=hid hat
     have Ho:=hid ho
     have Ho1:=hid ho1
     have HG:=hid hg
     have hgl:g.length≤k:=by rw [hg,List.length_map]; exact jI _ _ _
     have hsz:=hat.size
     clear hg ho ho1
     by_cases hlt:k<n
     · obtain⟨x,hf⟩:∃ x,a[k]? = some x:=⟨_,List.getElem?_eq_getElem (by rw [La.out]; exact hlt)⟩
       obtain⟨bb,off,rfl,hbB,hc⟩:=(HA.out.below hat.below).dB aV La.out hf
       have Hst:=hid (p9 (key:=aC.name) (b:=b) hf)
       obtain⟨name,prio,need,tries,tag⟩:=x
       obtain⟨c0,c1,c2,c3,c4⟩:=rc5 hc
       have hlb:bb<wr.heap.size:=by omega
       have hX:Below wr.heap.size wr (wr.alloc (.cells #[.string name,.int .i64 prio,.int .i64 need,.int .i64 tries,.string tag] 32)):=(Below.refl _ _).alloc (Nat.le_refl _) _
       have hXB:Blk (wr.alloc (.cells #[.string name,.int .i64 prio,.int .i64 need,.int .i64 tries,.string tag] 32)) wr.heap.size 32 #[.string name,.int .i64 prio,.int .i64 need,.int .i64 tries,.string tag]:=heap_alloc_new wr _
       have HX:=hid hXB
       have hAX:=hat.kept hX
       have HAX:=hid hAX
       have HOX:=hid (ay Ho.out hX)
       have zZ:=hid (ay Ho1.out hX)
       have hP:kQ (fun y:aC=>decide (y.name=name)) 202 #[.pointer (some ⟨w.heap.size,0,none⟩),.pointer (some ⟨wr.heap.size,0,none⟩)] aI b (wr.alloc (.cells #[.string name,.int .i64 prio,.int .i64 need,.int .i64 tries,.string tag] 32)):=by
        intro W hW y _
        obtain⟨kg,uW,uX,qc,BF⟩:=y
        exact DQ kg uW uX qc BF name prio need tries tag w.heap.size wr.heap.size W (hAX.kept (hW.mono (Nat.le_refl _))).key (hXB.below hW hXB.lt)
       have HC:=hid (FJ (fun y:aC=>decide (y.name=name)) 202 #[.pointer (some ⟨w.heap.size,0,none⟩),.pointer (some ⟨wr.heap.size,0,none⟩)] b B m cB (wr.alloc (.cells #[.string name,.int .i64 prio,.int .i64 need,.int .i64 tries,.string tag] 32)) (Go.Proofs.enters_of Tryz.func202 (by kernel_rfl) rfl) ((HB.out.below hAX.below).more hAX.below.size) Lb.out (by omega) hP)
       have hmf:∀ (fn:Fn) (first cap:Array Value) (w:World),(Instr.makeFunc fn first cap).run Tryz.prog w = .ok (.func fn first cap) w:=fun _ _ _ _=>rfl
       clear hc hf hX hXB hAX hat hP
       go_wp2_with fail
       refine Calls.mono HC.out ?_
       rintro e w3 ⟨rfl,hb3⟩
       have HA3:=hid (HAX.out.kept hb3)
       have HO3:=hid (ay HOX.out hb3)
       have Aa:=hid (ay zZ.out hb3)
       have hX3:=HX.out.below hb3 HX.out.lt
       have hxl:=hX3.lt
       have hky:w3.cell? ⟨w.heap.size,0,none⟩=some (.func (.func 144) #[] #[]):=HA3.out.key
       have hwl:=HA3.out.size
       obtain⟨j0,j1,j2,j3,j4⟩:=Blk.c5 (hX3)
       clear hb3 HC HX HAX HOX zZ hX3 c0 c1 c2 c3 c4
       cases hany:b.any fun y=>decide (y.name=name)
       · have Hs:=hid (Hst.out.1 hany)
         clear hany
         go_wp2_with fail
         refine Calls.mono (gS name prio need tries tag _) ?_
         rintro e w5 ⟨rfl,hb5⟩
         have HA5:=hid (HA3.out.kept hb5)
         have HO5:=hid (ay HO3.out hb5)
         have FK:=hid (ay Aa.out hb5)
         have hbr:w.heap.size+1≤w5.heap.size:=by have:=hb5.size; omega
         clear hb5 hky j0 j1 j2 j3 j4
         go_wp2_with (at_builtin; refine ko mD rfl _ _ 28 9 (.string ⟨#[]⟩) 1 16 rfl Tryz.underlying28 uZ rfl (by decide) fQ sC (w.heap.size+1) _ _ _ g rfl HO5.out _ name rfl _ (by simp) rfl (by omega) (by unfold maxLen; omega) hbr ?_; intro A2 c2 w4 ho4 hg4)
         have HA4:=HA5.out.grew hg4 (fun k hk=>(HO5.out.lt k hk).1)
         have FM:=bJ FK.out hg4 HO5.out (by decide)
         go_roundw
         case rel=>exact⟨k+1,A2,c2,g ++ [name],by omega,by go_num,by rw [HG.out]; exact Hs.out.symm,by simp,HA4,FM,by simpa using ho4⟩
         case measure=>simp [intOf]; omega
       · have Hs:=hid (Hst.out.2 hany)
         clear hany
         go_wp2
         go_roundw
         case rel=>exact⟨k+1,G,cG,g,by omega,by go_num,by rw [HG.out]; exact Hs.out.symm,rfl,HA3.out,Aa.out,HO3.out⟩
         case measure=>simp [intOf]; omega
     · have hgo:g=bX aC.name a b:=by rw [HG.out,filter_all _ (by rw [La.out]; omega)]; rfl
       subst hgo
       clear HG
       go_wp2
       go_ret2
       exact⟨A1,c1,G,cG,rfl,Ho1.out,Ho.out,HAt.out.below⟩
theorem BG (kg:ByteArray) (u7:Int) (vg:ByteArray) (uY:ByteArray) (Kf:Int) (Kg:ByteArray) (kb xb:Nat) (w:World) (hk:w.cell? ⟨kb,0,none⟩=some (.func (.func 147) #[] #[])) (hx:Blk w xb 34 #[.string uY,.int .i64 Kf,.string Kg]) :
 Calls Tryz.prog 205 #[.agg #[.string kg,.int .i64 u7,.string vg],.pointer (some ⟨kb,0,none⟩),.pointer (some ⟨xb,0,none⟩)] w fun e w'=>e = .returned (.bool (decide (kg=uY)))∧Below w.heap.size w w':=by
 rw [← qT]
 have hb0:=(Below.refl w.heap.size w).alloc (Nat.le_refl _) (.cells #[.string kg,.int .i64 u7,.string vg] 34)
 have hkl:=block_lt_of_cell hk
 have hxl:=hx.lt
 have hxa:=hx.alloc (.cells #[.string kg,.int .i64 u7,.string vg] 34)
 generalize hw1:w.alloc (.cells #[.string kg,.int .i64 u7,.string vg] 34)=w1 at hb0 hxa
 have b0:=fun d os=>cell_regrown (show w1.cell? ⟨w.heap.size,0,none⟩=some (.string kg) by rw [← hw1]; simp [go_sem]) d os
 have x0:=fun d os=>cell_regrown (show w1.cell? ⟨xb,0,none⟩=some (.string uY) from hxa.cell 0) d os
 have b1:=fun d os=>cell_regrown (show w1.cell? ⟨w.heap.size,1,none⟩=some (.int .i64 u7) by rw [← hw1]; simp [go_sem]) d os
 have x1:=fun d os=>cell_regrown (show w1.cell? ⟨xb,1,none⟩=some (.int .i64 Kf) from hxa.cell 1) d os
 have b2:=fun d os=>cell_regrown (show w1.cell? ⟨w.heap.size,2,none⟩=some (.string vg) by rw [← hw1]; simp [go_sem]) d os
 have x2:=fun d os=>cell_regrown (show w1.cell? ⟨xb,2,none⟩=some (.string Kg) from hxa.cell 2) d os
 have k0:=fun d os=>cell_regrown ((hb0.cell (p:=⟨kb,0,none⟩) hkl).trans hk) d os
 have Hb0:=hid hb0
 have HW:=hid hw1
 clear hb0 hw1 hk hx hkl hxl hxa
 go_enter Tryz.func205,Tryz.ntmps205
 go_wp2_with fail
 rw [HW.out]
 refine wp_region_quiet_below (by kernel_rfl) (by kernel_rfl) ?_
 repeat (go_big_quiet_step ((go_at_call 147; exact Calls.regrown_of (fW _ _ _ _))))
 refine wpQuiet_nil ?_
 intro _ hw'
 obtain⟨⟨nq,osq⟩,hw''⟩:=hw'
 subst hw''
 have hb2:=hid (Hb0.out.trans ((below_regrown w1 nq osq).mono Hb0.out.size))
 clear b0 x0 b1 x1 b2 x2 k0
 dsimp only
 generalize Sort.grow (redrawn w1 nq) osq=w2 at hb2 ⊢
 go_wp2
 go_ret
 exact⟨rfl,hb2.out⟩
theorem zQ (a b:List aA) (A B:Option Addr) (n cA m cB:Nat) (w:World) (ha:aU w w.heap.size 3 A n (au aB a)) (la:a.length=n) (hn:n≤1000) (hb:aU w w.heap.size 3 B m (au aB b)) (lb:b.length=m) (hm:m≤1000) :
 Calls Tryz.prog 169 #[.slice A n cA,.slice B m cB,.func (.func 147) #[] #[]] w (BE aA.name a b 34 3 aB w):=by
 have HA:=hid ha
 have HB:=hid hb
 have La:=hid la
 have Lb:=hid lb
 have H0:=hid (show ∀ t,p8 w 147 (w.alloc (.cells #[.func (.func 147) #[] #[]] t)) from fun t=>⟨(Below.refl _ _).alloc (Nat.le_refl _) _,by simp [go_sem],by simp⟩)
 clear ha hb la lb
 go_enter Tryz.func169,Tryz.ntmps169
 go_wp2
 go_loopw [14,6] (fun i s wr=>∃ (k:Nat) (A1:Option Addr) (c1:Nat) (l1:List aA),k≤m∧i = .int .i64 k∧l1=((b.take k).filter fun x=>!a.any (eqB x))∧s = .slice A1 l1.length c1∧p8 w 147 wr∧wr.ownsRow (w.heap.size+1) 34 3 (.slice A1 l1.length c1) l1.length (au aB l1)) (fun i _ _=>m - (intOf i).toNat)
 case atStart=>exact⟨0,none,0,[],Nat.zero_le _,rfl,by simp,rfl,H0.out _,World.ownsRow_nil _ _ _ _⟩
 case round=>
  clear H0
  obtain⟨k,A1,c1,l1,hk,rfl,hl1,rfl,hat,ho⟩:=hrel
  have HAt:=hid hat
  have Ho:=hid ho
  have HL1:=hid hl1
  have hll:l1.length≤k:=by rw [hl1]; exact jI _ _ _
  have hsz:=hat.size
  clear hl1 ho
  by_cases hlt:k<m
  · obtain⟨x,hf⟩:∃ x,b[k]? = some x:=⟨_,List.getElem?_eq_getElem (by rw [Lb.out]; exact hlt)⟩
    obtain⟨bb,off,rfl,hbB,hc⟩:=(HB.out.below hat.below).dB aJ Lb.out hf
    have Hf:=hid hf
    obtain⟨name,room,zone⟩:=x
    obtain⟨c0,c1,c2⟩:=rc3 hc
    have hlb:bb<wr.heap.size:=by omega
    have hX:Below wr.heap.size wr (wr.alloc (.cells #[.string name,.int .i64 room,.string zone] 34)):=(Below.refl _ _).alloc (Nat.le_refl _) _
    have HX:=hid (show Blk (wr.alloc (.cells #[.string name,.int .i64 room,.string zone] 34)) wr.heap.size 34 #[.string name,.int .i64 room,.string zone] from heap_alloc_new wr _)
    have hAX:=hat.kept hX
    have HAX:=hid hAX
    have HOX:=hid (ay Ho.out hX)
    have HC:=hid (FN ⟨name,room,zone⟩ a A n cA (wr.alloc (.cells #[.string name,.int .i64 room,.string zone] 34)) ((HA.out.below hAX.below).more hAX.below.size) La.out (by omega))
    rw [show (Value.agg (aB ⟨name,room,zone⟩).toArray) = .agg #[.string name,.int .i64 room,.string zone] from rfl] at HC
    clear hc hf hX hAX hat
    go_wp2_with fail
    refine Calls.mono HC.out ?_
    rintro e w3 ⟨rfl,hb3⟩
    have HA3:=hid (HAX.out.kept hb3)
    have HO3:=hid (ay HOX.out hb3)
    have hX3:=HX.out.below hb3 HX.out.lt
    have hxl:=hX3.lt
    have j0:w3.cell? ⟨wr.heap.size,0,none⟩=some (.string name):=hX3.cell 0
    have j1:w3.cell? ⟨wr.heap.size,1,none⟩=some (.int .i64 room):=hX3.cell 1
    have j2:w3.cell? ⟨wr.heap.size,2,none⟩=some (.string zone):=hX3.cell 2
    clear hb3 HC HX HAX HOX hX3 c0 c1 c2
    cases hany:a.any (eqB ⟨name,room,zone⟩)
    · have Hst:=hid (nu (p:=fun x=>!a.any (eqB x)) Hf.out (by simp only [hany]; rfl))
      have hbr:w.heap.size+1≤w3.heap.size:=by omega
      clear hany
      go_wp2_with (at_builtin; refine ko aB rfl _ _ 23 34 (.agg #[.string ⟨#[]⟩,.int .i64 0,.string ⟨#[]⟩]) 3 40 rfl Tryz.underlying23 xK rfl (by decide) aJ uQ (w.heap.size+1) _ _ _ l1 rfl HO3.out _ ⟨name,room,zone⟩ rfl _ (by simp) rfl (by omega) (by unfold maxLen; omega) hbr ?_; intro A2 c2 w4 ho4 hg4)
      have HA4:=HA3.out.grew hg4 (fun k hk=>(HO3.out.lt k hk).1)
      go_roundw
      case rel=>exact⟨k+1,A2,c2,l1 ++ [⟨name,room,zone⟩],by omega,by go_num,by rw [Hst.out,← HL1.out],by simp,HA4,by simpa using ho4⟩
      case measure=>simp [intOf]; omega
    · have Hst:=hid (o7 (p:=fun x=>!a.any (eqB x)) Hf.out (by simp only [hany]; rfl))
      clear hany
      go_wp2
      go_roundw
      case rel=>exact⟨k+1,A1,c1,l1,by omega,by go_num,by rw [Hst.out,← HL1.out],rfl,HA3.out,HO3.out⟩
      case measure=>simp [intOf]; omega
  · have hnew:l1=newL a b:=by rw [HL1.out,filter_all _ (by rw [Lb.out]; omega)]; rfl
    subst hnew
    clear HL1
    have HO1:=Ho
    go_wp2
    go_loopw [29,7] (fun i s wr=>∃ (k:Nat) (G:Option Addr) (cG:Nat) (g:List ByteArray),k≤n∧i = .int .i64 k∧g=(((a.take k).filter fun x=>!b.any fun y=>decide (y.name=x.name)).map aA.name)∧s = .slice G g.length cG∧p8 w 147 wr∧wr.ownsRow (w.heap.size+1) 34 3 (.slice A1 (newL a b).length c1) (newL a b).length (au aB (newL a b))∧wr.ownsRow (w.heap.size+1) 9 1 (.slice G g.length cG) g.length (au mD g)) (fun i _ _=>n - (intOf i).toNat)
    case atStart=>exact⟨0,none,0,[],Nat.zero_le _,rfl,by simp,rfl,HAt.out,HO1.out,World.ownsRow_nil _ _ _ _⟩
    case round=>
     clear HAt HO1 hat hsz Ho hk hlt hll
     obtain⟨k,G,cG,g,hk,rfl,hg,rfl,hat,ho1,ho⟩:=hrel
     have HAt:=hid hat
     have Ho:=hid ho
     have Ho1:=hid ho1
     have HG:=hid hg
     have hgl:g.length≤k:=by rw [hg,List.length_map]; exact jI _ _ _
     have hsz:=hat.size
     clear hg ho ho1
     by_cases hlt:k<n
     · obtain⟨x,hf⟩:∃ x,a[k]? = some x:=⟨_,List.getElem?_eq_getElem (by rw [La.out]; exact hlt)⟩
       obtain⟨bb,off,rfl,hbB,hc⟩:=(HA.out.below hat.below).dB aJ La.out hf
       have Hst:=hid (p9 (key:=aA.name) (b:=b) hf)
       obtain⟨name,room,zone⟩:=x
       obtain⟨c0,c1,c2⟩:=rc3 hc
       have hlb:bb<wr.heap.size:=by omega
       have hX:Below wr.heap.size wr (wr.alloc (.cells #[.string name,.int .i64 room,.string zone] 34)):=(Below.refl _ _).alloc (Nat.le_refl _) _
       have hXB:Blk (wr.alloc (.cells #[.string name,.int .i64 room,.string zone] 34)) wr.heap.size 34 #[.string name,.int .i64 room,.string zone]:=heap_alloc_new wr _
       have HX:=hid hXB
       have hAX:=hat.kept hX
       have HAX:=hid hAX
       have HOX:=hid (ay Ho.out hX)
       have zZ:=hid (ay Ho1.out hX)
       have hP:kQ (fun y:aA=>decide (y.name=name)) 205 #[.pointer (some ⟨w.heap.size,0,none⟩),.pointer (some ⟨wr.heap.size,0,none⟩)] aB b (wr.alloc (.cells #[.string name,.int .i64 room,.string zone] 34)):=by
        intro W hW y _
        obtain⟨kg,u7,vg⟩:=y
        exact BG kg u7 vg name room zone w.heap.size wr.heap.size W (hAX.kept (hW.mono (Nat.le_refl _))).key (hXB.below hW hXB.lt)
       have HC:=hid (DR (fun y:aA=>decide (y.name=name)) 205 #[.pointer (some ⟨w.heap.size,0,none⟩),.pointer (some ⟨wr.heap.size,0,none⟩)] b B m cB (wr.alloc (.cells #[.string name,.int .i64 room,.string zone] 34)) (Go.Proofs.enters_of Tryz.func205 (by kernel_rfl) rfl) ((HB.out.below hAX.below).more hAX.below.size) Lb.out (by omega) hP)
       have hmf:∀ (fn:Fn) (first cap:Array Value) (w:World),(Instr.makeFunc fn first cap).run Tryz.prog w = .ok (.func fn first cap) w:=fun _ _ _ _=>rfl
       clear hc hf hX hXB hAX hat hP
       go_wp2_with fail
       refine Calls.mono HC.out ?_
       rintro e w3 ⟨rfl,hb3⟩
       have HA3:=hid (HAX.out.kept hb3)
       have HO3:=hid (ay HOX.out hb3)
       have Aa:=hid (ay zZ.out hb3)
       have hX3:=HX.out.below hb3 HX.out.lt
       have hxl:=hX3.lt
       have hky:w3.cell? ⟨w.heap.size,0,none⟩=some (.func (.func 147) #[] #[]):=HA3.out.key
       have hwl:=HA3.out.size
       have j0:w3.cell? ⟨wr.heap.size,0,none⟩=some (.string name):=hX3.cell 0
       have j1:w3.cell? ⟨wr.heap.size,1,none⟩=some (.int .i64 room):=hX3.cell 1
       have j2:w3.cell? ⟨wr.heap.size,2,none⟩=some (.string zone):=hX3.cell 2
       clear hb3 HC HX HAX HOX zZ hX3 c0 c1 c2
       cases hany:b.any fun y=>decide (y.name=name)
       · have Hs:=hid (Hst.out.1 hany)
         clear hany
         go_wp2_with fail
         refine Calls.mono (fW name room zone _) ?_
         rintro e w5 ⟨rfl,hb5⟩
         have HA5:=hid (HA3.out.kept hb5)
         have HO5:=hid (ay HO3.out hb5)
         have FK:=hid (ay Aa.out hb5)
         have hbr:w.heap.size+1≤w5.heap.size:=by have:=hb5.size; omega
         clear hb5 hky j0 j1 j2
         go_wp2_with (at_builtin; refine ko mD rfl _ _ 28 9 (.string ⟨#[]⟩) 1 16 rfl Tryz.underlying28 uZ rfl (by decide) fQ sC (w.heap.size+1) _ _ _ g rfl HO5.out _ name rfl _ (by simp) rfl (by omega) (by unfold maxLen; omega) hbr ?_; intro A2 c2 w4 ho4 hg4)
         have HA4:=HA5.out.grew hg4 (fun k hk=>(HO5.out.lt k hk).1)
         have FM:=bJ FK.out hg4 HO5.out (by decide)
         go_roundw
         case rel=>exact⟨k+1,A2,c2,g ++ [name],by omega,by go_num,by rw [HG.out]; exact Hs.out.symm,by simp,HA4,FM,by simpa using ho4⟩
         case measure=>simp [intOf]; omega
       · have Hs:=hid (Hst.out.2 hany)
         clear hany
         go_wp2
         go_roundw
         case rel=>exact⟨k+1,G,cG,g,by omega,by go_num,by rw [HG.out]; exact Hs.out.symm,rfl,HA3.out,Aa.out,HO3.out⟩
         case measure=>simp [intOf]; omega
     · have hgo:g=bX aA.name a b:=by rw [HG.out,filter_all _ (by rw [La.out]; omega)]; rfl
       subst hgo
       clear HG
       go_wp2
       go_ret2
       exact⟨A1,c1,G,cG,rfl,Ho1.out,Ho.out,HAt.out.below⟩
theorem Ab (Ac:ByteArray) (vk:ByteArray) (vo:Int) (KB:ByteArray) (Kh:ByteArray) (Ki:Int) (kb xb:Nat) (w:World) (hk:w.cell? ⟨kb,0,none⟩=some (.func (.func 150) #[] #[])) (hx:Blk w xb 36 #[.string KB,.string Kh,.int .i64 Ki]) :
 Calls Tryz.prog 208 #[.agg #[.string Ac,.string vk,.int .i64 vo],.pointer (some ⟨kb,0,none⟩),.pointer (some ⟨xb,0,none⟩)] w fun e w'=>e = .returned (.bool (decide (Ac=KB)))∧Below w.heap.size w w':=by
 rw [← qT]
 have hb0:=(Below.refl w.heap.size w).alloc (Nat.le_refl _) (.cells #[.string Ac,.string vk,.int .i64 vo] 36)
 have hkl:=block_lt_of_cell hk
 have hxl:=hx.lt
 have hxa:=hx.alloc (.cells #[.string Ac,.string vk,.int .i64 vo] 36)
 generalize hw1:w.alloc (.cells #[.string Ac,.string vk,.int .i64 vo] 36)=w1 at hb0 hxa
 have b0:=fun d os=>cell_regrown (show w1.cell? ⟨w.heap.size,0,none⟩=some (.string Ac) by rw [← hw1]; simp [go_sem]) d os
 have x0:=fun d os=>cell_regrown (show w1.cell? ⟨xb,0,none⟩=some (.string KB) from hxa.cell 0) d os
 have b1:=fun d os=>cell_regrown (show w1.cell? ⟨w.heap.size,1,none⟩=some (.string vk) by rw [← hw1]; simp [go_sem]) d os
 have x1:=fun d os=>cell_regrown (show w1.cell? ⟨xb,1,none⟩=some (.string Kh) from hxa.cell 1) d os
 have b2:=fun d os=>cell_regrown (show w1.cell? ⟨w.heap.size,2,none⟩=some (.int .i64 vo) by rw [← hw1]; simp [go_sem]) d os
 have x2:=fun d os=>cell_regrown (show w1.cell? ⟨xb,2,none⟩=some (.int .i64 Ki) from hxa.cell 2) d os
 have k0:=fun d os=>cell_regrown ((hb0.cell (p:=⟨kb,0,none⟩) hkl).trans hk) d os
 have Hb0:=hid hb0
 have HW:=hid hw1
 clear hb0 hw1 hk hx hkl hxl hxa
 go_enter Tryz.func208,Tryz.ntmps208
 go_wp2_with fail
 rw [HW.out]
 refine wp_region_quiet_below (by kernel_rfl) (by kernel_rfl) ?_
 repeat (go_big_quiet_step ((go_at_call 150; exact Calls.regrown_of (eA _ _ _ _))))
 refine wpQuiet_nil ?_
 intro _ hw'
 obtain⟨⟨nq,osq⟩,hw''⟩:=hw'
 subst hw''
 have hb2:=hid (Hb0.out.trans ((below_regrown w1 nq osq).mono Hb0.out.size))
 clear b0 x0 b1 x1 b2 x2 k0
 dsimp only
 generalize Sort.grow (redrawn w1 nq) osq=w2 at hb2 ⊢
 go_wp2
 go_ret
 exact⟨rfl,hb2.out⟩
theorem yI (a b:List ak) (A B:Option Addr) (n cA m cB:Nat) (w:World) (ha:aU w w.heap.size 3 A n (au av a)) (la:a.length=n) (hn:n≤1000) (hb:aU w w.heap.size 3 B m (au av b)) (lb:b.length=m) (hm:m≤1000) :
 Calls Tryz.prog 170 #[.slice A n cA,.slice B m cB,.func (.func 150) #[] #[]] w (BE ak.job a b 36 3 av w):=by
 have HA:=hid ha
 have HB:=hid hb
 have La:=hid la
 have Lb:=hid lb
 have H0:=hid (show ∀ t,p8 w 150 (w.alloc (.cells #[.func (.func 150) #[] #[]] t)) from fun t=>⟨(Below.refl _ _).alloc (Nat.le_refl _) _,by simp [go_sem],by simp⟩)
 clear ha hb la lb
 go_enter Tryz.func170,Tryz.ntmps170
 go_wp2
 go_loopw [14,6] (fun i s wr=>∃ (k:Nat) (A1:Option Addr) (c1:Nat) (l1:List ak),k≤m∧i = .int .i64 k∧l1=((b.take k).filter fun x=>!a.any (eqB x))∧s = .slice A1 l1.length c1∧p8 w 150 wr∧wr.ownsRow (w.heap.size+1) 36 3 (.slice A1 l1.length c1) l1.length (au av l1)) (fun i _ _=>m - (intOf i).toNat)
 case atStart=>exact⟨0,none,0,[],Nat.zero_le _,rfl,by simp,rfl,H0.out _,World.ownsRow_nil _ _ _ _⟩
 case round=>
  clear H0
  obtain⟨k,A1,c1,l1,hk,rfl,hl1,rfl,hat,ho⟩:=hrel
  have HAt:=hid hat
  have Ho:=hid ho
  have HL1:=hid hl1
  have hll:l1.length≤k:=by rw [hl1]; exact jI _ _ _
  have hsz:=hat.size
  clear hl1 ho
  by_cases hlt:k<m
  · obtain⟨x,hf⟩:∃ x,b[k]? = some x:=⟨_,List.getElem?_eq_getElem (by rw [Lb.out]; exact hlt)⟩
    obtain⟨bb,off,rfl,hbB,hc⟩:=(HB.out.below hat.below).dB aG Lb.out hf
    have Hf:=hid hf
    obtain⟨job,node,till⟩:=x
    obtain⟨c0,c1,c2⟩:=rc3 hc
    have hlb:bb<wr.heap.size:=by omega
    have hX:Below wr.heap.size wr (wr.alloc (.cells #[.string job,.string node,.int .i64 till] 36)):=(Below.refl _ _).alloc (Nat.le_refl _) _
    have HX:=hid (show Blk (wr.alloc (.cells #[.string job,.string node,.int .i64 till] 36)) wr.heap.size 36 #[.string job,.string node,.int .i64 till] from heap_alloc_new wr _)
    have hAX:=hat.kept hX
    have HAX:=hid hAX
    have HOX:=hid (ay Ho.out hX)
    have HC:=hid (DS ⟨job,node,till⟩ a A n cA (wr.alloc (.cells #[.string job,.string node,.int .i64 till] 36)) ((HA.out.below hAX.below).more hAX.below.size) La.out (by omega))
    rw [show (Value.agg (av ⟨job,node,till⟩).toArray) = .agg #[.string job,.string node,.int .i64 till] from rfl] at HC
    clear hc hf hX hAX hat
    go_wp2_with fail
    refine Calls.mono HC.out ?_
    rintro e w3 ⟨rfl,hb3⟩
    have HA3:=hid (HAX.out.kept hb3)
    have HO3:=hid (ay HOX.out hb3)
    have hX3:=HX.out.below hb3 HX.out.lt
    have hxl:=hX3.lt
    have j0:w3.cell? ⟨wr.heap.size,0,none⟩=some (.string job):=hX3.cell 0
    have j1:w3.cell? ⟨wr.heap.size,1,none⟩=some (.string node):=hX3.cell 1
    have j2:w3.cell? ⟨wr.heap.size,2,none⟩=some (.int .i64 till):=hX3.cell 2
    clear hb3 HC HX HAX HOX hX3 c0 c1 c2
    cases hany:a.any (eqB ⟨job,node,till⟩)
    · have Hst:=hid (nu (p:=fun x=>!a.any (eqB x)) Hf.out (by simp only [hany]; rfl))
      have hbr:w.heap.size+1≤w3.heap.size:=by omega
      clear hany
      go_wp2_with (at_builtin; refine ko av rfl _ _ 24 36 (.agg #[.string ⟨#[]⟩,.string ⟨#[]⟩,.int .i64 0]) 3 40 rfl Tryz.underlying24 uR rfl (by decide) aG tF (w.heap.size+1) _ _ _ l1 rfl HO3.out _ ⟨job,node,till⟩ rfl _ (by simp) rfl (by omega) (by unfold maxLen; omega) hbr ?_; intro A2 c2 w4 ho4 hg4)
      have HA4:=HA3.out.grew hg4 (fun k hk=>(HO3.out.lt k hk).1)
      go_roundw
      case rel=>exact⟨k+1,A2,c2,l1 ++ [⟨job,node,till⟩],by omega,by go_num,by rw [Hst.out,← HL1.out],by simp,HA4,by simpa using ho4⟩
      case measure=>simp [intOf]; omega
    · have Hst:=hid (o7 (p:=fun x=>!a.any (eqB x)) Hf.out (by simp only [hany]; rfl))
      clear hany
      go_wp2
      go_roundw
      case rel=>exact⟨k+1,A1,c1,l1,by omega,by go_num,by rw [Hst.out,← HL1.out],rfl,HA3.out,HO3.out⟩
      case measure=>simp [intOf]; omega
  · have hnew:l1=newL a b:=by rw [HL1.out,filter_all _ (by rw [Lb.out]; omega)]; rfl
    subst hnew
    clear HL1
    have HO1:=Ho
    go_wp2
    go_loopw [29,7] (fun i s wr=>∃ (k:Nat) (G:Option Addr) (cG:Nat) (g:List ByteArray),k≤n∧i = .int .i64 k∧g=(((a.take k).filter fun x=>!b.any fun y=>decide (y.job=x.job)).map ak.job)∧s = .slice G g.length cG∧p8 w 150 wr∧wr.ownsRow (w.heap.size+1) 36 3 (.slice A1 (newL a b).length c1) (newL a b).length (au av (newL a b))∧wr.ownsRow (w.heap.size+1) 9 1 (.slice G g.length cG) g.length (au mD g)) (fun i _ _=>n - (intOf i).toNat)
    case atStart=>exact⟨0,none,0,[],Nat.zero_le _,rfl,by simp,rfl,HAt.out,HO1.out,World.ownsRow_nil _ _ _ _⟩
    case round=>
     clear HAt HO1 hat hsz Ho hk hlt hll
     obtain⟨k,G,cG,g,hk,rfl,hg,rfl,hat,ho1,ho⟩:=hrel
     have HAt:=hid hat
     have Ho:=hid ho
     have Ho1:=hid ho1
     have HG:=hid hg
     have hgl:g.length≤k:=by rw [hg,List.length_map]; exact jI _ _ _
     have hsz:=hat.size
     clear hg ho ho1
     by_cases hlt:k<n
     · obtain⟨x,hf⟩:∃ x,a[k]? = some x:=⟨_,List.getElem?_eq_getElem (by rw [La.out]; exact hlt)⟩
       obtain⟨bb,off,rfl,hbB,hc⟩:=(HA.out.below hat.below).dB aG La.out hf
       have Hst:=hid (p9 (key:=ak.job) (b:=b) hf)
       obtain⟨job,node,till⟩:=x
       obtain⟨c0,c1,c2⟩:=rc3 hc
       have hlb:bb<wr.heap.size:=by omega
       have hX:Below wr.heap.size wr (wr.alloc (.cells #[.string job,.string node,.int .i64 till] 36)):=(Below.refl _ _).alloc (Nat.le_refl _) _
       have hXB:Blk (wr.alloc (.cells #[.string job,.string node,.int .i64 till] 36)) wr.heap.size 36 #[.string job,.string node,.int .i64 till]:=heap_alloc_new wr _
       have HX:=hid hXB
       have hAX:=hat.kept hX
       have HAX:=hid hAX
       have HOX:=hid (ay Ho.out hX)
       have zZ:=hid (ay Ho1.out hX)
       have hP:kQ (fun y:ak=>decide (y.job=job)) 208 #[.pointer (some ⟨w.heap.size,0,none⟩),.pointer (some ⟨wr.heap.size,0,none⟩)] av b (wr.alloc (.cells #[.string job,.string node,.int .i64 till] 36)):=by
        intro W hW y _
        obtain⟨Ac,vk,vo⟩:=y
        exact Ab Ac vk vo job node till w.heap.size wr.heap.size W (hAX.kept (hW.mono (Nat.le_refl _))).key (hXB.below hW hXB.lt)
       have HC:=hid (BH (fun y:ak=>decide (y.job=job)) 208 #[.pointer (some ⟨w.heap.size,0,none⟩),.pointer (some ⟨wr.heap.size,0,none⟩)] b B m cB (wr.alloc (.cells #[.string job,.string node,.int .i64 till] 36)) (Go.Proofs.enters_of Tryz.func208 (by kernel_rfl) rfl) ((HB.out.below hAX.below).more hAX.below.size) Lb.out (by omega) hP)
       have hmf:∀ (fn:Fn) (first cap:Array Value) (w:World),(Instr.makeFunc fn first cap).run Tryz.prog w = .ok (.func fn first cap) w:=fun _ _ _ _=>rfl
       clear hc hf hX hXB hAX hat hP
       go_wp2_with fail
       refine Calls.mono HC.out ?_
       rintro e w3 ⟨rfl,hb3⟩
       have HA3:=hid (HAX.out.kept hb3)
       have HO3:=hid (ay HOX.out hb3)
       have Aa:=hid (ay zZ.out hb3)
       have hX3:=HX.out.below hb3 HX.out.lt
       have hxl:=hX3.lt
       have hky:w3.cell? ⟨w.heap.size,0,none⟩=some (.func (.func 150) #[] #[]):=HA3.out.key
       have hwl:=HA3.out.size
       have j0:w3.cell? ⟨wr.heap.size,0,none⟩=some (.string job):=hX3.cell 0
       have j1:w3.cell? ⟨wr.heap.size,1,none⟩=some (.string node):=hX3.cell 1
       have j2:w3.cell? ⟨wr.heap.size,2,none⟩=some (.int .i64 till):=hX3.cell 2
       clear hb3 HC HX HAX HOX zZ hX3 c0 c1 c2
       cases hany:b.any fun y=>decide (y.job=job)
       · have Hs:=hid (Hst.out.1 hany)
         clear hany
         go_wp2_with fail
         refine Calls.mono (eA job node till _) ?_
         rintro e w5 ⟨rfl,hb5⟩
         have HA5:=hid (HA3.out.kept hb5)
         have HO5:=hid (ay HO3.out hb5)
         have FK:=hid (ay Aa.out hb5)
         have hbr:w.heap.size+1≤w5.heap.size:=by have:=hb5.size; omega
         clear hb5 hky j0 j1 j2
         go_wp2_with (at_builtin; refine ko mD rfl _ _ 28 9 (.string ⟨#[]⟩) 1 16 rfl Tryz.underlying28 uZ rfl (by decide) fQ sC (w.heap.size+1) _ _ _ g rfl HO5.out _ job rfl _ (by simp) rfl (by omega) (by unfold maxLen; omega) hbr ?_; intro A2 c2 w4 ho4 hg4)
         have HA4:=HA5.out.grew hg4 (fun k hk=>(HO5.out.lt k hk).1)
         have FM:=bJ FK.out hg4 HO5.out (by decide)
         go_roundw
         case rel=>exact⟨k+1,A2,c2,g ++ [job],by omega,by go_num,by rw [HG.out]; exact Hs.out.symm,by simp,HA4,FM,by simpa using ho4⟩
         case measure=>simp [intOf]; omega
       · have Hs:=hid (Hst.out.2 hany)
         clear hany
         go_wp2
         go_roundw
         case rel=>exact⟨k+1,G,cG,g,by omega,by go_num,by rw [HG.out]; exact Hs.out.symm,rfl,HA3.out,Aa.out,HO3.out⟩
         case measure=>simp [intOf]; omega
     · have hgo:g=bX ak.job a b:=by rw [HG.out,filter_all _ (by rw [La.out]; omega)]; rfl
       subst hgo
       clear HG
       go_wp2
       go_ret2
       exact⟨A1,c1,G,cG,rfl,Ho1.out,Ho.out,HAt.out.below⟩
end Go.Proofs.YtbllgmociapjeaaGreatDoor
