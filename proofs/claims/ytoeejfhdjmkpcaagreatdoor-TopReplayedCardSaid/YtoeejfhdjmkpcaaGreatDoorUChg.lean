/- Of the proof of a statement: Chg. -/
import Derived.Shelf.SlSortCmp.NoneTotal
import Derived.Test.YtoeejfhdjmkpcaaGreatDoorUVals
set_option linter.unusedVariables false
set_option linter.unusedSimpArgs false
set_option maxRecDepth 100000
set_option maxHeartbeats 8000000
/- slices.SortedFunc over maps.Values of a table of the call's own, by a key: jobs, nodes, leases. -/
namespace Go.Proofs.YtoeejfhdjmkpcaaGreatDoor
open Go.Lib (hid)
open Go.RowKit Go.Sort
instance:Inhabited aA:=⟨⟨⟨#[]⟩,0,0,0,⟨#[]⟩⟩⟩
instance:Inhabited av:=⟨⟨⟨#[]⟩,0,⟨#[]⟩⟩⟩
instance:Inhabited ah:=⟨⟨⟨#[]⟩,⟨#[]⟩,0⟩⟩
theorem mV (a b:ByteArray) (w:World):Calls Tryz.prog 174 #[.string a,.string b] w fun e w'=>e = .returned (.int .i64 (kD a b))∧∃ q os',w'=grow (w.drewN q) os':=
 (mK a b w).mono fun _ _ ⟨he,hw⟩=>⟨he,0,#[],by rw [grow_empty]; exact hw.symm⟩
def qg {α:Type} (T:TypeId) (sz:Nat) (enc:α→List Value) (l:List α) (w:World) (e:Ending) (w':World):Prop:=
 ∃ A c,e = .returned (.slice A l.length c)∧w'.ownsRow w.heap.size T sz (.slice A l.length c) l.length (au enc l)∧Below w.heap.size w w'
theorem Ac (name:ByteArray) (prio:Int) (need:Int) (tries:Int) (tag:ByteArray) (w:World):Calls Tryz.prog 83 #[.agg #[.string name,.int .i64 prio,.int .i64 need,.int .i64 tries,.string tag]] w fun e w'=>e = .returned (.string name)∧∃ q os',w'=grow (w.drewN q) os':=by
 go_enter Tryz.func83,Tryz.ntmps83
 go_wp2
 go_ret
 exact⟨rfl,0,_,by rw [alloc_eq_grow]; rfl⟩
theorem CL (fD:ByteArray) (oD:Int) (oE:Int) (kP:Int) (wA:ByteArray) (dR:ByteArray) (kV:Int) (kW:Int) (iU:Int) (qJ:ByteArray) (kb:Nat) (w:World) (hk:w.cell? ⟨kb,0,none⟩=some (.func (.func 83) #[] #[])) :
 Calls Tryz.prog 173 #[.agg #[.string fD,.int .i64 oD,.int .i64 oE,.int .i64 kP,.string wA],.agg #[.string dR,.int .i64 kV,.int .i64 kW,.int .i64 iU,.string qJ],.pointer (some ⟨kb,0,none⟩)] w fun e w'=>e = .returned (.int .i64 (kD fD dR))∧∃ q os',w'=grow (w.drewN q) os':=by
 have hkl:kb<w.heap.size:=block_lt_of_cell hk
 obtain⟨w1,hw1⟩:∃ w1,(w.alloc (.cells #[.string fD,.int .i64 oD,.int .i64 oE,.int .i64 kP,.string wA] 34)).alloc (.cells #[.string dR,.int .i64 kV,.int .i64 kW,.int .i64 iU,.string qJ] 34)=w1:=⟨_,rfl⟩
 have hb1:Below w.heap.size w w1:=by rw [← hw1]; exact ((Below.refl _ _).alloc (Nat.le_refl _) _).alloc (by simp) _
 have hs1:w1.heap.size=w.heap.size+2:=by rw [← hw1]; simp
 have hX:Blk w1 w.heap.size 34 #[.string fD,.int .i64 oD,.int .i64 oE,.int .i64 kP,.string wA]:=by rw [← hw1]; exact Blk.alloc (show Blk _ _ _ _ from heap_alloc_new w _) _
 have hY:Blk w1 (w.heap.size+1) 34 #[.string dR,.int .i64 kV,.int .i64 kW,.int .i64 iU,.string qJ]:=by
  rw [← hw1]
  have h:=heap_alloc_new (w.alloc (.cells #[.string fD,.int .i64 oD,.int .i64 oE,.int .i64 kP,.string wA] 34)) (.cells #[.string dR,.int .i64 kV,.int .i64 kW,.int .i64 iU,.string qJ] 34)
  rwa [show (w.alloc (.cells #[.string fD,.int .i64 oD,.int .i64 oE,.int .i64 kP,.string wA] 34)).heap.size=w.heap.size+1 by simp] at h
 have hg1:w1=grow w #[.cells #[.string fD,.int .i64 oD,.int .i64 oE,.int .i64 kP,.string wA] 34,.cells #[.string dR,.int .i64 kV,.int .i64 kW,.int .i64 iU,.string qJ] 34]:=by rw [← hw1,alloc_eq_grow,alloc_eq_grow,grow_grow]; rfl
 have b0:=fun d os=>cell_grown (w:=w1) (a:=⟨w.heap.size,0,none⟩) (v:=.string fD) (by rw [hs1]; simp) (hX.cell 0) d os
 have c0:=fun d os=>cell_grown (w:=w1) (a:=⟨w.heap.size+1,0,none⟩) (v:=.string dR) (by rw [hs1]; simp) (hY.cell 0) d os
 have b1:=fun d os=>cell_grown (w:=w1) (a:=⟨w.heap.size,1,none⟩) (v:=.int .i64 oD) (by rw [hs1]; simp) (hX.cell 1) d os
 have c1:=fun d os=>cell_grown (w:=w1) (a:=⟨w.heap.size+1,1,none⟩) (v:=.int .i64 kV) (by rw [hs1]; simp) (hY.cell 1) d os
 have b2:=fun d os=>cell_grown (w:=w1) (a:=⟨w.heap.size,2,none⟩) (v:=.int .i64 oE) (by rw [hs1]; simp) (hX.cell 2) d os
 have c2:=fun d os=>cell_grown (w:=w1) (a:=⟨w.heap.size+1,2,none⟩) (v:=.int .i64 kW) (by rw [hs1]; simp) (hY.cell 2) d os
 have b3:=fun d os=>cell_grown (w:=w1) (a:=⟨w.heap.size,3,none⟩) (v:=.int .i64 kP) (by rw [hs1]; simp) (hX.cell 3) d os
 have c3:=fun d os=>cell_grown (w:=w1) (a:=⟨w.heap.size+1,3,none⟩) (v:=.int .i64 iU) (by rw [hs1]; simp) (hY.cell 3) d os
 have b4:=fun d os=>cell_grown (w:=w1) (a:=⟨w.heap.size,4,none⟩) (v:=.string wA) (by rw [hs1]; simp) (hX.cell 4) d os
 have c4:=fun d os=>cell_grown (w:=w1) (a:=⟨w.heap.size+1,4,none⟩) (v:=.string qJ) (by rw [hs1]; simp) (hY.cell 4) d os
 have k0:=fun d os=>cell_grown (w:=w1) (a:=⟨kb,0,none⟩) (v:=.func (.func 83) #[] #[]) (by show kb<w1.heap.size; rw [hs1]; omega) ((hb1.cell (p:=⟨kb,0,none⟩) hkl).trans hk) d os
 have HW:=hid hw1
 have HG:=hid hg1
 clear hw1 hg1 hb1 hX hY hk hkl hs1
 go_enter Tryz.func173,Tryz.ntmps173
 go_wp2_with fail
 rw [HW.out]
 refine wp_region_quiet_grown (by kernel_rfl) (by kernel_rfl) ?_
 repeat (quiet_step (first | (go_at_call 83; exact Calls.grown_of (Ac _ _ _ _ _ _)) | (go_at_call 174; exact Calls.grown_of (mV _ _ _))))
 refine wpQuiet_nil ?_
 intro _ hw'
 obtain⟨⟨nq,osq⟩,hw''⟩:=hw'
 subst hw''
 have HE:=hid (show ∃ q os',grow (w1.drewN nq) osq=grow (w.drewN q) os' from ⟨nq,_,by rw [HG.out]; show grow (grow (w.drewN nq) _) osq=_; rw [grow_grow]⟩)
 clear b0 c0 b1 c1 b2 c2 b3 c3 b4 c4 k0
 dsimp only
 generalize grow (w1.drewN nq) osq=w2 at HE ⊢
 go_wp2
 go_ret
 exact⟨rfl,HE.out⟩
theorem JK (Bm b nn kb:Nat) (hnn:nn≤1000) (rows set:List aA) (gone:List ByteArray) (w:World) (hm:w.cell? ⟨Bm,0,none⟩=some (.map (some b))) (hM:bX w b nn (fun s=>(eA aA.name rows gone set s).map (fun x:aA=>Value.agg (aJ x).toArray)))
 (hkb:w.cell? ⟨kb,0,none⟩=some (.func (.func 83) #[] #[])) (hr:aK aA.name rows) (hs:aK aA.name set) :
 Calls Tryz.prog 171 #[.func (.func 266) #[] #[.pointer (some ⟨Bm,0,none⟩)],.func (.func 173) #[] #[.pointer (some ⟨kb,0,none⟩)]] w (qg 34 5 aJ (bV aA.name rows set gone) w):=by
 have HC:=hid (Ba Bm b nn hnn _ (fun s x h=>xu h) w hm hM)
 have hkl:kb<w.heap.size:=block_lt_of_cell hkb
 have HKb:=hid hkb
 have HR:=hid (And.intro hr hs)
 clear hm hM hkb hr hs
 go_enter Tryz.func171,Tryz.ntmps171
 go_wp2_with fail
 refine Calls.mono HC.out ?_
 rintro e W ⟨A,c,xs,rfl,vG,hlen,hrow,hb⟩
 have Hb:=hid hb
 have dW:=hid hrow
 have mN:=hid vG
 clear HC vG hb
 rcases hrow.2 with ⟨hv,hz⟩ | ⟨g,cap,cur,hv,hbase,hgb,r1,r2,r3,r4⟩
 · have hxs:xs=[]:=List.eq_nil_of_length_eq_zero hz
   subst hxs
   have hL:bV aA.name rows set gone=[]:=by
    have h:=iL (d':=(#[]:Array aA)) HR.out.1 HR.out.2 mN.out.1 mN.out.2 ⟨rfl,fun _ _=>rfl,by simp⟩ (fun i j _ _ h=>absurd h (by simp))
    rw [← h]
   have HL:=hid hL
   clear hL
   injection hv with hA _ hc
   subst hA
   subst hc
   clear hrow
   go_wp2_with fail
   refine Calls.mono (show Calls Tryz.prog 265 #[.slice none 0 0,.func (.func 173) #[] #[.pointer (some ⟨kb,0,none⟩)]] W _ from AnyF.slices_SortFunc_none { xw with } none 0 _ W) ?_
   rintro e w' ⟨rfl,rfl⟩
   go_wp2
   go_ret
   unfold qg
   rw [HL.out]
   exact⟨none,0,rfl,dW.out,Hb.out⟩
 · injection hv with hA _ hc
   subst hA
   subst hc
   have hgl:g<W.heap.size:=(Array.getElem?_eq_some_iff.1 hgb).1
   have Bb:W.cell? ⟨kb,0,none⟩=some (.func (.func 83) #[] #[]):=(Hb.out.cell (p:=⟨kb,0,none⟩) hkl).trans HKb.out
   have hne:kb≠g:=by omega
   have HS:=AnyQ.slices_SortFunc xw 5 Tryz.isAgg34 Tryz.sizeOf34 aJ aP ny (cfK aA.name) (LE aA.name) 173 #[.pointer (some ⟨kb,0,none⟩)] g 0 c xs.toArray W (Go.Proofs.enters_of Tryz.func173 (by kernel_rfl) rfl)
    (fun m os dk _ x y=>by
     obtain⟨fD,oD,oE,kP,wA⟩:=x
     obtain⟨dR,kV,kW,iU,qJ⟩:=y
     exact CL fD oD oE kP wA dR kV kW iU qJ kb _ (gI (fC dk) hne Bb))
    (ru aP (by decide) hgb r4) hgl (by simp; omega)
   change Calls Tryz.prog 265 _ _ _ at HS
   have HS:=hid HS
   have HX:=hid (fun (d':Array aA) (hd:d'.size=xs.length) (k:Nat) (os:Array Obj)=>oT (n:=k) (os:=os) (d:=d') aP (by decide) hd hbase hgb r1 r2 r3)
   have HB:=hid (fun (d':Array aA) (k:Nat) (os:Array Obj)=>below_grown Hb.out (fC (enc:=aJ) (k:=5) (n:=k) (os:=os) d') hbase)
   clear hrow hgb r1 r2 r3 r4 Bb hne
   simp only [List.size_toArray] at HS
   go_wp2_with fail
   refine Calls.mono HS.out ?_
   rintro e w' ⟨rfl,d',k,os,hp,ho,rfl⟩
   have hd:=iL HR.out.1 HR.out.2 mN.out.1 mN.out.2 hp ho
   have hsz:d'.size=xs.length:=by simpa using hp.1
   have h1:=HX.out d' hsz k os
   have hll:(bV aA.name rows set gone).length=xs.length:=by rw [← hd]; simpa using hsz
   rw [hd] at h1
   have H1:=hid h1
   have H2:=hid (HB.out d' k os)
   have HL:=hid hll
   clear hp ho hd h1 hll HX HB HS hsz
   generalize sortWorldK aJ 5 W g 0 k d' os=w2 at H1 H2 ⊢
   go_wp2
   go_ret
   exact⟨some ⟨g,0,none⟩,c,by rw [HL.out]; rfl,by rw [HL.out]; exact H1.out,H2.out⟩
theorem yP (name:ByteArray) (room:Int) (zone:ByteArray) (w:World):Calls Tryz.prog 85 #[.agg #[.string name,.int .i64 room,.string zone]] w fun e w'=>e = .returned (.string name)∧∃ q os',w'=grow (w.drewN q) os':=by
 go_enter Tryz.func85,Tryz.ntmps85
 go_wp2
 go_ret
 exact⟨rfl,0,_,by rw [alloc_eq_grow]; rfl⟩
theorem Bc (fD:ByteArray) (oF:Int) (oG:ByteArray) (dR:ByteArray) (kX:Int) (kY:ByteArray) (kb:Nat) (w:World) (hk:w.cell? ⟨kb,0,none⟩=some (.func (.func 85) #[] #[])) :
 Calls Tryz.prog 177 #[.agg #[.string fD,.int .i64 oF,.string oG],.agg #[.string dR,.int .i64 kX,.string kY],.pointer (some ⟨kb,0,none⟩)] w fun e w'=>e = .returned (.int .i64 (kD fD dR))∧∃ q os',w'=grow (w.drewN q) os':=by
 have hkl:kb<w.heap.size:=block_lt_of_cell hk
 obtain⟨w1,hw1⟩:∃ w1,(w.alloc (.cells #[.string fD,.int .i64 oF,.string oG] 36)).alloc (.cells #[.string dR,.int .i64 kX,.string kY] 36)=w1:=⟨_,rfl⟩
 have hb1:Below w.heap.size w w1:=by rw [← hw1]; exact ((Below.refl _ _).alloc (Nat.le_refl _) _).alloc (by simp) _
 have hs1:w1.heap.size=w.heap.size+2:=by rw [← hw1]; simp
 have hX:Blk w1 w.heap.size 36 #[.string fD,.int .i64 oF,.string oG]:=by rw [← hw1]; exact Blk.alloc (show Blk _ _ _ _ from heap_alloc_new w _) _
 have hY:Blk w1 (w.heap.size+1) 36 #[.string dR,.int .i64 kX,.string kY]:=by
  rw [← hw1]
  have h:=heap_alloc_new (w.alloc (.cells #[.string fD,.int .i64 oF,.string oG] 36)) (.cells #[.string dR,.int .i64 kX,.string kY] 36)
  rwa [show (w.alloc (.cells #[.string fD,.int .i64 oF,.string oG] 36)).heap.size=w.heap.size+1 by simp] at h
 have hg1:w1=grow w #[.cells #[.string fD,.int .i64 oF,.string oG] 36,.cells #[.string dR,.int .i64 kX,.string kY] 36]:=by rw [← hw1,alloc_eq_grow,alloc_eq_grow,grow_grow]; rfl
 have b0:=fun d os=>cell_grown (w:=w1) (a:=⟨w.heap.size,0,none⟩) (v:=.string fD) (by rw [hs1]; simp) (hX.cell 0) d os
 have c0:=fun d os=>cell_grown (w:=w1) (a:=⟨w.heap.size+1,0,none⟩) (v:=.string dR) (by rw [hs1]; simp) (hY.cell 0) d os
 have b1:=fun d os=>cell_grown (w:=w1) (a:=⟨w.heap.size,1,none⟩) (v:=.int .i64 oF) (by rw [hs1]; simp) (hX.cell 1) d os
 have c1:=fun d os=>cell_grown (w:=w1) (a:=⟨w.heap.size+1,1,none⟩) (v:=.int .i64 kX) (by rw [hs1]; simp) (hY.cell 1) d os
 have b2:=fun d os=>cell_grown (w:=w1) (a:=⟨w.heap.size,2,none⟩) (v:=.string oG) (by rw [hs1]; simp) (hX.cell 2) d os
 have c2:=fun d os=>cell_grown (w:=w1) (a:=⟨w.heap.size+1,2,none⟩) (v:=.string kY) (by rw [hs1]; simp) (hY.cell 2) d os
 have k0:=fun d os=>cell_grown (w:=w1) (a:=⟨kb,0,none⟩) (v:=.func (.func 85) #[] #[]) (by show kb<w1.heap.size; rw [hs1]; omega) ((hb1.cell (p:=⟨kb,0,none⟩) hkl).trans hk) d os
 have HW:=hid hw1
 have HG:=hid hg1
 clear hw1 hg1 hb1 hX hY hk hkl hs1
 go_enter Tryz.func177,Tryz.ntmps177
 go_wp2_with fail
 rw [HW.out]
 refine wp_region_quiet_grown (by kernel_rfl) (by kernel_rfl) ?_
 repeat (quiet_step (first | (go_at_call 85; exact Calls.grown_of (yP _ _ _ _)) | (go_at_call 174; exact Calls.grown_of (mV _ _ _))))
 refine wpQuiet_nil ?_
 intro _ hw'
 obtain⟨⟨nq,osq⟩,hw''⟩:=hw'
 subst hw''
 have HE:=hid (show ∃ q os',grow (w1.drewN nq) osq=grow (w.drewN q) os' from ⟨nq,_,by rw [HG.out]; show grow (grow (w.drewN nq) _) osq=_; rw [grow_grow]⟩)
 clear b0 c0 b1 c1 b2 c2 k0
 dsimp only
 generalize grow (w1.drewN nq) osq=w2 at HE ⊢
 go_wp2
 go_ret
 exact⟨rfl,HE.out⟩
theorem GI (Bm b nn kb:Nat) (hnn:nn≤1000) (rows set:List av) (gone:List ByteArray) (w:World) (hm:w.cell? ⟨Bm,0,none⟩=some (.map (some b))) (hM:bX w b nn (fun s=>(eA av.name rows gone set s).map (fun x:av=>Value.agg (aB x).toArray)))
 (hkb:w.cell? ⟨kb,0,none⟩=some (.func (.func 85) #[] #[])) (hr:aK av.name rows) (hs:aK av.name set) :
 Calls Tryz.prog 175 #[.func (.func 270) #[] #[.pointer (some ⟨Bm,0,none⟩)],.func (.func 177) #[] #[.pointer (some ⟨kb,0,none⟩)]] w (qg 36 3 aB (bV av.name rows set gone) w):=by
 have HC:=hid (Ad Bm b nn hnn _ (fun s x h=>xu h) w hm hM)
 have hkl:kb<w.heap.size:=block_lt_of_cell hkb
 have HKb:=hid hkb
 have HR:=hid (And.intro hr hs)
 clear hm hM hkb hr hs
 go_enter Tryz.func175,Tryz.ntmps175
 go_wp2_with fail
 refine Calls.mono HC.out ?_
 rintro e W ⟨A,c,xs,rfl,vG,hlen,hrow,hb⟩
 have Hb:=hid hb
 have dW:=hid hrow
 have mN:=hid vG
 clear HC vG hb
 rcases hrow.2 with ⟨hv,hz⟩ | ⟨g,cap,cur,hv,hbase,hgb,r1,r2,r3,r4⟩
 · have hxs:xs=[]:=List.eq_nil_of_length_eq_zero hz
   subst hxs
   have hL:bV av.name rows set gone=[]:=by
    have h:=iL (d':=(#[]:Array av)) HR.out.1 HR.out.2 mN.out.1 mN.out.2 ⟨rfl,fun _ _=>rfl,by simp⟩ (fun i j _ _ h=>absurd h (by simp))
    rw [← h]
   have HL:=hid hL
   clear hL
   injection hv with hA _ hc
   subst hA
   subst hc
   clear hrow
   go_wp2_with fail
   refine Calls.mono (show Calls Tryz.prog 269 #[.slice none 0 0,.func (.func 177) #[] #[.pointer (some ⟨kb,0,none⟩)]] W _ from AnyF.slices_SortFunc_none { vH with } none 0 _ W) ?_
   rintro e w' ⟨rfl,rfl⟩
   go_wp2
   go_ret
   unfold qg
   rw [HL.out]
   exact⟨none,0,rfl,dW.out,Hb.out⟩
 · injection hv with hA _ hc
   subst hA
   subst hc
   have hgl:g<W.heap.size:=(Array.getElem?_eq_some_iff.1 hgb).1
   have Bb:W.cell? ⟨kb,0,none⟩=some (.func (.func 85) #[] #[]):=(Hb.out.cell (p:=⟨kb,0,none⟩) hkl).trans HKb.out
   have hne:kb≠g:=by omega
   have HS:=AnyQ.slices_SortFunc vH 3 Tryz.isAgg36 Tryz.sizeOf36 aB aL lW (cfK av.name) (LE av.name) 177 #[.pointer (some ⟨kb,0,none⟩)] g 0 c xs.toArray W (Go.Proofs.enters_of Tryz.func177 (by kernel_rfl) rfl)
    (fun m os dk _ x y=>by
     obtain⟨fD,oF,oG⟩:=x
     obtain⟨dR,kX,kY⟩:=y
     exact Bc fD oF oG dR kX kY kb _ (gI (fC dk) hne Bb))
    (ru aL (by decide) hgb r4) hgl (by simp; omega)
   change Calls Tryz.prog 269 _ _ _ at HS
   have HS:=hid HS
   have HX:=hid (fun (d':Array av) (hd:d'.size=xs.length) (k:Nat) (os:Array Obj)=>oT (n:=k) (os:=os) (d:=d') aL (by decide) hd hbase hgb r1 r2 r3)
   have HB:=hid (fun (d':Array av) (k:Nat) (os:Array Obj)=>below_grown Hb.out (fC (enc:=aB) (k:=3) (n:=k) (os:=os) d') hbase)
   clear hrow hgb r1 r2 r3 r4 Bb hne
   simp only [List.size_toArray] at HS
   go_wp2_with fail
   refine Calls.mono HS.out ?_
   rintro e w' ⟨rfl,d',k,os,hp,ho,rfl⟩
   have hd:=iL HR.out.1 HR.out.2 mN.out.1 mN.out.2 hp ho
   have hsz:d'.size=xs.length:=by simpa using hp.1
   have h1:=HX.out d' hsz k os
   have hll:(bV av.name rows set gone).length=xs.length:=by rw [← hd]; simpa using hsz
   rw [hd] at h1
   have H1:=hid h1
   have H2:=hid (HB.out d' k os)
   have HL:=hid hll
   clear hp ho hd h1 hll HX HB HS hsz
   generalize sortWorldK aB 3 W g 0 k d' os=w2 at H1 H2 ⊢
   go_wp2
   go_ret
   exact⟨some ⟨g,0,none⟩,c,by rw [HL.out]; rfl,by rw [HL.out]; exact H1.out,H2.out⟩
theorem xA (job:ByteArray) (node:ByteArray) (till:Int) (w:World):Calls Tryz.prog 87 #[.agg #[.string job,.string node,.int .i64 till]] w fun e w'=>e = .returned (.string job)∧∃ q os',w'=grow (w.drewN q) os':=by
 go_enter Tryz.func87,Tryz.ntmps87
 go_wp2
 go_ret
 exact⟨rfl,0,_,by rw [alloc_eq_grow]; rfl⟩
theorem Ae (sG:ByteArray) (oH:ByteArray) (oI:Int) (oM:ByteArray) (kZ:ByteArray) (lq:Int) (kb:Nat) (w:World) (hk:w.cell? ⟨kb,0,none⟩=some (.func (.func 87) #[] #[])) :
 Calls Tryz.prog 180 #[.agg #[.string sG,.string oH,.int .i64 oI],.agg #[.string oM,.string kZ,.int .i64 lq],.pointer (some ⟨kb,0,none⟩)] w fun e w'=>e = .returned (.int .i64 (kD sG oM))∧∃ q os',w'=grow (w.drewN q) os':=by
 have hkl:kb<w.heap.size:=block_lt_of_cell hk
 obtain⟨w1,hw1⟩:∃ w1,(w.alloc (.cells #[.string sG,.string oH,.int .i64 oI] 38)).alloc (.cells #[.string oM,.string kZ,.int .i64 lq] 38)=w1:=⟨_,rfl⟩
 have hb1:Below w.heap.size w w1:=by rw [← hw1]; exact ((Below.refl _ _).alloc (Nat.le_refl _) _).alloc (by simp) _
 have hs1:w1.heap.size=w.heap.size+2:=by rw [← hw1]; simp
 have hX:Blk w1 w.heap.size 38 #[.string sG,.string oH,.int .i64 oI]:=by rw [← hw1]; exact Blk.alloc (show Blk _ _ _ _ from heap_alloc_new w _) _
 have hY:Blk w1 (w.heap.size+1) 38 #[.string oM,.string kZ,.int .i64 lq]:=by
  rw [← hw1]
  have h:=heap_alloc_new (w.alloc (.cells #[.string sG,.string oH,.int .i64 oI] 38)) (.cells #[.string oM,.string kZ,.int .i64 lq] 38)
  rwa [show (w.alloc (.cells #[.string sG,.string oH,.int .i64 oI] 38)).heap.size=w.heap.size+1 by simp] at h
 have hg1:w1=grow w #[.cells #[.string sG,.string oH,.int .i64 oI] 38,.cells #[.string oM,.string kZ,.int .i64 lq] 38]:=by rw [← hw1,alloc_eq_grow,alloc_eq_grow,grow_grow]; rfl
 have b0:=fun d os=>cell_grown (w:=w1) (a:=⟨w.heap.size,0,none⟩) (v:=.string sG) (by rw [hs1]; simp) (hX.cell 0) d os
 have c0:=fun d os=>cell_grown (w:=w1) (a:=⟨w.heap.size+1,0,none⟩) (v:=.string oM) (by rw [hs1]; simp) (hY.cell 0) d os
 have b1:=fun d os=>cell_grown (w:=w1) (a:=⟨w.heap.size,1,none⟩) (v:=.string oH) (by rw [hs1]; simp) (hX.cell 1) d os
 have c1:=fun d os=>cell_grown (w:=w1) (a:=⟨w.heap.size+1,1,none⟩) (v:=.string kZ) (by rw [hs1]; simp) (hY.cell 1) d os
 have b2:=fun d os=>cell_grown (w:=w1) (a:=⟨w.heap.size,2,none⟩) (v:=.int .i64 oI) (by rw [hs1]; simp) (hX.cell 2) d os
 have c2:=fun d os=>cell_grown (w:=w1) (a:=⟨w.heap.size+1,2,none⟩) (v:=.int .i64 lq) (by rw [hs1]; simp) (hY.cell 2) d os
 have k0:=fun d os=>cell_grown (w:=w1) (a:=⟨kb,0,none⟩) (v:=.func (.func 87) #[] #[]) (by show kb<w1.heap.size; rw [hs1]; omega) ((hb1.cell (p:=⟨kb,0,none⟩) hkl).trans hk) d os
 have HW:=hid hw1
 have HG:=hid hg1
 clear hw1 hg1 hb1 hX hY hk hkl hs1
 go_enter Tryz.func180,Tryz.ntmps180
 go_wp2_with fail
 rw [HW.out]
 refine wp_region_quiet_grown (by kernel_rfl) (by kernel_rfl) ?_
 repeat (quiet_step (first | (go_at_call 87; exact Calls.grown_of (xA _ _ _ _)) | (go_at_call 174; exact Calls.grown_of (mV _ _ _))))
 refine wpQuiet_nil ?_
 intro _ hw'
 obtain⟨⟨nq,osq⟩,hw''⟩:=hw'
 subst hw''
 have HE:=hid (show ∃ q os',grow (w1.drewN nq) osq=grow (w.drewN q) os' from ⟨nq,_,by rw [HG.out]; show grow (grow (w.drewN nq) _) osq=_; rw [grow_grow]⟩)
 clear b0 c0 b1 c1 b2 c2 k0
 dsimp only
 generalize grow (w1.drewN nq) osq=w2 at HE ⊢
 go_wp2
 go_ret
 exact⟨rfl,HE.out⟩
theorem EO (Bm b nn kb:Nat) (hnn:nn≤1000) (rows set:List ah) (gone:List ByteArray) (w:World) (hm:w.cell? ⟨Bm,0,none⟩=some (.map (some b))) (hM:bX w b nn (fun s=>(eA ah.job rows gone set s).map (fun x:ah=>Value.agg (ay x).toArray)))
 (hkb:w.cell? ⟨kb,0,none⟩=some (.func (.func 87) #[] #[])) (hr:aK ah.job rows) (hs:aK ah.job set) :
 Calls Tryz.prog 178 #[.func (.func 273) #[] #[.pointer (some ⟨Bm,0,none⟩)],.func (.func 180) #[] #[.pointer (some ⟨kb,0,none⟩)]] w (qg 38 3 ay (bV ah.job rows set gone) w):=by
 have HC:=hid (yQ Bm b nn hnn _ (fun s x h=>xu h) w hm hM)
 have hkl:kb<w.heap.size:=block_lt_of_cell hkb
 have HKb:=hid hkb
 have HR:=hid (And.intro hr hs)
 clear hm hM hkb hr hs
 go_enter Tryz.func178,Tryz.ntmps178
 go_wp2_with fail
 refine Calls.mono HC.out ?_
 rintro e W ⟨A,c,xs,rfl,vG,hlen,hrow,hb⟩
 have Hb:=hid hb
 have dW:=hid hrow
 have mN:=hid vG
 clear HC vG hb
 rcases hrow.2 with ⟨hv,hz⟩ | ⟨g,cap,cur,hv,hbase,hgb,r1,r2,r3,r4⟩
 · have hxs:xs=[]:=List.eq_nil_of_length_eq_zero hz
   subst hxs
   have hL:bV ah.job rows set gone=[]:=by
    have h:=iL (d':=(#[]:Array ah)) HR.out.1 HR.out.2 mN.out.1 mN.out.2 ⟨rfl,fun _ _=>rfl,by simp⟩ (fun i j _ _ h=>absurd h (by simp))
    rw [← h]
   have HL:=hid hL
   clear hL
   injection hv with hA _ hc
   subst hA
   subst hc
   clear hrow
   go_wp2_with fail
   refine Calls.mono (show Calls Tryz.prog 272 #[.slice none 0 0,.func (.func 180) #[] #[.pointer (some ⟨kb,0,none⟩)]] W _ from AnyF.slices_SortFunc_none { sH with } none 0 _ W) ?_
   rintro e w' ⟨rfl,rfl⟩
   go_wp2
   go_ret
   unfold qg
   rw [HL.out]
   exact⟨none,0,rfl,dW.out,Hb.out⟩
 · injection hv with hA _ hc
   subst hA
   subst hc
   have hgl:g<W.heap.size:=(Array.getElem?_eq_some_iff.1 hgb).1
   have Bb:W.cell? ⟨kb,0,none⟩=some (.func (.func 87) #[] #[]):=(Hb.out.cell (p:=⟨kb,0,none⟩) hkl).trans HKb.out
   have hne:kb≠g:=by omega
   have HS:=AnyQ.slices_SortFunc sH 3 Tryz.isAgg38 Tryz.sizeOf38 ay aH kF (cfK ah.job) (LE ah.job) 180 #[.pointer (some ⟨kb,0,none⟩)] g 0 c xs.toArray W (Go.Proofs.enters_of Tryz.func180 (by kernel_rfl) rfl)
    (fun m os dk _ x y=>by
     obtain⟨sG,oH,oI⟩:=x
     obtain⟨oM,kZ,lq⟩:=y
     exact Ae sG oH oI oM kZ lq kb _ (gI (fC dk) hne Bb))
    (ru aH (by decide) hgb r4) hgl (by simp; omega)
   change Calls Tryz.prog 272 _ _ _ at HS
   have HS:=hid HS
   have HX:=hid (fun (d':Array ah) (hd:d'.size=xs.length) (k:Nat) (os:Array Obj)=>oT (n:=k) (os:=os) (d:=d') aH (by decide) hd hbase hgb r1 r2 r3)
   have HB:=hid (fun (d':Array ah) (k:Nat) (os:Array Obj)=>below_grown Hb.out (fC (enc:=ay) (k:=3) (n:=k) (os:=os) d') hbase)
   clear hrow hgb r1 r2 r3 r4 Bb hne
   simp only [List.size_toArray] at HS
   go_wp2_with fail
   refine Calls.mono HS.out ?_
   rintro e w' ⟨rfl,d',k,os,hp,ho,rfl⟩
   have hd:=iL HR.out.1 HR.out.2 mN.out.1 mN.out.2 hp ho
   have hsz:d'.size=xs.length:=by simpa using hp.1
   have h1:=HX.out d' hsz k os
   have hll:(bV ah.job rows set gone).length=xs.length:=by rw [← hd]; simpa using hsz
   rw [hd] at h1
   have H1:=hid h1
   have H2:=hid (HB.out d' k os)
   have HL:=hid hll
   clear hp ho hd h1 hll HX HB HS hsz
   generalize sortWorldK ay 3 W g 0 k d' os=w2 at H1 H2 ⊢
   go_wp2
   go_ret
   exact⟨some ⟨g,0,none⟩,c,by rw [HL.out]; rfl,by rw [HL.out]; exact H1.out,H2.out⟩
end Go.Proofs.YtoeejfhdjmkpcaaGreatDoor
