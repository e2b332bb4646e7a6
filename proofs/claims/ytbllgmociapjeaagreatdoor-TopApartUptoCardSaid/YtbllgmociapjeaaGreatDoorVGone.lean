/- Of the proof of a statement: Gone. -/
import Derived.Lib.QuietBelow
import Derived.Test.YtbllgmociapjeaaGreatDoorVRowsC
set_option linter.unusedVariables false
set_option linter.unusedSimpArgs false
set_option maxRecDepth 100000
set_option maxHeartbeats 8000000
/- The walks of gone (the program), at jobs, nodes and leases. -/
namespace Go.Proofs.YtbllgmociapjeaaGreatDoor
open Go.Lib (hid)
open Go.RowKit
def kP (xs:List ByteArray):Prop:=∀ x ∈ xs,x.size≤9223372036854775807
theorem BL (name:ByteArray) (prio:Int) (need:Int) (tries:Int) (tag:ByteArray) (s:ByteArray) (kb sb:Nat) (w:World) (hk:w.cell? ⟨kb,0,none⟩=some (.func (.func 144) #[] #[])) (hs:w.cell? ⟨sb,0,none⟩=some (.string s)) :
 Calls Tryz.prog 239 #[.agg #[.string name,.int .i64 prio,.int .i64 need,.int .i64 tries,.string tag],.pointer (some ⟨kb,0,none⟩),.pointer (some ⟨sb,0,none⟩)] w fun e w'=>e = .returned (.bool (name.toList == s.toList))∧Below w.heap.size w w':=by
 have hb0:=(Below.refl w.heap.size w).alloc (Nat.le_refl _) (.cells #[.string name,.int .i64 prio,.int .i64 need,.int .i64 tries,.string tag] 32)
 have hkl:=block_lt_of_cell hk
 have hsl:=block_lt_of_cell hs
 generalize hw1:w.alloc (.cells #[.string name,.int .i64 prio,.int .i64 need,.int .i64 tries,.string tag] 32)=w1 at hb0
 have b0:=fun d os=>cell_regrown (show w1.cell? ⟨w.heap.size,0,none⟩=some (.string name) by rw [← hw1]; simp [go_sem]) d os
 have b1:=fun d os=>cell_regrown (show w1.cell? ⟨w.heap.size,1,none⟩=some (.int .i64 prio) by rw [← hw1]; simp [go_sem]) d os
 have b2:=fun d os=>cell_regrown (show w1.cell? ⟨w.heap.size,2,none⟩=some (.int .i64 need) by rw [← hw1]; simp [go_sem]) d os
 have b3:=fun d os=>cell_regrown (show w1.cell? ⟨w.heap.size,3,none⟩=some (.int .i64 tries) by rw [← hw1]; simp [go_sem]) d os
 have b4:=fun d os=>cell_regrown (show w1.cell? ⟨w.heap.size,4,none⟩=some (.string tag) by rw [← hw1]; simp [go_sem]) d os
 have k0:=fun d os=>cell_regrown ((hb0.cell (p:=⟨kb,0,none⟩) hkl).trans hk) d os
 have s0:=fun d os=>cell_regrown ((hb0.cell (p:=⟨sb,0,none⟩) hsl).trans hs) d os
 have Hb0:=hid hb0
 have HW:=hid hw1
 clear hb0 hw1 hk hs hkl hsl
 go_enter Tryz.func239,Tryz.ntmps239
 go_wp2_with fail
 rw [HW.out]
 refine wp_region_quiet_below (by kernel_rfl) (by kernel_rfl) ?_
 repeat (go_big_quiet_step ((go_at_call 144; exact Calls.regrown_of (gS _ _ _ _ _ _))))
 refine wpQuiet_nil ?_
 intro _ hw'
 obtain⟨⟨nq,osq⟩,hw''⟩:=hw'
 subst hw''
 have hb2:=hid (Hb0.out.trans ((below_regrown w1 nq osq).mono Hb0.out.size))
 clear b0 b1 b2 b3 b4 k0 s0
 dsimp only
 generalize Sort.grow (redrawn w1 nq) osq=w2 at hb2 ⊢
 go_wp2
 go_ret
 exact⟨rfl,hb2.out⟩
def DZ (xs:List aC) (s:ByteArray) (w:World) (e:Ending) (w':World):Prop:=
 ∃ i:Int,e = .returned (.int .i64 i)∧Below w.heap.size w w'∧((i = -1∧(dA xs s).isSome=false)∨(0≤i∧(dA xs s).isSome=true))
def FW (xs:List aC) (s:ByteArray) (n:Nat) (w:World) (i:Value) (wr:World):Prop:=∃ k:Nat,k≤n∧i = .int .i64 k∧(xs.take k).find? (fun x=>decide (x.name=s))=none∧Below w.heap.size w wr
theorem D0 (xs:List aC) (s:ByteArray) (A:Option Addr) (n c kb sb:Nat) (w:World) (hx:aU w w.heap.size 5 A n (au aI xs)) (hl:xs.length=n) (hn:n≤9223372036854775807)
 (hkb:w.cell? ⟨kb,0,none⟩=some (.func (.func 144) #[] #[])) (hsb:w.cell? ⟨sb,0,none⟩=some (.string s)) :
 Calls Tryz.prog 235 #[.slice A n c,.func (.func 239) #[] #[.pointer (some ⟨kb,0,none⟩),.pointer (some ⟨sb,0,none⟩)]] w (DZ xs s w):=by
 have Hl:=hid hl
 have Hkb:=hid hkb
 have Hsb:=hid hsb
 have hkl:=block_lt_of_cell hkb
 have hsl:=block_lt_of_cell hsb
 clear hl hkb hsb
 go_enter Tryz.func235,Tryz.ntmps235
 go_wp2
 go_loopw [4,5,8,16] (fun _ _ i _ wr=>FW xs s n w i wr) (fun _ _ i _ _=>n - (intOf i).toNat)
 case atStart=>exact⟨0,Nat.zero_le _,rfl,by simp,Below.refl _ _⟩
 case round=>
  obtain⟨k,hk,rfl,hnone,hb⟩:=hrel
  have dz:=hid hnone
  have Hb:=hid hb
  have hsz:=hb.size
  clear hnone
  by_cases hlt:k<n
  · obtain⟨x,hf⟩:∃ x,xs[k]? = some x:=⟨_,List.getElem?_eq_getElem (by rw [Hl.out]; exact hlt)⟩
    obtain⟨b,off,rfl,hbB,hc⟩:=(hx.below hb).dB aV Hl.out hf
    have Hf:=hid hf
    obtain⟨name,prio,need,tries,tag⟩:=x
    obtain⟨c0,c1,c2,c3,c4⟩:=rc5 hc
    have hcon:=hid (BL name prio need tries tag s kb sb wr ((hb.cell (p:=⟨kb,0,none⟩) hkl).trans Hkb.out) ((hb.cell (p:=⟨sb,0,none⟩) hsl).trans Hsb.out))
    clear hc hf hx hb
    have hlb:b<wr.heap.size:=by omega
    go_wp2_with fail
    refine Calls.mono hcon.out ?_
    rintro e w2 ⟨rfl,hb2⟩
    have Hb2:=hid (Hb.out.trans (hb2.mono Hb.out.size))
    clear hcon hb2
    by_cases hs:name=s
    · subst hs
      have e1:=qY name
      have fin:=hid (vC dz.out Hf.out (by simp))
      rw [e1]
      go_wp2
      go_ret
      exact⟨_,rfl,Hb2.out,.inr ⟨by omega,by unfold dA; rw [fin.out]; rfl⟩⟩
    · have e1:=qZ hs
      have fin:=hid (sH dz.out Hf.out (by simp [hs]))
      rw [e1]
      go_wp2
      go_roundw
      case rel=>exact⟨k+1,by omega,by go_num,fin.out,Hb2.out⟩
      case measure=>simp [intOf]; omega
  · have fin:=hid (vD dz.out (by rw [Hl.out]; omega))
    clear hx
    go_wp2
    go_ret
    exact⟨_,rfl,Hb.out,.inl ⟨rfl,by unfold dA; rw [fin.out]; rfl⟩⟩
theorem BM (xs:List aC) (s:ByteArray) (A:Option Addr) (n c kb sb:Nat) (w:World) (hx:aU w w.heap.size 5 A n (au aI xs)) (hl:xs.length=n) (hn:n≤9223372036854775807)
 (hkb:w.cell? ⟨kb,0,none⟩=some (.func (.func 144) #[] #[])) (hsb:w.cell? ⟨sb,0,none⟩=some (.string s)) :
 Calls Tryz.prog 201 #[.slice A n c,.func (.func 239) #[] #[.pointer (some ⟨kb,0,none⟩),.pointer (some ⟨sb,0,none⟩)]] w fun e w'=>e = .returned (.bool (dA xs s).isSome)∧Below w.heap.size w w':=by
 have hC:=hid (D0 xs s A n c kb sb w hx hl hn hkb hsb)
 clear hx hl hn hkb hsb
 go_enter Tryz.func201,Tryz.ntmps201
 go_wp2_with fail
 refine Calls.mono hC.out ?_
 rintro e w2 ⟨i,rfl,hb2,hcase⟩
 rcases hcase with ⟨rfl,hn⟩ | ⟨hi,hn⟩
 · go_wp2
   go_ret
   exact⟨cY hn.symm,hb2⟩
 · have d0:decide (0≤i)=true:=decide_eq_true hi
   go_wp2
   go_ret
   exact⟨cY hn.symm,hb2⟩
def FX (xs:List aC) (ss:List ByteArray) (n:Nat) (R:Int) (w:World) (i:Value) (wr:World):Prop:=
 ∃ k:Nat,k≤n∧i = .int .i64 k∧eZ (fun s=>(dA xs s).isSome) (prevK om ss k) (ss.drop k)=R∧Below w.heap.size w wr∧wr.cell? ⟨w.heap.size,0,none⟩=some (.func (.func 144) #[] #[])
theorem zV (ss:List ByteArray) (xs:List aC) (A A':Option Addr) (n c n' c':Nat) (w:World) (hx:aU w w.heap.size 1 A n (au mD ss)) (hl:ss.length=n) (hn:n≤9223372036854775807) (hok:kP ss)
 (hx':aU w w.heap.size 5 A' n' (au aI xs)) (hl':xs.length=n') (hn':n'≤9223372036854775807) (hT:Tabs w) :
 Calls Tryz.prog 215 #[.slice A n c,.slice A' n' c',.func (.func 144) #[] #[]] w fun e w'=>e = .returned (.int .i64 (nJ (fun s=>(dA xs s).isSome) ss))∧Below w.heap.size w w':=by
 obtain⟨R,hR⟩:∃ R,nJ (fun s=>(dA xs s).isSome) ss=R:=⟨_,rfl⟩
 rw [hR]
 have HR:=hid hR
 have Hl:=hid hl
 have Hok:=hid hok
 have HT:=hid hT
 have HX:=hid (And.intro hx' (And.intro hl' hn'))
 have Hk0:=hid (show ∀ t,(w.alloc (.cells #[.func (.func 144) #[] #[]] t)).cell? ⟨w.heap.size,0,none⟩=some (.func (.func 144) #[] #[]) from fun t=>by simp [go_sem])
 clear hR hl hok hT hx' hl' hn'
 go_enter Tryz.func215,Tryz.ntmps215
 go_wp2
 go_loopw [6,7,8,11,18,20,35] (fun _ _ _ i _ _ _ wr=>FX xs ss n R w i wr) (fun _ _ _ i _ _ _ _=>n - (intOf i).toNat)
 case atStart=>exact⟨0,Nat.zero_le _,rfl,by rw [← HR.out]; rfl,(Below.refl _ _).alloc (Nat.le_refl _) _,Hk0.out _⟩
 case round=>
  obtain⟨k,hk,rfl,hrow,hb,hkc⟩:=hrel
  have eM:=hid hrow
  have Hb:=hid hb
  have Hkc:=hid hkc
  have hsz:=hb.size
  have hkl:=block_lt_of_cell hkc
  clear hrow hkc
  by_cases hlt:k<n
  · obtain⟨s,hf⟩:∃ s,ss[k]? = some s:=⟨_,List.getElem?_eq_getElem (by rw [Hl.out]; exact hlt)⟩
    obtain⟨b,off,rfl,hbB,hc⟩:=(hx.below hb).dB fQ Hl.out hf
    have hso:=hid (Hok.out s (List.mem_of_getElem? hf))
    have Hf:=hid hf
    have c0:wr.cell? ⟨b,off+k*1,none⟩=some (.string s):=hc 0 _ rfl
    rw [Nat.mul_one] at c0
    have hlb:b<wr.heap.size:=by omega
    have hA0:=(Below.refl wr.heap.size wr).alloc (Nat.le_refl _) (.cells #[.string s] 9)
    have hBa:=hid (Hb.out.trans (hA0.mono hsz))
    have hT1:=hid (HT.out.below hBa.out)
    have hka:=((hA0.cell (p:=⟨w.heap.size,0,none⟩) hkl).trans Hkc.out)
    have HA0:=hid hA0
    have Hka:=hid hka
    clear hc hf hA0 hka
    go_wp2_with fail
    refine Calls.mono (fI s _ hso.out hT1.out) ?_
    rintro e w1 ⟨rfl,hb1⟩
    have HA1:=hid (HA0.out.trans (hb1.mono HA0.out.size))
    have hB1:=hid (hBa.out.trans (hb1.mono hBa.out.size))
    have hsc:w1.cell? ⟨wr.heap.size,0,none⟩=some (.string s):=by rw [(dI hb1).1 _ _ (by simp)]; simp [go_sem]
    have Hsc:=hid hsc
    have hk1:=hid ((HA1.out.cell (p:=⟨w.heap.size,0,none⟩) hkl).trans Hkc.out)
    have hx1:=hid ((HX.out.1.below hB1.out).more hB1.out.size)
    have hsz1:wr.heap.size<w1.heap.size:=block_lt_of_cell hsc
    clear hb1 hb
    cases hnm:bF s
    · have h4:=hid (show R=4 by rw [← eM.out]; exact sI Hf.out hnm)
      go_wp2
      go_ret
      exact⟨bg h4.out.symm,hB1.out⟩
    have tM:k=0∨∃ y,ss[k - 1]? = some y:=by
     by_cases h0:k=0
     · exact .inl h0
     · exact .inr ⟨_,List.getElem?_eq_getElem (by rw [Hl.out]; omega)⟩
    have hB2:=hid hB1.out.drew
    have lN:=hid (BM xs s A' n' c' w.heap.size wr.heap.size w1.drew hx1.out.drew HX.out.2.1 HX.out.2.2 hk1.out Hsc.out)
    have hmf:∀ (fn:Fn) (first cap:Array Value) (w:World),(Instr.makeFunc fn first cap).run Tryz.prog w = .ok (.func fn first cap) w:=fun _ _ _ _=>rfl
    have FY:(k=0)∨(k≠0∧∃ y,ss[k - 1]? = some y∧Op.bytesLess y.toList s.toList=true)∨(k≠0∧∃ y,ss[k - 1]? = some y∧Op.bytesLess y.toList s.toList=false):=by
     rcases tM with h | ⟨y,hy⟩
     · exact .inl h
     · by_cases h0:k=0
       · exact .inl h0
       · cases hbl:Op.bytesLess y.toList s.toList
         · exact .inr (.inr ⟨h0,y,hy,hbl⟩)
         · exact .inr (.inl ⟨h0,y,hy,hbl⟩)
    clear tM
    rcases FY with h0 | ⟨h0,y,hy,hbl⟩ | ⟨h0,y,hy,hbl⟩
    · subst h0
      obtain⟨H,hH⟩:∃ H,(dA xs s).isSome=H:=⟨_,rfl⟩
      go_wp2_with fail
      go_region
      go_wp2_with fail
      rw [hH] at lN
      refine Calls.mono lN.out ?_
      rintro e w3 ⟨rfl,hb3⟩
      have hB3:=hid (hB2.out.trans (hb3.mono hB2.out.size))
      have hk3:=hid ((hb3.cell (p:=⟨w.heap.size,0,none⟩) (block_lt_of_cell hk1.out)).trans hk1.out)
      clear hb3 lN
      cases H
      · have hst:=hid (kW (has:=fun s=>(dA xs s).isSome) Hf.out hnm (.inl rfl) hH)
        go_wp2
        go_roundw
        case rel=>exact⟨1,by omega,by go_num,by rw [← hst.out]; exact eM.out,hB3.out,hk3.out⟩
        case measure=>simp [intOf]; omega
      · have h7:=hid (show R=7 by rw [← eM.out]; exact jK Hf.out hnm (.inl rfl) hH)
        go_wp2
        go_ret
        exact⟨bg h7.out.symm,hB3.out⟩
    · obtain⟨b',off',hbo,uh,hp⟩:=(hx.below hB1.out).dB fQ Hl.out hy
      obtain⟨rfl,rfl⟩:b=b'∧off=off':=by simpa using hbo
      have p0:w1.cell? ⟨b,off+(k - 1)*1,none⟩=some (.string y):=hp 0 _ rfl
      rw [Nat.mul_one] at p0
      have hkp:decide ((0:Int)<(k:Int))=true:=decide_eq_true (by omega)
      have hkn:0<k:=by omega
      have hlt2:=dW y.toList s.toList
      have e1:(Op.bytesLess s.toList y.toList || s.toList == y.toList)=false:=by rw [← hlt2,hbl]; rfl
      obtain⟨H,hH⟩:∃ H,(dA xs s).isSome=H:=⟨_,rfl⟩
      have Hy:=hid hy
      have HL:=hid hbl
      clear hp hlt2 hy hbl
      go_wp2_with fail
      go_region
      go_wp2_with fail
      rw [hH] at lN
      refine Calls.mono lN.out ?_
      rintro e w3 ⟨rfl,hb3⟩
      have hB3:=hid (hB2.out.trans (hb3.mono hB2.out.size))
      have hk3:=hid ((hb3.cell (p:=⟨w.heap.size,0,none⟩) (block_lt_of_cell hk1.out)).trans hk1.out)
      clear hb3 lN
      cases H
      · have hst:=hid (kW (has:=fun s=>(dA xs s).isSome) Hf.out hnm (.inr ⟨_,Hy.out,HL.out⟩) hH)
        go_wp2
        go_roundw
        case rel=>exact⟨k+1,by omega,by go_num,by rw [← hst.out]; exact eM.out,hB3.out,hk3.out⟩
        case measure=>simp [intOf]; omega
      · have h7:=hid (show R=7 by rw [← eM.out]; exact jK Hf.out hnm (.inr ⟨_,Hy.out,HL.out⟩) hH)
        go_wp2
        go_ret
        exact⟨bg h7.out.symm,hB3.out⟩
    · obtain⟨b',off',hbo,uh,hp⟩:=(hx.below hB1.out).dB fQ Hl.out hy
      obtain⟨rfl,rfl⟩:b=b'∧off=off':=by simpa using hbo
      have p0:w1.cell? ⟨b,off+(k - 1)*1,none⟩=some (.string y):=hp 0 _ rfl
      rw [Nat.mul_one] at p0
      have hkp:decide ((0:Int)<(k:Int))=true:=decide_eq_true (by omega)
      have hkn:0<k:=by omega
      have hlt2:=dW y.toList s.toList
      have e1:(Op.bytesLess s.toList y.toList || s.toList == y.toList)=true:=by rw [← hlt2,hbl]; rfl
      have h8:=hid (show R=8 by rw [← eM.out]; exact qh Hf.out hnm h0 hy hbl)
      clear hp hlt2 lN hy hbl
      go_wp2
      go_region
      go_wp2
      go_ret
      exact⟨bg h8.out.symm,hB2.out⟩
  · have h0:=hid (show R=0 by rw [← eM.out]; exact vE (by rw [Hl.out]; omega) _)
    clear hb hx
    go_wp2
    go_ret
    exact⟨bg h0.out.symm,Hb.out⟩
theorem Ai (name:ByteArray) (room:Int) (zone:ByteArray) (s:ByteArray) (kb sb:Nat) (w:World) (hk:w.cell? ⟨kb,0,none⟩=some (.func (.func 147) #[] #[])) (hs:w.cell? ⟨sb,0,none⟩=some (.string s)) :
 Calls Tryz.prog 240 #[.agg #[.string name,.int .i64 room,.string zone],.pointer (some ⟨kb,0,none⟩),.pointer (some ⟨sb,0,none⟩)] w fun e w'=>e = .returned (.bool (name.toList == s.toList))∧Below w.heap.size w w':=by
 have hb0:=(Below.refl w.heap.size w).alloc (Nat.le_refl _) (.cells #[.string name,.int .i64 room,.string zone] 34)
 have hkl:=block_lt_of_cell hk
 have hsl:=block_lt_of_cell hs
 generalize hw1:w.alloc (.cells #[.string name,.int .i64 room,.string zone] 34)=w1 at hb0
 have b0:=fun d os=>cell_regrown (show w1.cell? ⟨w.heap.size,0,none⟩=some (.string name) by rw [← hw1]; simp [go_sem]) d os
 have b1:=fun d os=>cell_regrown (show w1.cell? ⟨w.heap.size,1,none⟩=some (.int .i64 room) by rw [← hw1]; simp [go_sem]) d os
 have b2:=fun d os=>cell_regrown (show w1.cell? ⟨w.heap.size,2,none⟩=some (.string zone) by rw [← hw1]; simp [go_sem]) d os
 have k0:=fun d os=>cell_regrown ((hb0.cell (p:=⟨kb,0,none⟩) hkl).trans hk) d os
 have s0:=fun d os=>cell_regrown ((hb0.cell (p:=⟨sb,0,none⟩) hsl).trans hs) d os
 have Hb0:=hid hb0
 have HW:=hid hw1
 clear hb0 hw1 hk hs hkl hsl
 go_enter Tryz.func240,Tryz.ntmps240
 go_wp2_with fail
 rw [HW.out]
 refine wp_region_quiet_below (by kernel_rfl) (by kernel_rfl) ?_
 repeat (go_big_quiet_step ((go_at_call 147; exact Calls.regrown_of (fW _ _ _ _))))
 refine wpQuiet_nil ?_
 intro _ hw'
 obtain⟨⟨nq,osq⟩,hw''⟩:=hw'
 subst hw''
 have hb2:=hid (Hb0.out.trans ((below_regrown w1 nq osq).mono Hb0.out.size))
 clear b0 b1 b2 k0 s0
 dsimp only
 generalize Sort.grow (redrawn w1 nq) osq=w2 at hb2 ⊢
 go_wp2
 go_ret
 exact⟨rfl,hb2.out⟩
def BN (xs:List aA) (s:ByteArray) (w:World) (e:Ending) (w':World):Prop:=
 ∃ i:Int,e = .returned (.int .i64 i)∧Below w.heap.size w w'∧((i = -1∧(dh xs s).isSome=false)∨(0≤i∧(dh xs s).isSome=true))
def D2 (xs:List aA) (s:ByteArray) (n:Nat) (w:World) (i:Value) (wr:World):Prop:=∃ k:Nat,k≤n∧i = .int .i64 k∧(xs.take k).find? (fun x=>decide (x.name=s))=none∧Below w.heap.size w wr
theorem BO (xs:List aA) (s:ByteArray) (A:Option Addr) (n c kb sb:Nat) (w:World) (hx:aU w w.heap.size 3 A n (au aB xs)) (hl:xs.length=n) (hn:n≤9223372036854775807)
 (hkb:w.cell? ⟨kb,0,none⟩=some (.func (.func 147) #[] #[])) (hsb:w.cell? ⟨sb,0,none⟩=some (.string s)) :
 Calls Tryz.prog 237 #[.slice A n c,.func (.func 240) #[] #[.pointer (some ⟨kb,0,none⟩),.pointer (some ⟨sb,0,none⟩)]] w (BN xs s w):=by
 have Hl:=hid hl
 have Hkb:=hid hkb
 have Hsb:=hid hsb
 have hkl:=block_lt_of_cell hkb
 have hsl:=block_lt_of_cell hsb
 clear hl hkb hsb
 go_enter Tryz.func237,Tryz.ntmps237
 go_wp2
 go_loopw [4,5,8,16] (fun _ _ i _ wr=>D2 xs s n w i wr) (fun _ _ i _ _=>n - (intOf i).toNat)
 case atStart=>exact⟨0,Nat.zero_le _,rfl,by simp,Below.refl _ _⟩
 case round=>
  obtain⟨k,hk,rfl,hnone,hb⟩:=hrel
  have dz:=hid hnone
  have Hb:=hid hb
  have hsz:=hb.size
  clear hnone
  by_cases hlt:k<n
  · obtain⟨x,hf⟩:∃ x,xs[k]? = some x:=⟨_,List.getElem?_eq_getElem (by rw [Hl.out]; exact hlt)⟩
    obtain⟨b,off,rfl,hbB,hc⟩:=(hx.below hb).dB aJ Hl.out hf
    have Hf:=hid hf
    obtain⟨name,room,zone⟩:=x
    obtain⟨c0,c1,c2⟩:=rc3 hc
    have hcon:=hid (Ai name room zone s kb sb wr ((hb.cell (p:=⟨kb,0,none⟩) hkl).trans Hkb.out) ((hb.cell (p:=⟨sb,0,none⟩) hsl).trans Hsb.out))
    clear hc hf hx hb
    have hlb:b<wr.heap.size:=by omega
    go_wp2_with fail
    refine Calls.mono hcon.out ?_
    rintro e w2 ⟨rfl,hb2⟩
    have Hb2:=hid (Hb.out.trans (hb2.mono Hb.out.size))
    clear hcon hb2
    by_cases hs:name=s
    · subst hs
      have e1:=qY name
      have fin:=hid (vC dz.out Hf.out (by simp))
      rw [e1]
      go_wp2
      go_ret
      exact⟨_,rfl,Hb2.out,.inr ⟨by omega,by unfold dh; rw [fin.out]; rfl⟩⟩
    · have e1:=qZ hs
      have fin:=hid (sH dz.out Hf.out (by simp [hs]))
      rw [e1]
      go_wp2
      go_roundw
      case rel=>exact⟨k+1,by omega,by go_num,fin.out,Hb2.out⟩
      case measure=>simp [intOf]; omega
  · have fin:=hid (vD dz.out (by rw [Hl.out]; omega))
    clear hx
    go_wp2
    go_ret
    exact⟨_,rfl,Hb.out,.inl ⟨rfl,by unfold dh; rw [fin.out]; rfl⟩⟩
theorem Aj (xs:List aA) (s:ByteArray) (A:Option Addr) (n c kb sb:Nat) (w:World) (hx:aU w w.heap.size 3 A n (au aB xs)) (hl:xs.length=n) (hn:n≤9223372036854775807)
 (hkb:w.cell? ⟨kb,0,none⟩=some (.func (.func 147) #[] #[])) (hsb:w.cell? ⟨sb,0,none⟩=some (.string s)) :
 Calls Tryz.prog 204 #[.slice A n c,.func (.func 240) #[] #[.pointer (some ⟨kb,0,none⟩),.pointer (some ⟨sb,0,none⟩)]] w fun e w'=>e = .returned (.bool (dh xs s).isSome)∧Below w.heap.size w w':=by
 have hC:=hid (BO xs s A n c kb sb w hx hl hn hkb hsb)
 clear hx hl hn hkb hsb
 go_enter Tryz.func204,Tryz.ntmps204
 go_wp2_with fail
 refine Calls.mono hC.out ?_
 rintro e w2 ⟨i,rfl,hb2,hcase⟩
 rcases hcase with ⟨rfl,hn⟩ | ⟨hi,hn⟩
 · go_wp2
   go_ret
   exact⟨cY hn.symm,hb2⟩
 · have d0:decide (0≤i)=true:=decide_eq_true hi
   go_wp2
   go_ret
   exact⟨cY hn.symm,hb2⟩
def D3 (xs:List aA) (ss:List ByteArray) (n:Nat) (R:Int) (w:World) (i:Value) (wr:World):Prop:=
 ∃ k:Nat,k≤n∧i = .int .i64 k∧eZ (fun s=>(dh xs s).isSome) (prevK om ss k) (ss.drop k)=R∧Below w.heap.size w wr∧wr.cell? ⟨w.heap.size,0,none⟩=some (.func (.func 147) #[] #[])
theorem yL (ss:List ByteArray) (xs:List aA) (A A':Option Addr) (n c n' c':Nat) (w:World) (hx:aU w w.heap.size 1 A n (au mD ss)) (hl:ss.length=n) (hn:n≤9223372036854775807) (hok:kP ss)
 (hx':aU w w.heap.size 3 A' n' (au aB xs)) (hl':xs.length=n') (hn':n'≤9223372036854775807) (hT:Tabs w) :
 Calls Tryz.prog 216 #[.slice A n c,.slice A' n' c',.func (.func 147) #[] #[]] w fun e w'=>e = .returned (.int .i64 (nJ (fun s=>(dh xs s).isSome) ss))∧Below w.heap.size w w':=by
 obtain⟨R,hR⟩:∃ R,nJ (fun s=>(dh xs s).isSome) ss=R:=⟨_,rfl⟩
 rw [hR]
 have HR:=hid hR
 have Hl:=hid hl
 have Hok:=hid hok
 have HT:=hid hT
 have HX:=hid (And.intro hx' (And.intro hl' hn'))
 have Hk0:=hid (show ∀ t,(w.alloc (.cells #[.func (.func 147) #[] #[]] t)).cell? ⟨w.heap.size,0,none⟩=some (.func (.func 147) #[] #[]) from fun t=>by simp [go_sem])
 clear hR hl hok hT hx' hl' hn'
 go_enter Tryz.func216,Tryz.ntmps216
 go_wp2
 go_loopw [6,7,8,11,18,20,35] (fun _ _ _ i _ _ _ wr=>D3 xs ss n R w i wr) (fun _ _ _ i _ _ _ _=>n - (intOf i).toNat)
 case atStart=>exact⟨0,Nat.zero_le _,rfl,by rw [← HR.out]; rfl,(Below.refl _ _).alloc (Nat.le_refl _) _,Hk0.out _⟩
 case round=>
  obtain⟨k,hk,rfl,hrow,hb,hkc⟩:=hrel
  have eM:=hid hrow
  have Hb:=hid hb
  have Hkc:=hid hkc
  have hsz:=hb.size
  have hkl:=block_lt_of_cell hkc
  clear hrow hkc
  by_cases hlt:k<n
  · obtain⟨s,hf⟩:∃ s,ss[k]? = some s:=⟨_,List.getElem?_eq_getElem (by rw [Hl.out]; exact hlt)⟩
    obtain⟨b,off,rfl,hbB,hc⟩:=(hx.below hb).dB fQ Hl.out hf
    have hso:=hid (Hok.out s (List.mem_of_getElem? hf))
    have Hf:=hid hf
    have c0:wr.cell? ⟨b,off+k*1,none⟩=some (.string s):=hc 0 _ rfl
    rw [Nat.mul_one] at c0
    have hlb:b<wr.heap.size:=by omega
    have hA0:=(Below.refl wr.heap.size wr).alloc (Nat.le_refl _) (.cells #[.string s] 9)
    have hBa:=hid (Hb.out.trans (hA0.mono hsz))
    have hT1:=hid (HT.out.below hBa.out)
    have hka:=((hA0.cell (p:=⟨w.heap.size,0,none⟩) hkl).trans Hkc.out)
    have HA0:=hid hA0
    have Hka:=hid hka
    clear hc hf hA0 hka
    go_wp2_with fail
    refine Calls.mono (fI s _ hso.out hT1.out) ?_
    rintro e w1 ⟨rfl,hb1⟩
    have HA1:=hid (HA0.out.trans (hb1.mono HA0.out.size))
    have hB1:=hid (hBa.out.trans (hb1.mono hBa.out.size))
    have hsc:w1.cell? ⟨wr.heap.size,0,none⟩=some (.string s):=by rw [(dI hb1).1 _ _ (by simp)]; simp [go_sem]
    have Hsc:=hid hsc
    have hk1:=hid ((HA1.out.cell (p:=⟨w.heap.size,0,none⟩) hkl).trans Hkc.out)
    have hx1:=hid ((HX.out.1.below hB1.out).more hB1.out.size)
    have hsz1:wr.heap.size<w1.heap.size:=block_lt_of_cell hsc
    clear hb1 hb
    cases hnm:bF s
    · have h4:=hid (show R=4 by rw [← eM.out]; exact sI Hf.out hnm)
      go_wp2
      go_ret
      exact⟨bg h4.out.symm,hB1.out⟩
    have tM:k=0∨∃ y,ss[k - 1]? = some y:=by
     by_cases h0:k=0
     · exact .inl h0
     · exact .inr ⟨_,List.getElem?_eq_getElem (by rw [Hl.out]; omega)⟩
    have hB2:=hid hB1.out.drew
    have lN:=hid (Aj xs s A' n' c' w.heap.size wr.heap.size w1.drew hx1.out.drew HX.out.2.1 HX.out.2.2 hk1.out Hsc.out)
    have hmf:∀ (fn:Fn) (first cap:Array Value) (w:World),(Instr.makeFunc fn first cap).run Tryz.prog w = .ok (.func fn first cap) w:=fun _ _ _ _=>rfl
    have FY:(k=0)∨(k≠0∧∃ y,ss[k - 1]? = some y∧Op.bytesLess y.toList s.toList=true)∨(k≠0∧∃ y,ss[k - 1]? = some y∧Op.bytesLess y.toList s.toList=false):=by
     rcases tM with h | ⟨y,hy⟩
     · exact .inl h
     · by_cases h0:k=0
       · exact .inl h0
       · cases hbl:Op.bytesLess y.toList s.toList
         · exact .inr (.inr ⟨h0,y,hy,hbl⟩)
         · exact .inr (.inl ⟨h0,y,hy,hbl⟩)
    clear tM
    rcases FY with h0 | ⟨h0,y,hy,hbl⟩ | ⟨h0,y,hy,hbl⟩
    · subst h0
      obtain⟨H,hH⟩:∃ H,(dh xs s).isSome=H:=⟨_,rfl⟩
      go_wp2_with fail
      go_region
      go_wp2_with fail
      rw [hH] at lN
      refine Calls.mono lN.out ?_
      rintro e w3 ⟨rfl,hb3⟩
      have hB3:=hid (hB2.out.trans (hb3.mono hB2.out.size))
      have hk3:=hid ((hb3.cell (p:=⟨w.heap.size,0,none⟩) (block_lt_of_cell hk1.out)).trans hk1.out)
      clear hb3 lN
      cases H
      · have hst:=hid (kW (has:=fun s=>(dh xs s).isSome) Hf.out hnm (.inl rfl) hH)
        go_wp2
        go_roundw
        case rel=>exact⟨1,by omega,by go_num,by rw [← hst.out]; exact eM.out,hB3.out,hk3.out⟩
        case measure=>simp [intOf]; omega
      · have h7:=hid (show R=7 by rw [← eM.out]; exact jK Hf.out hnm (.inl rfl) hH)
        go_wp2
        go_ret
        exact⟨bg h7.out.symm,hB3.out⟩
    · obtain⟨b',off',hbo,uh,hp⟩:=(hx.below hB1.out).dB fQ Hl.out hy
      obtain⟨rfl,rfl⟩:b=b'∧off=off':=by simpa using hbo
      have p0:w1.cell? ⟨b,off+(k - 1)*1,none⟩=some (.string y):=hp 0 _ rfl
      rw [Nat.mul_one] at p0
      have hkp:decide ((0:Int)<(k:Int))=true:=decide_eq_true (by omega)
      have hkn:0<k:=by omega
      have hlt2:=dW y.toList s.toList
      have e1:(Op.bytesLess s.toList y.toList || s.toList == y.toList)=false:=by rw [← hlt2,hbl]; rfl
      obtain⟨H,hH⟩:∃ H,(dh xs s).isSome=H:=⟨_,rfl⟩
      have Hy:=hid hy
      have HL:=hid hbl
      clear hp hlt2 hy hbl
      go_wp2_with fail
      go_region
      go_wp2_with fail
      rw [hH] at lN
      refine Calls.mono lN.out ?_
      rintro e w3 ⟨rfl,hb3⟩
      have hB3:=hid (hB2.out.trans (hb3.mono hB2.out.size))
      have hk3:=hid ((hb3.cell (p:=⟨w.heap.size,0,none⟩) (block_lt_of_cell hk1.out)).trans hk1.out)
      clear hb3 lN
      cases H
      · have hst:=hid (kW (has:=fun s=>(dh xs s).isSome) Hf.out hnm (.inr ⟨_,Hy.out,HL.out⟩) hH)
        go_wp2
        go_roundw
        case rel=>exact⟨k+1,by omega,by go_num,by rw [← hst.out]; exact eM.out,hB3.out,hk3.out⟩
        case measure=>simp [intOf]; omega
      · have h7:=hid (show R=7 by rw [← eM.out]; exact jK Hf.out hnm (.inr ⟨_,Hy.out,HL.out⟩) hH)
        go_wp2
        go_ret
        exact⟨bg h7.out.symm,hB3.out⟩
    · obtain⟨b',off',hbo,uh,hp⟩:=(hx.below hB1.out).dB fQ Hl.out hy
      obtain⟨rfl,rfl⟩:b=b'∧off=off':=by simpa using hbo
      have p0:w1.cell? ⟨b,off+(k - 1)*1,none⟩=some (.string y):=hp 0 _ rfl
      rw [Nat.mul_one] at p0
      have hkp:decide ((0:Int)<(k:Int))=true:=decide_eq_true (by omega)
      have hkn:0<k:=by omega
      have hlt2:=dW y.toList s.toList
      have e1:(Op.bytesLess s.toList y.toList || s.toList == y.toList)=true:=by rw [← hlt2,hbl]; rfl
      have h8:=hid (show R=8 by rw [← eM.out]; exact qh Hf.out hnm h0 hy hbl)
      clear hp hlt2 lN hy hbl
      go_wp2
      go_region
      go_wp2
      go_ret
      exact⟨bg h8.out.symm,hB2.out⟩
  · have h0:=hid (show R=0 by rw [← eM.out]; exact vE (by rw [Hl.out]; omega) _)
    clear hb hx
    go_wp2
    go_ret
    exact⟨bg h0.out.symm,Hb.out⟩
theorem yP (job:ByteArray) (node:ByteArray) (till:Int) (s:ByteArray) (kb sb:Nat) (w:World) (hk:w.cell? ⟨kb,0,none⟩=some (.func (.func 150) #[] #[])) (hs:w.cell? ⟨sb,0,none⟩=some (.string s)) :
 Calls Tryz.prog 241 #[.agg #[.string job,.string node,.int .i64 till],.pointer (some ⟨kb,0,none⟩),.pointer (some ⟨sb,0,none⟩)] w fun e w'=>e = .returned (.bool (job.toList == s.toList))∧Below w.heap.size w w':=by
 have hb0:=(Below.refl w.heap.size w).alloc (Nat.le_refl _) (.cells #[.string job,.string node,.int .i64 till] 36)
 have hkl:=block_lt_of_cell hk
 have hsl:=block_lt_of_cell hs
 generalize hw1:w.alloc (.cells #[.string job,.string node,.int .i64 till] 36)=w1 at hb0
 have b0:=fun d os=>cell_regrown (show w1.cell? ⟨w.heap.size,0,none⟩=some (.string job) by rw [← hw1]; simp [go_sem]) d os
 have b1:=fun d os=>cell_regrown (show w1.cell? ⟨w.heap.size,1,none⟩=some (.string node) by rw [← hw1]; simp [go_sem]) d os
 have b2:=fun d os=>cell_regrown (show w1.cell? ⟨w.heap.size,2,none⟩=some (.int .i64 till) by rw [← hw1]; simp [go_sem]) d os
 have k0:=fun d os=>cell_regrown ((hb0.cell (p:=⟨kb,0,none⟩) hkl).trans hk) d os
 have s0:=fun d os=>cell_regrown ((hb0.cell (p:=⟨sb,0,none⟩) hsl).trans hs) d os
 have Hb0:=hid hb0
 have HW:=hid hw1
 clear hb0 hw1 hk hs hkl hsl
 go_enter Tryz.func241,Tryz.ntmps241
 go_wp2_with fail
 rw [HW.out]
 refine wp_region_quiet_below (by kernel_rfl) (by kernel_rfl) ?_
 repeat (go_big_quiet_step ((go_at_call 150; exact Calls.regrown_of (eA _ _ _ _))))
 refine wpQuiet_nil ?_
 intro _ hw'
 obtain⟨⟨nq,osq⟩,hw''⟩:=hw'
 subst hw''
 have hb2:=hid (Hb0.out.trans ((below_regrown w1 nq osq).mono Hb0.out.size))
 clear b0 b1 b2 k0 s0
 dsimp only
 generalize Sort.grow (redrawn w1 nq) osq=w2 at hb2 ⊢
 go_wp2
 go_ret
 exact⟨rfl,hb2.out⟩
def Ak (xs:List ak) (s:ByteArray) (w:World) (e:Ending) (w':World):Prop:=
 ∃ i:Int,e = .returned (.int .i64 i)∧Below w.heap.size w w'∧((i = -1∧(eB xs s).isSome=false)∨(0≤i∧(eB xs s).isSome=true))
def BQ (xs:List ak) (s:ByteArray) (n:Nat) (w:World) (i:Value) (wr:World):Prop:=∃ k:Nat,k≤n∧i = .int .i64 k∧(xs.take k).find? (fun x=>decide (x.job=s))=none∧Below w.heap.size w wr
theorem Al (xs:List ak) (s:ByteArray) (A:Option Addr) (n c kb sb:Nat) (w:World) (hx:aU w w.heap.size 3 A n (au av xs)) (hl:xs.length=n) (hn:n≤9223372036854775807)
 (hkb:w.cell? ⟨kb,0,none⟩=some (.func (.func 150) #[] #[])) (hsb:w.cell? ⟨sb,0,none⟩=some (.string s)) :
 Calls Tryz.prog 230 #[.slice A n c,.func (.func 241) #[] #[.pointer (some ⟨kb,0,none⟩),.pointer (some ⟨sb,0,none⟩)]] w (Ak xs s w):=by
 have Hl:=hid hl
 have Hkb:=hid hkb
 have Hsb:=hid hsb
 have hkl:=block_lt_of_cell hkb
 have hsl:=block_lt_of_cell hsb
 clear hl hkb hsb
 go_enter Tryz.func230,Tryz.ntmps230
 go_wp2
 go_loopw [4,5,8,16] (fun _ _ i _ wr=>BQ xs s n w i wr) (fun _ _ i _ _=>n - (intOf i).toNat)
 case atStart=>exact⟨0,Nat.zero_le _,rfl,by simp,Below.refl _ _⟩
 case round=>
  obtain⟨k,hk,rfl,hnone,hb⟩:=hrel
  have dz:=hid hnone
  have Hb:=hid hb
  have hsz:=hb.size
  clear hnone
  by_cases hlt:k<n
  · obtain⟨x,hf⟩:∃ x,xs[k]? = some x:=⟨_,List.getElem?_eq_getElem (by rw [Hl.out]; exact hlt)⟩
    obtain⟨b,off,rfl,hbB,hc⟩:=(hx.below hb).dB aG Hl.out hf
    have Hf:=hid hf
    obtain⟨job,node,till⟩:=x
    obtain⟨c0,c1,c2⟩:=rc3 hc
    have hcon:=hid (yP job node till s kb sb wr ((hb.cell (p:=⟨kb,0,none⟩) hkl).trans Hkb.out) ((hb.cell (p:=⟨sb,0,none⟩) hsl).trans Hsb.out))
    clear hc hf hx hb
    have hlb:b<wr.heap.size:=by omega
    go_wp2_with fail
    refine Calls.mono hcon.out ?_
    rintro e w2 ⟨rfl,hb2⟩
    have Hb2:=hid (Hb.out.trans (hb2.mono Hb.out.size))
    clear hcon hb2
    by_cases hs:job=s
    · subst hs
      have e1:=qY job
      have fin:=hid (vC dz.out Hf.out (by simp))
      rw [e1]
      go_wp2
      go_ret
      exact⟨_,rfl,Hb2.out,.inr ⟨by omega,by unfold eB; rw [fin.out]; rfl⟩⟩
    · have e1:=qZ hs
      have fin:=hid (sH dz.out Hf.out (by simp [hs]))
      rw [e1]
      go_wp2
      go_roundw
      case rel=>exact⟨k+1,by omega,by go_num,fin.out,Hb2.out⟩
      case measure=>simp [intOf]; omega
  · have fin:=hid (vD dz.out (by rw [Hl.out]; omega))
    clear hx
    go_wp2
    go_ret
    exact⟨_,rfl,Hb.out,.inl ⟨rfl,by unfold eB; rw [fin.out]; rfl⟩⟩
theorem yQ (xs:List ak) (s:ByteArray) (A:Option Addr) (n c kb sb:Nat) (w:World) (hx:aU w w.heap.size 3 A n (au av xs)) (hl:xs.length=n) (hn:n≤9223372036854775807)
 (hkb:w.cell? ⟨kb,0,none⟩=some (.func (.func 150) #[] #[])) (hsb:w.cell? ⟨sb,0,none⟩=some (.string s)) :
 Calls Tryz.prog 207 #[.slice A n c,.func (.func 241) #[] #[.pointer (some ⟨kb,0,none⟩),.pointer (some ⟨sb,0,none⟩)]] w fun e w'=>e = .returned (.bool (eB xs s).isSome)∧Below w.heap.size w w':=by
 have hC:=hid (Al xs s A n c kb sb w hx hl hn hkb hsb)
 clear hx hl hn hkb hsb
 go_enter Tryz.func207,Tryz.ntmps207
 go_wp2_with fail
 refine Calls.mono hC.out ?_
 rintro e w2 ⟨i,rfl,hb2,hcase⟩
 rcases hcase with ⟨rfl,hn⟩ | ⟨hi,hn⟩
 · go_wp2
   go_ret
   exact⟨cY hn.symm,hb2⟩
 · have d0:decide (0≤i)=true:=decide_eq_true hi
   go_wp2
   go_ret
   exact⟨cY hn.symm,hb2⟩
def BR (xs:List ak) (ss:List ByteArray) (n:Nat) (R:Int) (w:World) (i:Value) (wr:World):Prop:=
 ∃ k:Nat,k≤n∧i = .int .i64 k∧eZ (fun s=>(eB xs s).isSome) (prevK om ss k) (ss.drop k)=R∧Below w.heap.size w wr∧wr.cell? ⟨w.heap.size,0,none⟩=some (.func (.func 150) #[] #[])
theorem w9 (ss:List ByteArray) (xs:List ak) (A A':Option Addr) (n c n' c':Nat) (w:World) (hx:aU w w.heap.size 1 A n (au mD ss)) (hl:ss.length=n) (hn:n≤9223372036854775807) (hok:kP ss)
 (hx':aU w w.heap.size 3 A' n' (au av xs)) (hl':xs.length=n') (hn':n'≤9223372036854775807) (hT:Tabs w) :
 Calls Tryz.prog 217 #[.slice A n c,.slice A' n' c',.func (.func 150) #[] #[]] w fun e w'=>e = .returned (.int .i64 (nJ (fun s=>(eB xs s).isSome) ss))∧Below w.heap.size w w':=by
 obtain⟨R,hR⟩:∃ R,nJ (fun s=>(eB xs s).isSome) ss=R:=⟨_,rfl⟩
 rw [hR]
 have HR:=hid hR
 have Hl:=hid hl
 have Hok:=hid hok
 have HT:=hid hT
 have HX:=hid (And.intro hx' (And.intro hl' hn'))
 have Hk0:=hid (show ∀ t,(w.alloc (.cells #[.func (.func 150) #[] #[]] t)).cell? ⟨w.heap.size,0,none⟩=some (.func (.func 150) #[] #[]) from fun t=>by simp [go_sem])
 clear hR hl hok hT hx' hl' hn'
 go_enter Tryz.func217,Tryz.ntmps217
 go_wp2
 go_loopw [6,7,8,11,18,20,35] (fun _ _ _ i _ _ _ wr=>BR xs ss n R w i wr) (fun _ _ _ i _ _ _ _=>n - (intOf i).toNat)
 case atStart=>exact⟨0,Nat.zero_le _,rfl,by rw [← HR.out]; rfl,(Below.refl _ _).alloc (Nat.le_refl _) _,Hk0.out _⟩
 case round=>
  obtain⟨k,hk,rfl,hrow,hb,hkc⟩:=hrel
  have eM:=hid hrow
  have Hb:=hid hb
  have Hkc:=hid hkc
  have hsz:=hb.size
  have hkl:=block_lt_of_cell hkc
  clear hrow hkc
  by_cases hlt:k<n
  · obtain⟨s,hf⟩:∃ s,ss[k]? = some s:=⟨_,List.getElem?_eq_getElem (by rw [Hl.out]; exact hlt)⟩
    obtain⟨b,off,rfl,hbB,hc⟩:=(hx.below hb).dB fQ Hl.out hf
    have hso:=hid (Hok.out s (List.mem_of_getElem? hf))
    have Hf:=hid hf
    have c0:wr.cell? ⟨b,off+k*1,none⟩=some (.string s):=hc 0 _ rfl
    rw [Nat.mul_one] at c0
    have hlb:b<wr.heap.size:=by omega
    have hA0:=(Below.refl wr.heap.size wr).alloc (Nat.le_refl _) (.cells #[.string s] 9)
    have hBa:=hid (Hb.out.trans (hA0.mono hsz))
    have hT1:=hid (HT.out.below hBa.out)
    have hka:=((hA0.cell (p:=⟨w.heap.size,0,none⟩) hkl).trans Hkc.out)
    have HA0:=hid hA0
    have Hka:=hid hka
    clear hc hf hA0 hka
    go_wp2_with fail
    refine Calls.mono (fI s _ hso.out hT1.out) ?_
    rintro e w1 ⟨rfl,hb1⟩
    have HA1:=hid (HA0.out.trans (hb1.mono HA0.out.size))
    have hB1:=hid (hBa.out.trans (hb1.mono hBa.out.size))
    have hsc:w1.cell? ⟨wr.heap.size,0,none⟩=some (.string s):=by rw [(dI hb1).1 _ _ (by simp)]; simp [go_sem]
    have Hsc:=hid hsc
    have hk1:=hid ((HA1.out.cell (p:=⟨w.heap.size,0,none⟩) hkl).trans Hkc.out)
    have hx1:=hid ((HX.out.1.below hB1.out).more hB1.out.size)
    have hsz1:wr.heap.size<w1.heap.size:=block_lt_of_cell hsc
    clear hb1 hb
    cases hnm:bF s
    · have h4:=hid (show R=4 by rw [← eM.out]; exact sI Hf.out hnm)
      go_wp2
      go_ret
      exact⟨bg h4.out.symm,hB1.out⟩
    have tM:k=0∨∃ y,ss[k - 1]? = some y:=by
     by_cases h0:k=0
     · exact .inl h0
     · exact .inr ⟨_,List.getElem?_eq_getElem (by rw [Hl.out]; omega)⟩
    have hB2:=hid hB1.out.drew
    have lN:=hid (yQ xs s A' n' c' w.heap.size wr.heap.size w1.drew hx1.out.drew HX.out.2.1 HX.out.2.2 hk1.out Hsc.out)
    have hmf:∀ (fn:Fn) (first cap:Array Value) (w:World),(Instr.makeFunc fn first cap).run Tryz.prog w = .ok (.func fn first cap) w:=fun _ _ _ _=>rfl
    have FY:(k=0)∨(k≠0∧∃ y,ss[k - 1]? = some y∧Op.bytesLess y.toList s.toList=true)∨(k≠0∧∃ y,ss[k - 1]? = some y∧Op.bytesLess y.toList s.toList=false):=by
     rcases tM with h | ⟨y,hy⟩
     · exact .inl h
     · by_cases h0:k=0
       · exact .inl h0
       · cases hbl:Op.bytesLess y.toList s.toList
         · exact .inr (.inr ⟨h0,y,hy,hbl⟩)
         · exact .inr (.inl ⟨h0,y,hy,hbl⟩)
    clear tM
    rcases FY with h0 | ⟨h0,y,hy,hbl⟩ | ⟨h0,y,hy,hbl⟩
    · subst h0
      obtain⟨H,hH⟩:∃ H,(eB xs s).isSome=H:=⟨_,rfl⟩
      go_wp2_with fail
      go_region
      go_wp2_with fail
      rw [hH] at lN
      refine Calls.mono lN.out ?_
      rintro e w3 ⟨rfl,hb3⟩
      have hB3:=hid (hB2.out.trans (hb3.mono hB2.out.size))
      have hk3:=hid ((hb3.cell (p:=⟨w.heap.size,0,none⟩) (block_lt_of_cell hk1.out)).trans hk1.out)
      clear hb3 lN
      cases H
      · have hst:=hid (kW (has:=fun s=>(eB xs s).isSome) Hf.out hnm (.inl rfl) hH)
        go_wp2
        go_roundw
        case rel=>exact⟨1,by omega,by go_num,by rw [← hst.out]; exact eM.out,hB3.out,hk3.out⟩
        case measure=>simp [intOf]; omega
      · have h7:=hid (show R=7 by rw [← eM.out]; exact jK Hf.out hnm (.inl rfl) hH)
        go_wp2
        go_ret
        exact⟨bg h7.out.symm,hB3.out⟩
    · obtain⟨b',off',hbo,uh,hp⟩:=(hx.below hB1.out).dB fQ Hl.out hy
      obtain⟨rfl,rfl⟩:b=b'∧off=off':=by simpa using hbo
      have p0:w1.cell? ⟨b,off+(k - 1)*1,none⟩=some (.string y):=hp 0 _ rfl
      rw [Nat.mul_one] at p0
      have hkp:decide ((0:Int)<(k:Int))=true:=decide_eq_true (by omega)
      have hkn:0<k:=by omega
      have hlt2:=dW y.toList s.toList
      have e1:(Op.bytesLess s.toList y.toList || s.toList == y.toList)=false:=by rw [← hlt2,hbl]; rfl
      obtain⟨H,hH⟩:∃ H,(eB xs s).isSome=H:=⟨_,rfl⟩
      have Hy:=hid hy
      have HL:=hid hbl
      clear hp hlt2 hy hbl
      go_wp2_with fail
      go_region
      go_wp2_with fail
      rw [hH] at lN
      refine Calls.mono lN.out ?_
      rintro e w3 ⟨rfl,hb3⟩
      have hB3:=hid (hB2.out.trans (hb3.mono hB2.out.size))
      have hk3:=hid ((hb3.cell (p:=⟨w.heap.size,0,none⟩) (block_lt_of_cell hk1.out)).trans hk1.out)
      clear hb3 lN
      cases H
      · have hst:=hid (kW (has:=fun s=>(eB xs s).isSome) Hf.out hnm (.inr ⟨_,Hy.out,HL.out⟩) hH)
        go_wp2
        go_roundw
        case rel=>exact⟨k+1,by omega,by go_num,by rw [← hst.out]; exact eM.out,hB3.out,hk3.out⟩
        case measure=>simp [intOf]; omega
      · have h7:=hid (show R=7 by rw [← eM.out]; exact jK Hf.out hnm (.inr ⟨_,Hy.out,HL.out⟩) hH)
        go_wp2
        go_ret
        exact⟨bg h7.out.symm,hB3.out⟩
    · obtain⟨b',off',hbo,uh,hp⟩:=(hx.below hB1.out).dB fQ Hl.out hy
      obtain⟨rfl,rfl⟩:b=b'∧off=off':=by simpa using hbo
      have p0:w1.cell? ⟨b,off+(k - 1)*1,none⟩=some (.string y):=hp 0 _ rfl
      rw [Nat.mul_one] at p0
      have hkp:decide ((0:Int)<(k:Int))=true:=decide_eq_true (by omega)
      have hkn:0<k:=by omega
      have hlt2:=dW y.toList s.toList
      have e1:(Op.bytesLess s.toList y.toList || s.toList == y.toList)=true:=by rw [← hlt2,hbl]; rfl
      have h8:=hid (show R=8 by rw [← eM.out]; exact qh Hf.out hnm h0 hy hbl)
      clear hp hlt2 lN hy hbl
      go_wp2
      go_region
      go_wp2
      go_ret
      exact⟨bg h8.out.symm,hB2.out⟩
  · have h0:=hid (show R=0 by rw [← eM.out]; exact vE (by rw [Hl.out]; omega) _)
    clear hb hx
    go_wp2
    go_ret
    exact⟨bg h0.out.symm,Hb.out⟩
end Go.Proofs.YtbllgmociapjeaaGreatDoor
