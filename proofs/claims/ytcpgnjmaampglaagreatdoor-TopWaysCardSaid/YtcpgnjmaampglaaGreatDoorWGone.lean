/- Of the proof of a statement: Gone, DChk. -/
import Derived.Lib.QuietBelow
import Derived.Test.YtcpgnjmaampglaaGreatDoorWPlJson
import Derived.Test.YtcpgnjmaampglaaGreatDoorWRowsC
set_option linter.unusedVariables false
set_option linter.unusedSimpArgs false
set_option maxRecDepth 100000
set_option maxHeartbeats 8000000
/- The walks of gone (the program), at jobs, nodes and leases. -/
namespace Go.Proofs.YtcpgnjmaampglaaGreatDoor
open Go.Lib (hid)
open List (foldl_cons foldl_nil setIfInBounds_toArray set_cons_succ set_cons_zero)
open Go.RowKit
def l8 (xs:List ByteArray):Prop:=∀ x ∈ xs,x.size≤9223372036854775807
theorem pQ :
 (∀ (name:ByteArray) (prio:Int) (need:Int) (tries:Int) (tag:ByteArray) (s:ByteArray) (kb sb:Nat) (w:World) (hk:w.cell? ⟨kb,0,none⟩=some (.func (.func 49) #[] #[])) (hs:w.cell? ⟨sb,0,none⟩=some (.string s)),Calls Tryz.prog 147 #[.agg #[.string name,.int .i64 prio,.int .i64 need,.int .i64 tries,.string tag],.pointer (some ⟨kb,0,none⟩),.pointer (some ⟨sb,0,none⟩)] w fun e w'=>e = .returned (.bool (name.toList == s.toList))∧Below w.heap.size w w') ∧
 (∀ (name:ByteArray) (room:Int) (zone:ByteArray) (s:ByteArray) (kb sb:Nat) (w:World) (hk:w.cell? ⟨kb,0,none⟩=some (.func (.func 51) #[] #[])) (hs:w.cell? ⟨sb,0,none⟩=some (.string s)),Calls Tryz.prog 148 #[.agg #[.string name,.int .i64 room,.string zone],.pointer (some ⟨kb,0,none⟩),.pointer (some ⟨sb,0,none⟩)] w fun e w'=>e = .returned (.bool (name.toList == s.toList))∧Below w.heap.size w w') ∧
 (∀ (job:ByteArray) (node:ByteArray) (till:Int) (s:ByteArray) (kb sb:Nat) (w:World) (hk:w.cell? ⟨kb,0,none⟩=some (.func (.func 53) #[] #[])) (hs:w.cell? ⟨sb,0,none⟩=some (.string s)),Calls Tryz.prog 149 #[.agg #[.string job,.string node,.int .i64 till],.pointer (some ⟨kb,0,none⟩),.pointer (some ⟨sb,0,none⟩)] w fun e w'=>e = .returned (.bool (job.toList == s.toList))∧Below w.heap.size w w'):=by
 refine⟨@fun name prio need tries tag s kb sb w hk hs=>(fun(jM0:Unit)=>?_) (),@fun name room zone s kb sb w hk hs=>(fun(jM1 jM3:Unit)=>?_) () (),@fun job node till s kb sb w hk hs=>(fun(jM2 jM3:Unit)=>?_) () ()⟩<;>(
 first
  |(
   guard_hyp jM0
   have hb0:=(Below.refl w.heap.size w).alloc (Nat.le_refl _) (.cells #[.string name,.int .i64 prio,.int .i64 need,.int .i64 tries,.string tag] 59))
  |(
   guard_hyp jM1
   have hb0:=(Below.refl w.heap.size w).alloc (Nat.le_refl _) (.cells #[.string name,.int .i64 room,.string zone] 61))
  |(
   guard_hyp jM2
   have hb0:=(Below.refl w.heap.size w).alloc (Nat.le_refl _) (.cells #[.string job,.string node,.int .i64 till] 63))
 have hkl:=block_lt_of_cell hk
 have hsl:=block_lt_of_cell hs
 first
  |(
   guard_hyp jM0
   generalize hw1:w.alloc (.cells #[.string name,.int .i64 prio,.int .i64 need,.int .i64 tries,.string tag] 59)=w1 at hb0)
  |(
   guard_hyp jM1
   generalize hw1:w.alloc (.cells #[.string name,.int .i64 room,.string zone] 61)=w1 at hb0)
  |(
   guard_hyp jM2
   generalize hw1:w.alloc (.cells #[.string job,.string node,.int .i64 till] 63)=w1 at hb0)
 first|(guard_hyp jM2;have b0:=fun d os=>cell_regrown (show w1.cell? ⟨w.heap.size,0,none⟩=some (.string job) by rw [← hw1]; simp [go_sem]) d os)|have b0:=fun d os=>cell_regrown (show w1.cell? ⟨w.heap.size,0,none⟩=some (.string name) by rw [← hw1]; simp [go_sem]) d os
 first
  |(
   guard_hyp jM0
   have b1:=fun d os=>cell_regrown (show w1.cell? ⟨w.heap.size,1,none⟩=some (.int .i64 prio) by rw [← hw1]; simp [go_sem]) d os
   have b2:=fun d os=>cell_regrown (show w1.cell? ⟨w.heap.size,2,none⟩=some (.int .i64 need) by rw [← hw1]; simp [go_sem]) d os)
  |(
   guard_hyp jM2
   have b1:=fun d os=>cell_regrown (show w1.cell? ⟨w.heap.size,1,none⟩=some (.string node) by rw [← hw1]; simp [go_sem]) d os)
  |skip
 first|(guard_hyp jM0;have b3:=fun d os=>cell_regrown (show w1.cell? ⟨w.heap.size,3,none⟩=some (.int .i64 tries) by rw [← hw1]; simp [go_sem]) d os)|(guard_hyp jM1;have b1:=fun d os=>cell_regrown (show w1.cell? ⟨w.heap.size,1,none⟩=some (.int .i64 room) by rw [← hw1]; simp [go_sem]) d os)|have b2:=fun d os=>cell_regrown (show w1.cell? ⟨w.heap.size,2,none⟩=some (.int .i64 till) by rw [← hw1]; simp [go_sem]) d os
 first
  |(
   guard_hyp jM0
   have b4:=fun d os=>cell_regrown (show w1.cell? ⟨w.heap.size,4,none⟩=some (.string tag) by rw [← hw1]; simp [go_sem]) d os)
  |(
   guard_hyp jM1
   have b2:=fun d os=>cell_regrown (show w1.cell? ⟨w.heap.size,2,none⟩=some (.string zone) by rw [← hw1]; simp [go_sem]) d os)
  |skip
 have k0:=fun d os=>cell_regrown ((hb0.cell (p:=⟨kb,0,none⟩) hkl).trans hk) d os
 have s0:=fun d os=>cell_regrown ((hb0.cell (p:=⟨sb,0,none⟩) hsl).trans hs) d os
 have Hb0:=hid hb0
 have HW:=hid hw1
 clear hb0 hw1 hk hs hkl hsl
 first|(guard_hyp jM0;go_enter Tryz.func147,Tryz.ntmps147)|(guard_hyp jM1;go_enter Tryz.func148,Tryz.ntmps148)|go_enter Tryz.func149,Tryz.ntmps149
 go_wp2_with fail
 rw [HW.out]
 refine wp_region_quiet_below (by kernel_rfl) (by kernel_rfl) ?_
 first
  |(
   guard_hyp jM0
   repeat (go_big_quiet_step ((go_at_call 49; exact Calls.regrown_of (fT _ _ _ _ _ _)))))
  |(
   guard_hyp jM1
   repeat (go_big_quiet_step ((go_at_call 51; exact Calls.regrown_of (iD _ _ _ _)))))
  |(
   guard_hyp jM2
   repeat (go_big_quiet_step ((go_at_call 53; exact Calls.regrown_of (eP _ _ _ _)))))
 refine wpQuiet_nil ?_
 intro _ hw'
 obtain⟨⟨nq,osq⟩,hw''⟩:=hw'
 subst hw''
 have hb2:=hid (Hb0.out.trans ((below_regrown w1 nq osq).mono Hb0.out.size))
 first
  |(
   guard_hyp jM0
   clear b0 b1 b2 b3 b4 k0 s0)
  |(
   guard_hyp jM3
   clear b0 b1 b2 k0 s0)
 dsimp only
 generalize Sort.grow (redrawn w1 nq) osq=w2 at hb2 ⊢
 go_wp2
 go_ret
 exact⟨rfl,hb2.out⟩)
def Jh (xs:List aB) (s:ByteArray) (w:World) (e:Ending) (w':World):Prop:=
 ∃ i:Int,e = .returned (.int .i64 i)∧Below w.heap.size w w'∧((i = -1∧(eu xs s).isSome=false)∨(0≤i∧(eu xs s).isSome=true))
def Lf (xs:List aB) (s:ByteArray) (n:Nat) (w:World) (i:Value) (wr:World):Prop:=∃ k:Nat,k≤n∧i = .int .i64 k∧(xs.take k).find? (fun x=>decide (x.name=s))=none∧Below w.heap.size w wr
def FM (xs:List av) (s:ByteArray) (w:World) (e:Ending) (w':World):Prop:=
 ∃ i:Int,e = .returned (.int .i64 i)∧Below w.heap.size w w'∧((i = -1∧(dX xs s).isSome=false)∨(0≤i∧(dX xs s).isSome=true))
def Ji (xs:List av) (s:ByteArray) (n:Nat) (w:World) (i:Value) (wr:World):Prop:=∃ k:Nat,k≤n∧i = .int .i64 k∧(xs.take k).find? (fun x=>decide (x.name=s))=none∧Below w.heap.size w wr
def DU (xs:List ak) (s:ByteArray) (w:World) (e:Ending) (w':World):Prop:=
 ∃ i:Int,e = .returned (.int .i64 i)∧Below w.heap.size w w'∧((i = -1∧(fJ xs s).isSome=false)∨(0≤i∧(fJ xs s).isSome=true))
def FN (xs:List ak) (s:ByteArray) (n:Nat) (w:World) (i:Value) (wr:World):Prop:=∃ k:Nat,k≤n∧i = .int .i64 k∧(xs.take k).find? (fun x=>decide (x.job=s))=none∧Below w.heap.size w wr
theorem qM :
 (∀ (xs:List aB) (s:ByteArray) (A:Option Addr) (n c kb sb:Nat) (w:World) (hx:aQ w w.heap.size 5 A n (au aH xs)) (hl:xs.length=n) (hn:n≤9223372036854775807) (hkb:w.cell? ⟨kb,0,none⟩=some (.func (.func 49) #[] #[])) (hsb:w.cell? ⟨sb,0,none⟩=some (.string s)),Calls Tryz.prog 182 #[.slice A n c,.func (.func 147) #[] #[.pointer (some ⟨kb,0,none⟩),.pointer (some ⟨sb,0,none⟩)]] w (Jh xs s w)) ∧
 (∀ (xs:List av) (s:ByteArray) (A:Option Addr) (n c kb sb:Nat) (w:World) (hx:aQ w w.heap.size 3 A n (au aI xs)) (hl:xs.length=n) (hn:n≤9223372036854775807) (hkb:w.cell? ⟨kb,0,none⟩=some (.func (.func 51) #[] #[])) (hsb:w.cell? ⟨sb,0,none⟩=some (.string s)),Calls Tryz.prog 184 #[.slice A n c,.func (.func 148) #[] #[.pointer (some ⟨kb,0,none⟩),.pointer (some ⟨sb,0,none⟩)]] w (FM xs s w)) ∧
 (∀ (xs:List ak) (s:ByteArray) (A:Option Addr) (n c kb sb:Nat) (w:World) (hx:aQ w w.heap.size 3 A n (au aE xs)) (hl:xs.length=n) (hn:n≤9223372036854775807) (hkb:w.cell? ⟨kb,0,none⟩=some (.func (.func 53) #[] #[])) (hsb:w.cell? ⟨sb,0,none⟩=some (.string s)),Calls Tryz.prog 186 #[.slice A n c,.func (.func 149) #[] #[.pointer (some ⟨kb,0,none⟩),.pointer (some ⟨sb,0,none⟩)]] w (DU xs s w)):=by
 refine⟨@fun xs s A n c kb sb w hx hl hn hkb hsb=>(fun(jM0:Unit)=>?_) (),@fun xs s A n c kb sb w hx hl hn hkb hsb=>(fun(jM1:Unit)=>?_) (),@fun xs s A n c kb sb w hx hl hn hkb hsb=>(fun(jM2:Unit)=>?_) ()⟩<;>(
 have Hl:=hid hl
 have Hkb:=hid hkb
 have Hsb:=hid hsb
 have hkl:=block_lt_of_cell hkb
 have hsl:=block_lt_of_cell hsb
 clear hl hkb hsb
 first|(guard_hyp jM0;go_enter Tryz.func182,Tryz.ntmps182)|(guard_hyp jM1;go_enter Tryz.func184,Tryz.ntmps184)|go_enter Tryz.func186,Tryz.ntmps186
 go_wp2
 first|(guard_hyp jM0;go_loopw [4,5,8,16] (fun _ _ i _ wr=>Lf xs s n w i wr) (fun _ _ i _ _=>n - (intOf i).toNat))|(guard_hyp jM1;go_loopw [4,5,8,16] (fun _ _ i _ wr=>Ji xs s n w i wr) (fun _ _ i _ _=>n - (intOf i).toNat))|go_loopw [4,5,8,16] (fun _ _ i _ wr=>FN xs s n w i wr) (fun _ _ i _ _=>n - (intOf i).toNat)
 case atStart=>exact⟨0,Nat.zero_le _,rfl,by simp,Below.refl _ _⟩
 case round=>
  obtain⟨k,hk,rfl,hnone,hb⟩:=hrel
  have gM:=hid hnone
  have Hb:=hid hb
  have hsz:=hb.size
  clear hnone
  by_cases hlt:k<n
  · obtain⟨x,hf⟩:∃ x,xs[k]? = some x:=⟨_,List.getElem?_eq_getElem (by rw [Hl.out]; exact hlt)⟩
    first|(guard_hyp jM0;obtain⟨b,off,rfl,hbB,hc⟩:=(hx.below hb).dF aN Hl.out hf)|(guard_hyp jM1;obtain⟨b,off,rfl,hbB,hc⟩:=(hx.below hb).dF bF Hl.out hf)|obtain⟨b,off,rfl,hbB,hc⟩:=(hx.below hb).dF bB Hl.out hf
    have Hf:=hid hf
    first
     |(
      guard_hyp jM0
      obtain⟨name,prio,need,tries,tag⟩:=x
      obtain⟨c0,c1,c2,c3,c4⟩:=rc5 hc
      have hcon:=hid (pQ.1 name prio need tries tag s kb sb wr ((hb.cell (p:=⟨kb,0,none⟩) hkl).trans Hkb.out) ((hb.cell (p:=⟨sb,0,none⟩) hsl).trans Hsb.out)))
     |(
      guard_hyp jM1
      obtain⟨name,room,zone⟩:=x
      obtain⟨c0,c1,c2⟩:=rc3 hc
      have hcon:=hid (pQ.2.1 name room zone s kb sb wr ((hb.cell (p:=⟨kb,0,none⟩) hkl).trans Hkb.out) ((hb.cell (p:=⟨sb,0,none⟩) hsl).trans Hsb.out)))
     |(
      guard_hyp jM2
      obtain⟨job,node,till⟩:=x
      obtain⟨c0,c1,c2⟩:=rc3 hc
      have hcon:=hid (pQ.2.2 job node till s kb sb wr ((hb.cell (p:=⟨kb,0,none⟩) hkl).trans Hkb.out) ((hb.cell (p:=⟨sb,0,none⟩) hsl).trans Hsb.out)))
    clear hc hf hx hb
    have hlb:b<wr.heap.size:=by omega
    go_wp2_with fail
    refine Calls.mono hcon.out ?_
    rintro e w2 ⟨rfl,hb2⟩
    have Hb2:=hid (Hb.out.trans (hb2.mono Hb.out.size))
    clear hcon hb2
    first|(guard_hyp jM2;by_cases hs:job=s)|by_cases hs:name=s
    · subst hs
      first|(guard_hyp jM2;have e1:=zn job)|have e1:=zn name
      have fin:=hid (Lh gM.out Hf.out (by simp))
      rw [e1]
      go_wp2
      go_ret
      first|(guard_hyp jM0;exact⟨_,rfl,Hb2.out,.inr ⟨by omega,by unfold eu; rw [fin.out]; rfl⟩⟩)|(guard_hyp jM1;exact⟨_,rfl,Hb2.out,.inr ⟨by omega,by unfold dX; rw [fin.out]; rfl⟩⟩)|exact⟨_,rfl,Hb2.out,.inr ⟨by omega,by unfold fJ; rw [fin.out]; rfl⟩⟩
    · have e1:=DV hs
      have fin:=hid (Jj gM.out Hf.out (by simp [hs]))
      rw [e1]
      go_wp2
      go_roundw
      case rel=>exact⟨k+1,by omega,by go_num,fin.out,Hb2.out⟩
      case measure=>simp [intOf]; omega
  · have fin:=hid (Li gM.out (by rw [Hl.out]; omega))
    clear hx
    go_wp2
    go_ret
    first|(guard_hyp jM0;exact⟨_,rfl,Hb.out,.inl ⟨rfl,by unfold eu; rw [fin.out]; rfl⟩⟩)|(guard_hyp jM1;exact⟨_,rfl,Hb.out,.inl ⟨rfl,by unfold dX; rw [fin.out]; rfl⟩⟩)|exact⟨_,rfl,Hb.out,.inl ⟨rfl,by unfold fJ; rw [fin.out]; rfl⟩⟩)
theorem FO (xs:List aB) (s:ByteArray) (A:Option Addr) (n c kb sb:Nat) (w:World) (hx:aQ w w.heap.size 5 A n (au aH xs)) (hl:xs.length=n) (hn:n≤9223372036854775807)
 (hkb:w.cell? ⟨kb,0,none⟩=some (.func (.func 49) #[] #[])) (hsb:w.cell? ⟨sb,0,none⟩=some (.string s)) :
 Calls Tryz.prog 139 #[.slice A n c,.func (.func 147) #[] #[.pointer (some ⟨kb,0,none⟩),.pointer (some ⟨sb,0,none⟩)]] w fun e w'=>e = .returned (.bool (eu xs s).isSome)∧Below w.heap.size w w':=by
 have hC:=hid (qM.1 xs s A n c kb sb w hx hl hn hkb hsb)
 clear hx hl hn hkb hsb
 go_enter Tryz.func139,Tryz.ntmps139
 go_wp2_with fail
 refine Calls.mono hC.out ?_
 rintro e w2 ⟨i,rfl,hb2,hcase⟩
 rcases hcase with ⟨rfl,hn⟩ | ⟨hi,hn⟩
 · go_wp2
   go_ret
   exact⟨dW hn.symm,hb2⟩
 · have d0:decide (0≤i)=true:=decide_eq_true hi
   go_wp2
   go_ret
   exact⟨dW hn.symm,hb2⟩
def Lj (xs:List aB) (ss:List ByteArray) (n:Nat) (R:Int) (w:World) (i:Value) (wr:World):Prop:=
 ∃ k:Nat,k≤n∧i = .int .i64 k∧dI (fun s=>(eu xs s).isSome) (prevK qH ss k) (ss.drop k)=R∧Below w.heap.size w wr∧wr.cell? ⟨w.heap.size,0,none⟩=some (.func (.func 49) #[] #[])
theorem DW (xs:List av) (s:ByteArray) (A:Option Addr) (n c kb sb:Nat) (w:World) (hx:aQ w w.heap.size 3 A n (au aI xs)) (hl:xs.length=n) (hn:n≤9223372036854775807)
 (hkb:w.cell? ⟨kb,0,none⟩=some (.func (.func 51) #[] #[])) (hsb:w.cell? ⟨sb,0,none⟩=some (.string s)) :
 Calls Tryz.prog 142 #[.slice A n c,.func (.func 148) #[] #[.pointer (some ⟨kb,0,none⟩),.pointer (some ⟨sb,0,none⟩)]] w fun e w'=>e = .returned (.bool (dX xs s).isSome)∧Below w.heap.size w w':=by
 have hC:=hid (qM.2.1 xs s A n c kb sb w hx hl hn hkb hsb)
 clear hx hl hn hkb hsb
 go_enter Tryz.func142,Tryz.ntmps142
 go_wp2_with fail
 refine Calls.mono hC.out ?_
 rintro e w2 ⟨i,rfl,hb2,hcase⟩
 rcases hcase with ⟨rfl,hn⟩ | ⟨hi,hn⟩
 · go_wp2
   go_ret
   exact⟨dW hn.symm,hb2⟩
 · have d0:decide (0≤i)=true:=decide_eq_true hi
   go_wp2
   go_ret
   exact⟨dW hn.symm,hb2⟩
def Jk (xs:List av) (ss:List ByteArray) (n:Nat) (R:Int) (w:World) (i:Value) (wr:World):Prop:=
 ∃ k:Nat,k≤n∧i = .int .i64 k∧dI (fun s=>(dX xs s).isSome) (prevK qH ss k) (ss.drop k)=R∧Below w.heap.size w wr∧wr.cell? ⟨w.heap.size,0,none⟩=some (.func (.func 51) #[] #[])
theorem Cy (xs:List ak) (s:ByteArray) (A:Option Addr) (n c kb sb:Nat) (w:World) (hx:aQ w w.heap.size 3 A n (au aE xs)) (hl:xs.length=n) (hn:n≤9223372036854775807)
 (hkb:w.cell? ⟨kb,0,none⟩=some (.func (.func 53) #[] #[])) (hsb:w.cell? ⟨sb,0,none⟩=some (.string s)) :
 Calls Tryz.prog 145 #[.slice A n c,.func (.func 149) #[] #[.pointer (some ⟨kb,0,none⟩),.pointer (some ⟨sb,0,none⟩)]] w fun e w'=>e = .returned (.bool (fJ xs s).isSome)∧Below w.heap.size w w':=by
 have hC:=hid (qM.2.2 xs s A n c kb sb w hx hl hn hkb hsb)
 clear hx hl hn hkb hsb
 go_enter Tryz.func145,Tryz.ntmps145
 go_wp2_with fail
 refine Calls.mono hC.out ?_
 rintro e w2 ⟨i,rfl,hb2,hcase⟩
 rcases hcase with ⟨rfl,hn⟩ | ⟨hi,hn⟩
 · go_wp2
   go_ret
   exact⟨dW hn.symm,hb2⟩
 · have d0:decide (0≤i)=true:=decide_eq_true hi
   go_wp2
   go_ret
   exact⟨dW hn.symm,hb2⟩
def FP (xs:List ak) (ss:List ByteArray) (n:Nat) (R:Int) (w:World) (i:Value) (wr:World):Prop:=
 ∃ k:Nat,k≤n∧i = .int .i64 k∧dI (fun s=>(fJ xs s).isSome) (prevK qH ss k) (ss.drop k)=R∧Below w.heap.size w wr∧wr.cell? ⟨w.heap.size,0,none⟩=some (.func (.func 53) #[] #[])
theorem nW :
 (∀ (ss:List ByteArray) (xs:List aB) (A A':Option Addr) (n c n' c':Nat) (w:World) (hx:aQ w w.heap.size 1 A n (au mN ss)) (hl:ss.length=n) (hn:n≤9223372036854775807) (hok:l8 ss) (hx':aQ w w.heap.size 5 A' n' (au aH xs)) (hl':xs.length=n') (hn':n'≤9223372036854775807) (hT:Tabs w),Calls Tryz.prog 101 #[.slice A n c,.slice A' n' c',.func (.func 49) #[] #[]] w fun e w'=>e = .returned (.int .i64 (nE (fun s=>(eu xs s).isSome) ss))∧Below w.heap.size w w') ∧
 (∀ (ss:List ByteArray) (xs:List av) (A A':Option Addr) (n c n' c':Nat) (w:World) (hx:aQ w w.heap.size 1 A n (au mN ss)) (hl:ss.length=n) (hn:n≤9223372036854775807) (hok:l8 ss) (hx':aQ w w.heap.size 3 A' n' (au aI xs)) (hl':xs.length=n') (hn':n'≤9223372036854775807) (hT:Tabs w),Calls Tryz.prog 102 #[.slice A n c,.slice A' n' c',.func (.func 51) #[] #[]] w fun e w'=>e = .returned (.int .i64 (nE (fun s=>(dX xs s).isSome) ss))∧Below w.heap.size w w') ∧
 (∀ (ss:List ByteArray) (xs:List ak) (A A':Option Addr) (n c n' c':Nat) (w:World) (hx:aQ w w.heap.size 1 A n (au mN ss)) (hl:ss.length=n) (hn:n≤9223372036854775807) (hok:l8 ss) (hx':aQ w w.heap.size 3 A' n' (au aE xs)) (hl':xs.length=n') (hn':n'≤9223372036854775807) (hT:Tabs w),Calls Tryz.prog 103 #[.slice A n c,.slice A' n' c',.func (.func 53) #[] #[]] w fun e w'=>e = .returned (.int .i64 (nE (fun s=>(fJ xs s).isSome) ss))∧Below w.heap.size w w'):=by
 refine⟨@fun ss xs A A' n c n' c' w hx hl hn hok hx' hl' hn' hT=>(fun(jM0:Unit)=>?_) (),@fun ss xs A A' n c n' c' w hx hl hn hok hx' hl' hn' hT=>(fun(jM1:Unit)=>?_) (),@fun ss xs A A' n c n' c' w hx hl hn hok hx' hl' hn' hT=>?_⟩<;>(
 first|(guard_hyp jM0;obtain⟨R,hR⟩:∃ R,nE (fun s=>(eu xs s).isSome) ss=R:=⟨_,rfl⟩)|(guard_hyp jM1;obtain⟨R,hR⟩:∃ R,nE (fun s=>(dX xs s).isSome) ss=R:=⟨_,rfl⟩)|obtain⟨R,hR⟩:∃ R,nE (fun s=>(fJ xs s).isSome) ss=R:=⟨_,rfl⟩
 rw [hR]
 have HR:=hid hR
 have Hl:=hid hl
 have Hok:=hid hok
 have HT:=hid hT
 have HX:=hid (And.intro hx' (And.intro hl' hn'))
 first|(guard_hyp jM0;have Hk0:=hid (show ∀ t,(w.alloc (.cells #[.func (.func 49) #[] #[]] t)).cell? ⟨w.heap.size,0,none⟩=some (.func (.func 49) #[] #[]) from fun t=>by simp [go_sem]))|(guard_hyp jM1;have Hk0:=hid (show ∀ t,(w.alloc (.cells #[.func (.func 51) #[] #[]] t)).cell? ⟨w.heap.size,0,none⟩=some (.func (.func 51) #[] #[]) from fun t=>by simp [go_sem]))|have Hk0:=hid (show ∀ t,(w.alloc (.cells #[.func (.func 53) #[] #[]] t)).cell? ⟨w.heap.size,0,none⟩=some (.func (.func 53) #[] #[]) from fun t=>by simp [go_sem])
 clear hR hl hok hT hx' hl' hn'
 first|(guard_hyp jM0;go_enter Tryz.func101,Tryz.ntmps101)|(guard_hyp jM1;go_enter Tryz.func102,Tryz.ntmps102)|go_enter Tryz.func103,Tryz.ntmps103
 go_wp2
 first|(guard_hyp jM0;go_loopw [6,7,8,11,18,20,35] (fun _ _ _ i _ _ _ wr=>Lj xs ss n R w i wr) (fun _ _ _ i _ _ _ _=>n - (intOf i).toNat))|(guard_hyp jM1;go_loopw [6,7,8,11,18,20,35] (fun _ _ _ i _ _ _ wr=>Jk xs ss n R w i wr) (fun _ _ _ i _ _ _ _=>n - (intOf i).toNat))|go_loopw [6,7,8,11,18,20,35] (fun _ _ _ i _ _ _ wr=>FP xs ss n R w i wr) (fun _ _ _ i _ _ _ _=>n - (intOf i).toNat)
 case atStart=>exact⟨0,Nat.zero_le _,rfl,by rw [← HR.out]; rfl,(Below.refl _ _).alloc (Nat.le_refl _) _,Hk0.out _⟩
 case round=>
  obtain⟨k,hk,rfl,hrow,hb,hkc⟩:=hrel
  have jP:=hid hrow
  have Hb:=hid hb
  have Hkc:=hid hkc
  have hsz:=hb.size
  have hkl:=block_lt_of_cell hkc
  clear hrow hkc
  by_cases hlt:k<n
  · obtain⟨s,hf⟩:∃ s,ss[k]? = some s:=⟨_,List.getElem?_eq_getElem (by rw [Hl.out]; exact hlt)⟩
    obtain⟨b,off,rfl,hbB,hc⟩:=(hx.below hb).dF jQ Hl.out hf
    have hso:=hid (Hok.out s (List.mem_of_getElem? hf))
    have Hf:=hid hf
    have c0:wr.cell? ⟨b,off+k*1,none⟩=some (.string s):=hc 0 _ rfl
    rw [Nat.mul_one] at c0
    have hlb:b<wr.heap.size:=by omega
    have hA0:=(Below.refl wr.heap.size wr).alloc (Nat.le_refl _) (.cells #[.string s] 9)
    have hBa:=hid (Hb.out.trans (hA0.mono hsz))
    have hT1:=hid (HT.out.below hBa.out)
    have hka:=((hA0.cell (p:=⟨w.heap.size,0,none⟩) hkl).trans Hkc.out)
    have HA0:=hid hA0
    have Hka:=hid hka
    clear hc hf hA0 hka
    go_wp2_with fail
    refine Calls.mono (mV s _ hso.out hT1.out) ?_
    rintro e w1 ⟨rfl,hb1⟩
    have HA1:=hid (HA0.out.trans (hb1.mono HA0.out.size))
    have hB1:=hid (hBa.out.trans (hb1.mono hBa.out.size))
    have hsc:w1.cell? ⟨wr.heap.size,0,none⟩=some (.string s):=by rw [(eH hb1).1 _ _ (by simp)]; simp [go_sem]
    have Hsc:=hid hsc
    have hk1:=hid ((HA1.out.cell (p:=⟨w.heap.size,0,none⟩) hkl).trans Hkc.out)
    have hx1:=hid ((HX.out.1.below hB1.out).more hB1.out.size)
    have hsz1:wr.heap.size<w1.heap.size:=block_lt_of_cell hsc
    clear hb1 hb
    cases hnm:cK s
    · have h4:=hid (show R=4 by rw [← jP.out]; exact IY Hf.out hnm)
      go_wp2
      go_ret
      exact⟨bU h4.out.symm,hB1.out⟩
    have O2:k=0∨∃ y,ss[k - 1]? = some y:=by
     by_cases h0:k=0
     · exact .inl h0
     · exact .inr ⟨_,List.getElem?_eq_getElem (by rw [Hl.out]; omega)⟩
    have hB2:=hid hB1.out.drew
    first|(guard_hyp jM0;have Cz:=hid (FO xs s A' n' c' w.heap.size wr.heap.size w1.drew hx1.out.drew HX.out.2.1 HX.out.2.2 hk1.out Hsc.out))|(guard_hyp jM1;have Cz:=hid (DW xs s A' n' c' w.heap.size wr.heap.size w1.drew hx1.out.drew HX.out.2.1 HX.out.2.2 hk1.out Hsc.out))|have Cz:=hid (Cy xs s A' n' c' w.heap.size wr.heap.size w1.drew hx1.out.drew HX.out.2.1 HX.out.2.2 hk1.out Hsc.out)
    have hmf:∀ (fn:Fn) (first cap:Array Value) (w:World),(Instr.makeFunc fn first cap).run Tryz.prog w = .ok (.func fn first cap) w:=fun _ _ _ _=>rfl
    have hord:(k=0)∨(k≠0∧∃ y,ss[k - 1]? = some y∧Op.bytesLess y.toList s.toList=true)∨(k≠0∧∃ y,ss[k - 1]? = some y∧Op.bytesLess y.toList s.toList=false):=by
     rcases O2 with h | ⟨y,hy⟩
     · exact .inl h
     · by_cases h0:k=0
       · exact .inl h0
       · cases hbl:Op.bytesLess y.toList s.toList
         · exact .inr (.inr ⟨h0,y,hy,hbl⟩)
         · exact .inr (.inl ⟨h0,y,hy,hbl⟩)
    clear O2
    rcases hord with h0 | ⟨h0,y,hy,hbl⟩ | ⟨h0,y,hy,hbl⟩
    · subst h0
      first|(guard_hyp jM0;obtain⟨H,hH⟩:∃ H,(eu xs s).isSome=H:=⟨_,rfl⟩)|(guard_hyp jM1;obtain⟨H,hH⟩:∃ H,(dX xs s).isSome=H:=⟨_,rfl⟩)|obtain⟨H,hH⟩:∃ H,(fJ xs s).isSome=H:=⟨_,rfl⟩
      go_wp2_with fail
      go_region
      go_wp2_with fail
      rw [hH] at Cz
      refine Calls.mono Cz.out ?_
      rintro e w3 ⟨rfl,hb3⟩
      have hB3:=hid (hB2.out.trans (hb3.mono hB2.out.size))
      have hk3:=hid ((hb3.cell (p:=⟨w.heap.size,0,none⟩) (block_lt_of_cell hk1.out)).trans hk1.out)
      clear hb3 Cz
      cases H
      · first|(guard_hyp jM0;have hst:=hid (mF (has:=fun s=>(eu xs s).isSome) Hf.out hnm (.inl rfl) hH))|(guard_hyp jM1;have hst:=hid (mF (has:=fun s=>(dX xs s).isSome) Hf.out hnm (.inl rfl) hH))|have hst:=hid (mF (has:=fun s=>(fJ xs s).isSome) Hf.out hnm (.inl rfl) hH)
        go_wp2
        go_roundw
        case rel=>exact⟨1,by omega,by go_num,by rw [← hst.out]; exact jP.out,hB3.out,hk3.out⟩
        case measure=>simp [intOf]; omega
      · have h7:=hid (show R=7 by rw [← jP.out]; exact yK Hf.out hnm (.inl rfl) hH)
        go_wp2
        go_ret
        exact⟨bU h7.out.symm,hB3.out⟩
    · obtain⟨b',off',hbo,yT,hp⟩:=(hx.below hB1.out).dF jQ Hl.out hy
      obtain⟨rfl,rfl⟩:b=b'∧off=off':=by simpa using hbo
      have p0:w1.cell? ⟨b,off+(k - 1)*1,none⟩=some (.string y):=hp 0 _ rfl
      rw [Nat.mul_one] at p0
      have hkp:decide ((0:Int)<(k:Int))=true:=decide_eq_true (by omega)
      have hkn:0<k:=by omega
      have hlt2:=iH y.toList s.toList
      have e1:(Op.bytesLess s.toList y.toList || s.toList == y.toList)=false:=by rw [← hlt2,hbl]; rfl
      first|(guard_hyp jM0;obtain⟨H,hH⟩:∃ H,(eu xs s).isSome=H:=⟨_,rfl⟩)|(guard_hyp jM1;obtain⟨H,hH⟩:∃ H,(dX xs s).isSome=H:=⟨_,rfl⟩)|obtain⟨H,hH⟩:∃ H,(fJ xs s).isSome=H:=⟨_,rfl⟩
      have Hy:=hid hy
      have HL:=hid hbl
      clear hp hlt2 hy hbl
      go_wp2_with fail
      go_region
      go_wp2_with fail
      rw [hH] at Cz
      refine Calls.mono Cz.out ?_
      rintro e w3 ⟨rfl,hb3⟩
      have hB3:=hid (hB2.out.trans (hb3.mono hB2.out.size))
      have hk3:=hid ((hb3.cell (p:=⟨w.heap.size,0,none⟩) (block_lt_of_cell hk1.out)).trans hk1.out)
      clear hb3 Cz
      cases H
      · first|(guard_hyp jM0;have hst:=hid (mF (has:=fun s=>(eu xs s).isSome) Hf.out hnm (.inr ⟨_,Hy.out,HL.out⟩) hH))|(guard_hyp jM1;have hst:=hid (mF (has:=fun s=>(dX xs s).isSome) Hf.out hnm (.inr ⟨_,Hy.out,HL.out⟩) hH))|have hst:=hid (mF (has:=fun s=>(fJ xs s).isSome) Hf.out hnm (.inr ⟨_,Hy.out,HL.out⟩) hH)
        go_wp2
        go_roundw
        case rel=>exact⟨k+1,by omega,by go_num,by rw [← hst.out]; exact jP.out,hB3.out,hk3.out⟩
        case measure=>simp [intOf]; omega
      · have h7:=hid (show R=7 by rw [← jP.out]; exact yK Hf.out hnm (.inr ⟨_,Hy.out,HL.out⟩) hH)
        go_wp2
        go_ret
        exact⟨bU h7.out.symm,hB3.out⟩
    · obtain⟨b',off',hbo,yT,hp⟩:=(hx.below hB1.out).dF jQ Hl.out hy
      obtain⟨rfl,rfl⟩:b=b'∧off=off':=by simpa using hbo
      have p0:w1.cell? ⟨b,off+(k - 1)*1,none⟩=some (.string y):=hp 0 _ rfl
      rw [Nat.mul_one] at p0
      have hkp:decide ((0:Int)<(k:Int))=true:=decide_eq_true (by omega)
      have hkn:0<k:=by omega
      have hlt2:=iH y.toList s.toList
      have e1:(Op.bytesLess s.toList y.toList || s.toList == y.toList)=true:=by rw [← hlt2,hbl]; rfl
      have h8:=hid (show R=8 by rw [← jP.out]; exact Fs Hf.out hnm h0 hy hbl)
      clear hp hlt2 Cz hy hbl
      go_wp2
      go_region
      go_wp2
      go_ret
      exact⟨bU h8.out.symm,hB2.out⟩
  · have h0:=hid (show R=0 by rw [← jP.out]; exact KG (by rw [Hl.out]; omega) _)
    clear hb hx
    go_wp2
    go_ret
    exact⟨bU h0.out.symm,Hb.out⟩)
structure eW where
 aj:Option Addr
 nj:Nat
 cj:Nat
 an:Option Addr
 nn:Nat
 cn:Nat
 al:Option Addr
 nl:Nat
 cl:Nat
 agj:Option Addr
 ngj:Nat
 cgj:Nat
 agn:Option Addr
 ngn:Nat
 cgn:Nat
 agl:Option Addr
 ngl:Nat
 cgl:Nat
def dC (d:aK) (x:eW):Array Value:=#[.int .i64 d.from_,.int .i64 d.to_,.slice x.aj x.nj x.cj,.slice x.an x.nn x.cn,.slice x.al x.nl x.cl,.slice x.agj x.ngj x.cgj,.slice x.agn x.ngn x.cgn,.slice x.agl x.ngl x.cgl]
structure dM (w:World) (B:Nat) (d:aK) (x:eW):Prop where
 j:aQ w B 5 x.aj x.nj (au aH d.jobs)
 n:aQ w B 3 x.an x.nn (au aI d.nodes)
 l:aQ w B 3 x.al x.nl (au aE d.leases)
 gj:aQ w B 1 x.agj x.ngj (au mN d.gj)
 gn:aQ w B 1 x.agn x.ngn (au mN d.gn)
 gl:aQ w B 1 x.agl x.ngl (au mN d.gl)
 lj:d.jobs.length=x.nj
 ln:d.nodes.length=x.nn
 ll:d.leases.length=x.nl
 lgj:d.gj.length=x.ngj
 lgn:d.gn.length=x.ngn
 lgl:d.gl.length=x.ngl
 bj:x.nj≤9223372036854775807
 bn:x.nn≤9223372036854775807
 bl:x.nl≤9223372036854775807
 bgj:x.ngj≤9223372036854775807
 bgn:x.ngn≤9223372036854775807
 bgl:x.ngl≤9223372036854775807
 oj:nP d.jobs
 on_:kX d.nodes
 ol:ji d.leases
 ogj:l8 d.gj
 ogn:l8 d.gn
 ogl:l8 d.gl
theorem dM.below {w w':World} {B:Nat} {d:aK} {x:eW} (h:dM w B d x) (hb:Below B w w'):dM w' B d x:=
 { h with j:=h.j.below hb,n:=h.n.below hb,l:=h.l.below hb,gj:=h.gj.below hb,gn:=h.gn.below hb,gl:=h.gl.below hb }
theorem dM.more {w:World} {B B':Nat} {d:aK} {x:eW} (h:dM w B d x) (hB:B≤B'):dM w B' d x:=
 { h with j:=h.j.more hB,n:=h.n.more hB,l:=h.l.more hB,gj:=h.gj.more hB,gn:=h.gn.more hB,gl:=h.gl.more hB }
theorem dM.up {w w':World} {d:aK} {x:eW} (h:dM w w.heap.size d x) (hb:Below w.heap.size w w'):dM w' w'.heap.size d x:=(h.below hb).more hb.size
def dV (S:Nat) (x:eW) (e0 e1 e2 e3 e4 e5:Int):Nat→Value→World→Prop
 | 0,u,_=>u = .pointer (some ⟨S,2,none⟩)
 | 1,u,_=>u = .slice x.aj x.nj x.cj
 | 2,u,_=>u = .int .i64 e0
 | 3,u,_=>u = .pointer (some ⟨S,3,none⟩)
 | 4,u,_=>u = .slice x.an x.nn x.cn
 | 5,u,_=>u = .int .i64 e1
 | 6,u,_=>u = .pointer (some ⟨S,4,none⟩)
 | 7,u,_=>u = .slice x.al x.nl x.cl
 | 8,u,_=>u = .int .i64 e2
 | 9,u,_=>u = .pointer (some ⟨S,5,none⟩)
 | 10,u,_=>u = .slice x.agj x.ngj x.cgj
 | 11,u,_=>u = .pointer (some ⟨S,2,none⟩)
 | 12,u,_=>u = .slice x.aj x.nj x.cj
 | 13,u,_=>u = .int .i64 e3
 | 14,u,_=>u = .pointer (some ⟨S,6,none⟩)
 | 15,u,_=>u = .slice x.agn x.ngn x.cgn
 | 16,u,_=>u = .pointer (some ⟨S,3,none⟩)
 | 17,u,_=>u = .slice x.an x.nn x.cn
 | 18,u,_=>u = .int .i64 e4
 | 19,u,_=>u = .pointer (some ⟨S,7,none⟩)
 | 20,u,_=>u = .slice x.agl x.ngl x.cgl
 | 21,u,_=>u = .pointer (some ⟨S,4,none⟩)
 | 22,u,_=>u = .slice x.al x.nl x.cl
 | 23,u,_=>u = .int .i64 e5
 | 24,u,w=>∃ b,u = .slice (some ⟨b,0,none⟩) 6 6∧b<w.heap.size∧dw w b 0 [.int .i64 e0,.int .i64 e1,.int .i64 e2,.int .i64 e3,.int .i64 e4,.int .i64 e5]
 | 25,u,_=>u = .int .i64 6
 | _,u,_=>u = .int .i64 0
theorem Jl (S:Nat) (x:eW) (e0 e1 e2 e3 e4 e5:Int) (i:Nat) (u:Value) (w w':World) (h:dV S x e0 e1 e2 e3 e4 e5 i u w) (hw:Ext w w'):dV S x e0 e1 e2 e3 e4 e5 i u w':=by
 unfold dV at *
 split at h
 case h_25=>obtain⟨b,e,hb,h0⟩:=h; exact⟨b,e,Nat.lt_of_lt_of_le hb hw.size,h0.below hw hb⟩
 all_goals exact h
def yO (d:aK) (w:World) (e:Ending) (w':World):Prop:=e = .returned (.int .i64 (cW d))∧Below w.heap.size w w'
theorem yO.mk' {d:aK} {w w':World} {E:Int} (h:cW d=E) (hb:Below w.heap.size w w'):yO d w (.returned (.int .i64 E)) w':=⟨by rw [h],hb⟩
theorem CA {d:aK} (h:kI d=false):cW d=1:=by unfold cW; rw [if_pos h]
theorem zo {d:aK} (h:kI d=true) (h2:jR d=false):cW d=2:=by unfold cW; rw [if_neg (by rw [h]; simp),if_pos h2]
theorem Ii {d:aK} (h:kI d=true) (h2:jR d=true):cW d=iF (wV d):=by unfold cW; rw [if_neg (by rw [h]; simp),if_neg (by rw [h2]; simp)]
def mx (a b:Int):Int:=if a<b then b else a
theorem Lk (ats:Array TypeId) (t:TypeId) (a b:Int) (W:World):(Builtin.max_ ats t #[.int .i64 a,.int .i64 b]).run Tryz.prog W = .ok (.int .i64 (mx a b)) W:=rfl
theorem Ll (ats:Array TypeId) (t:TypeId) (a b c d:Int) (W:World):(Builtin.max_ ats t #[.int .i64 a,.int .i64 b,.int .i64 c,.int .i64 d]).run Tryz.prog W = .ok (.int .i64 (mx (mx (mx a b) c) d)) W:=rfl
theorem xg {a b n:Int}:n<mx a b↔n<a∨n<b:=by unfold mx; split <;> omega
theorem yN (d:aK) (x:eW) (w:World) (hD:dM w w.heap.size d x) (hT:Tabs w) (hf1 : -9223372036854775808≤d.from_) (hf2:d.from_≤9223372036854775807) :
 Calls Tryz.prog 47 #[.agg (dC d x)] w (yO d w):=by
 have hb1:Below w.heap.size w (w.alloc (.cells (dC d x) 48)):=(Below.refl _ _).alloc (Nat.le_refl _) _
 have hB1:Blk (w.alloc (.cells (dC d x) 48)) w.heap.size 48 (dC d x):=heap_alloc_new w _
 have HD:=hid (hD.up hb1)
 have HT:=hid (hT.below hb1)
 have Hb1:=hid hb1
 have HB1:=hid hB1
 have hfin:=hid (fun (E:Int) (h:cW d=E) w'=>yO.mk' (w:=w) (w':=w') h)
 have hlj:=hD.lj
 have hln:=hD.ln
 have hll:=hD.ll
 have hlgj:=hD.lgj
 have hlgn:=hD.lgn
 have hlgl:=hD.lgl
 have hbj:=hD.bj
 have hbn:=hD.bn
 have hbl:=hD.bl
 have hbgj:=hD.bgj
 have hbgn:=hD.bgn
 have hbgl:=hD.bgl
 clear hb1 hB1 hD hT
 unfold dC at *
 go_enter Tryz.func47,Tryz.ntmps47
 go_wp2_with fail
 refine Calls.mono (qN _ _ _ _) ?_
 rintro e w0 ⟨rfl,rfl⟩
 cases hr:ranged d.from_ 0 1099511627776
 · have hend:=hid (hfin.out 1 (CA (by unfold kI; rw [hr]; rfl)) _ Hb1.out)
   go_wp2
   go_ret
   exact hend.out
 have hr1:=aZ.1 hr
 go_wp2_with fail
 refine Calls.mono (qN _ _ _ _) ?_
 rintro e w0 ⟨rfl,rfl⟩
 cases hr2:ranged d.to_ (d.from_+1) 1099511627776
 · have hend:=hid (hfin.out 1 (CA (by
    have:=mW.1 hr2
    unfold kI
    rw [hr]
    by_cases h:d.from_<d.to_
    · rw [decide_eq_true h,decide_eq_false (by omega)]; rfl
    · rw [decide_eq_false h]; rfl)) _ Hb1.out)
   go_wp2
   go_ret
   exact hend.out
 have hr3:=aZ.1 hr2
 have Lm:=hid (show kI d=true by unfold kI; rw [hr,decide_eq_true (by omega),decide_eq_true (by omega)]; rfl)
 clear hr hr2
 have hm2:=fun ats t a b W=>Lk ats t a b W
 have hm4:=fun ats t a b c d W=>Ll ats t a b c d W
 by_cases s1:x.nj≤40∧x.nl≤40∧x.ngj≤40∧x.ngl≤40
 rotate_left
 · have hend:=hid (hfin.out 2 (zo Lm.out (by unfold jR; rw [hlj,hll,hlgj,hlgl]; by_cases q1:x.nj≤40 <;> by_cases q2:x.nl≤40 <;> by_cases q3:x.ngj≤40 <;> by_cases q4:x.ngl≤40 <;> simp [q1,q2,q3,q4] <;> omega)) _ Hb1.out)
   have d1:decide ((40:Int)<mx (mx (mx (x.nj:Int) (x.nl:Int)) (x.ngj:Int)) (x.ngl:Int))=true:=decide_eq_true (by rw [xg,xg,xg]; omega)
   go_wp2
   go_ret
   exact hend.out
 have d1:decide ((40:Int)<mx (mx (mx (x.nj:Int) (x.nl:Int)) (x.ngj:Int)) (x.ngl:Int))=false:=decide_eq_false (by rw [xg,xg,xg]; omega)
 by_cases s2:x.nn≤20∧x.ngn≤20
 rotate_left
 · have hend:=hid (hfin.out 2 (zo Lm.out (by unfold jR; rw [hln,hlgn]; by_cases q1:x.nn≤20 <;> by_cases q2:x.ngn≤20 <;> simp [q1,q2] <;> omega)) _ Hb1.out)
   have d2:decide ((20:Int)<mx (x.nn:Int) (x.ngn:Int))=true:=decide_eq_true (by rw [xg]; omega)
   go_wp2
   go_ret
   exact hend.out
 have d2:decide ((20:Int)<mx (x.nn:Int) (x.ngn:Int))=false:=decide_eq_false (by rw [xg]; omega)
 have O3:=hid (Ii Lm.out (show jR d=true by unfold jR; rw [hlj,hll,hlgj,hlgl,hln,hlgn]; simp; omega))
 go_wp2_with fail
 clear d1 d2 hm2 hm4 s1 s2
 generalize hw0:w.alloc (.cells #[.int .i64 d.from_,.int .i64 d.to_,.slice x.aj x.nj x.cj,.slice x.an x.nn x.cn,.slice x.al x.nl x.cl,.slice x.agj x.ngj x.cgj,.slice x.agn x.ngn x.cgn,.slice x.agl x.ngl x.cgl] 48)=w0 at HD HT Hb1 HB1 ⊢
 clear hw0
 have g2:=HB1.out.cell 2
 have g3:=HB1.out.cell 3
 have g4:=HB1.out.cell 4
 have g5:=HB1.out.cell 5
 have g6:=HB1.out.cell 6
 have g7:=HB1.out.cell 7
 simp only [List.getElem?_toArray,List.getElem?_cons_succ,List.getElem?_cons_zero] at g2 g3 g4 g5 g6 g7
 obtain⟨e0,he0⟩:∃ e,bM eZ aB.name d.jobs=e:=⟨_,rfl⟩
 have HE0:=hid he0
 obtain⟨e1,he1⟩:∃ e,bM eV av.name d.nodes=e:=⟨_,rfl⟩
 have HE1:=hid he1
 obtain⟨e2,he2⟩:∃ e,bM lsE ak.job d.leases=e:=⟨_,rfl⟩
 have HE2:=hid he2
 obtain⟨e3,he3⟩:∃ e,nE (fun s=>(eu d.jobs s).isSome) d.gj=e:=⟨_,rfl⟩
 have HE3:=hid he3
 obtain⟨e4,he4⟩:∃ e,nE (fun s=>(dX d.nodes s).isSome) d.gn=e:=⟨_,rfl⟩
 have HE4:=hid he4
 obtain⟨e5,he5⟩:∃ e,nE (fun s=>(fJ d.leases s).isSome) d.gl=e:=⟨_,rfl⟩
 have HE5:=hid he5
 have tX:=hid (show cW d=iF [e0,e1,e2,e3,e4,e5] by rw [O3.out]; unfold wV; rw [he0,he1,he2,he3,he4,he5])
 clear he0 he1 he2 he3 he4 he5 O3
 refine eO (n:=78) (by kernel_rfl) (dV w.heap.size x e0 e1 e2 e3 e4 e5) (by decide +kernel) rfl (Jl _ _ _ _ _ _ _ _) ?_ ?_
 · refine⟨?_,?_,?_,?_,?_,?_,?_,?_,?_,?_,?_,?_,?_,?_,?_,?_,?_,?_,?_,?_,?_,?_,?_,?_,?_,?_,?_,trivial⟩
   all_goals (intro a wx hle hkeep cH; refine⟨rfl,?_⟩)
   · have h1:=hkeep 1 _ rfl (by decide +kernel)
     simp [go_sem,Oper.wp,execOp,Act.eval,h1]
     exact⟨_,rfl,Below.refl _ _,rfl⟩
   · obtain⟨u1,h1,r1⟩:=cH 0 _ 44 rfl rfl (by decide +kernel)
     replace r1:u1=_:=r1
     subst r1
     have hc:=fG g2 hle
     simp [go_sem,Oper.wp,execOp,Act.eval,h1,hc]
     exact⟨_,rfl,Below.refl _ _,rfl⟩
   · obtain⟨u1,h1,r1⟩:=cH 1 _ 45 rfl rfl (by decide +kernel)
     replace r1:u1=_:=r1
     subst r1
     simp [go_sem,Oper.wp,execOp,Act.eval,h1]
     have hD:=(HD.out.below hle).more hle.size
     have hT:=HT.out.below hle
     refine (lB.1 d.jobs x.aj x.nj x.cj wx (hD.j) hD.lj hD.bj hD.oj hT).mono ?_
     rintro e w' ⟨rfl,hb⟩
     exact⟨_,rfl,hb,congrArg (Value.int .i64) HE0.out⟩
   · have h1:=hkeep 1 _ rfl (by decide +kernel)
     simp [go_sem,Oper.wp,execOp,Act.eval,h1]
     exact⟨_,rfl,Below.refl _ _,rfl⟩
   · obtain⟨u1,h1,r1⟩:=cH 3 _ 47 rfl rfl (by decide +kernel)
     replace r1:u1=_:=r1
     subst r1
     have hc:=fG g3 hle
     simp [go_sem,Oper.wp,execOp,Act.eval,h1,hc]
     exact⟨_,rfl,Below.refl _ _,rfl⟩
   · obtain⟨u1,h1,r1⟩:=cH 4 _ 48 rfl rfl (by decide +kernel)
     replace r1:u1=_:=r1
     subst r1
     simp [go_sem,Oper.wp,execOp,Act.eval,h1]
     have hD:=(HD.out.below hle).more hle.size
     have hT:=HT.out.below hle
     refine (lB.2 d.nodes x.an x.nn x.cn wx (hD.n) hD.ln hD.bn hD.on_ hT).mono ?_
     rintro e w' ⟨rfl,hb⟩
     exact⟨_,rfl,hb,congrArg (Value.int .i64) HE1.out⟩
   · have h1:=hkeep 1 _ rfl (by decide +kernel)
     simp [go_sem,Oper.wp,execOp,Act.eval,h1]
     exact⟨_,rfl,Below.refl _ _,rfl⟩
   · obtain⟨u1,h1,r1⟩:=cH 6 _ 50 rfl rfl (by decide +kernel)
     replace r1:u1=_:=r1
     subst r1
     have hc:=fG g4 hle
     simp [go_sem,Oper.wp,execOp,Act.eval,h1,hc]
     exact⟨_,rfl,Below.refl _ _,rfl⟩
   · obtain⟨u1,h1,r1⟩:=cH 7 _ 51 rfl rfl (by decide +kernel)
     replace r1:u1=_:=r1
     subst r1
     simp [go_sem,Oper.wp,execOp,Act.eval,h1]
     have hD:=(HD.out.below hle).more hle.size
     have hT:=HT.out.below hle
     refine (zq d.leases x.al x.nl x.cl wx (hD.l) hD.ll hD.bl hD.ol hT).mono ?_
     rintro e w' ⟨rfl,hb⟩
     exact⟨_,rfl,hb,congrArg (Value.int .i64) HE2.out⟩
   · have h1:=hkeep 1 _ rfl (by decide +kernel)
     simp [go_sem,Oper.wp,execOp,Act.eval,h1]
     exact⟨_,rfl,Below.refl _ _,rfl⟩
   · obtain⟨u1,h1,r1⟩:=cH 9 _ 53 rfl rfl (by decide +kernel)
     replace r1:u1=_:=r1
     subst r1
     have hc:=fG g5 hle
     simp [go_sem,Oper.wp,execOp,Act.eval,h1,hc]
     exact⟨_,rfl,Below.refl _ _,rfl⟩
   · have h1:=hkeep 1 _ rfl (by decide +kernel)
     simp [go_sem,Oper.wp,execOp,Act.eval,h1]
     exact⟨_,rfl,Below.refl _ _,rfl⟩
   · obtain⟨u1,h1,r1⟩:=cH 11 _ 55 rfl rfl (by decide +kernel)
     replace r1:u1=_:=r1
     subst r1
     have hc:=fG g2 hle
     simp [go_sem,Oper.wp,execOp,Act.eval,h1,hc]
     exact⟨_,rfl,Below.refl _ _,rfl⟩
   · obtain⟨u1,h1,r1⟩:=cH 10 _ 54 rfl rfl (by decide +kernel)
     replace r1:u1=_:=r1
     subst r1
     obtain⟨u2,h2,rfl⟩:=cH 12 _ 56 rfl rfl (by decide +kernel)
     simp [go_sem,Oper.wp,execOp,Act.eval,h1,h2]
     have hD:=(HD.out.below hle).more hle.size
     have hT:=HT.out.below hle
     refine (nW.1 d.gj d.jobs x.agj x.aj x.ngj x.cgj x.nj x.cj wx hD.gj hD.lgj hD.bgj hD.ogj hD.j hD.lj hD.bj hT).mono ?_
     rintro e w' ⟨rfl,hb⟩
     exact⟨_,rfl,hb,congrArg (Value.int .i64) HE3.out⟩
   · have h1:=hkeep 1 _ rfl (by decide +kernel)
     simp [go_sem,Oper.wp,execOp,Act.eval,h1]
     exact⟨_,rfl,Below.refl _ _,rfl⟩
   · obtain⟨u1,h1,r1⟩:=cH 14 _ 58 rfl rfl (by decide +kernel)
     replace r1:u1=_:=r1
     subst r1
     have hc:=fG g6 hle
     simp [go_sem,Oper.wp,execOp,Act.eval,h1,hc]
     exact⟨_,rfl,Below.refl _ _,rfl⟩
   · have h1:=hkeep 1 _ rfl (by decide +kernel)
     simp [go_sem,Oper.wp,execOp,Act.eval,h1]
     exact⟨_,rfl,Below.refl _ _,rfl⟩
   · obtain⟨u1,h1,r1⟩:=cH 16 _ 60 rfl rfl (by decide +kernel)
     replace r1:u1=_:=r1
     subst r1
     have hc:=fG g3 hle
     simp [go_sem,Oper.wp,execOp,Act.eval,h1,hc]
     exact⟨_,rfl,Below.refl _ _,rfl⟩
   · obtain⟨u1,h1,r1⟩:=cH 15 _ 59 rfl rfl (by decide +kernel)
     replace r1:u1=_:=r1
     subst r1
     obtain⟨u2,h2,rfl⟩:=cH 17 _ 61 rfl rfl (by decide +kernel)
     simp [go_sem,Oper.wp,execOp,Act.eval,h1,h2]
     have hD:=(HD.out.below hle).more hle.size
     have hT:=HT.out.below hle
     refine (nW.2.1 d.gn d.nodes x.agn x.an x.ngn x.cgn x.nn x.cn wx hD.gn hD.lgn hD.bgn hD.ogn hD.n hD.ln hD.bn hT).mono ?_
     rintro e w' ⟨rfl,hb⟩
     exact⟨_,rfl,hb,congrArg (Value.int .i64) HE4.out⟩
   · have h1:=hkeep 1 _ rfl (by decide +kernel)
     simp [go_sem,Oper.wp,execOp,Act.eval,h1]
     exact⟨_,rfl,Below.refl _ _,rfl⟩
   · obtain⟨u1,h1,r1⟩:=cH 19 _ 63 rfl rfl (by decide +kernel)
     replace r1:u1=_:=r1
     subst r1
     have hc:=fG g7 hle
     simp [go_sem,Oper.wp,execOp,Act.eval,h1,hc]
     exact⟨_,rfl,Below.refl _ _,rfl⟩
   · have h1:=hkeep 1 _ rfl (by decide +kernel)
     simp [go_sem,Oper.wp,execOp,Act.eval,h1]
     exact⟨_,rfl,Below.refl _ _,rfl⟩
   · obtain⟨u1,h1,r1⟩:=cH 21 _ 65 rfl rfl (by decide +kernel)
     replace r1:u1=_:=r1
     subst r1
     have hc:=fG g4 hle
     simp [go_sem,Oper.wp,execOp,Act.eval,h1,hc]
     exact⟨_,rfl,Below.refl _ _,rfl⟩
   · obtain⟨u1,h1,r1⟩:=cH 20 _ 64 rfl rfl (by decide +kernel)
     replace r1:u1=_:=r1
     subst r1
     obtain⟨u2,h2,rfl⟩:=cH 22 _ 66 rfl rfl (by decide +kernel)
     simp [go_sem,Oper.wp,execOp,Act.eval,h1,h2]
     have hD:=(HD.out.below hle).more hle.size
     have hT:=HT.out.below hle
     refine (nW.2.2 d.gl d.leases x.agl x.al x.ngl x.cgl x.nl x.cl wx hD.gl hD.lgl hD.bgl hD.ogl hD.l hD.ll hD.bl hT).mono ?_
     rintro e w' ⟨rfl,hb⟩
     exact⟨_,rfl,hb,congrArg (Value.int .i64) HE5.out⟩
   · obtain⟨u1,h1,r1⟩:=cH 2 _ 46 rfl rfl (by decide +kernel)
     replace r1:u1=_:=r1
     subst r1
     obtain⟨u2,h2,rfl⟩:=cH 5 _ 49 rfl rfl (by decide +kernel)
     obtain⟨u3,h3,rfl⟩:=cH 8 _ 52 rfl rfl (by decide +kernel)
     obtain⟨u4,h4,rfl⟩:=cH 13 _ 57 rfl rfl (by decide +kernel)
     obtain⟨u5,h5,rfl⟩:=cH 18 _ 62 rfl rfl (by decide +kernel)
     obtain⟨u6,h6,rfl⟩:=cH 23 _ 67 rfl rfl (by decide +kernel)
     simp [go_sem,Oper.wp,execOp,Act.eval,h1,h2,h3,h4,h5,h6]
     exact⟨_,rfl,(Below.refl _ _).alloc (Nat.le_refl _) _,wx.heap.size,rfl,by simp,dw.new wx _ _⟩
   · obtain⟨u1,h1,b,e1,-,-⟩:=cH 24 _ 68 rfl rfl (by decide +kernel)
     subst e1
     simp [go_sem,Oper.wp,execOp,Act.eval,h1]
     exact⟨_,rfl,Below.refl _ _,rfl⟩
   · simp [go_sem,Oper.wp,execOp,Act.eval]
     exact⟨_,rfl,Below.refl _ _,rfl⟩
 · intro a wx hd
   obtain⟨f,hfe,hf⟩:=hd.frame' [44,45,46,47,48,49,50,51,52,53,54,55,56,57,58,59,60,61,62,63,64,65,66,67,68,69,70] rfl
   obtain⟨b,r68,hbl,hrow⟩:∃ b,f 68=_∧_:=hf 24 _ 68 rfl rfl
   have r69:f 69=_:=hf 25 _ 69 rfl rfl
   have r70:f 70=_:=hf 26 _ 70 rfl rfl
   have Hle:=hid (Hb1.out.trans (hd.le.mono Hb1.out.size))
   clear hd hf
   subst hfe
   simp only [foldl_cons,foldl_nil,setIfInBounds_toArray,set_cons_succ,set_cons_zero,r68,r69,r70]
   clear r68 r69 r70
   obtain⟨es,hes⟩:∃ es,es=[e0,e1,e2,e3,e4,e5]:=⟨_,rfl⟩
   have hrow2:dw wx b 0 (es.map (Value.int .i64)):=by rw [hes]; exact hrow
   have hlen:es.length=6:=by rw [hes]; rfl
   have jP:=hid hrow2
   have HA:=hid (show cW d=iF es by rw [hes]; exact tX.out)
   clear hrow hrow2 hes tX HE0 HE1 HE2 HE3 HE4 HE5 g2 g3 g4 g5 g6 g7
   go_wp2_with fail
   go_loop [2,4,70] (fun _ _ i=>∃ k:Nat,k≤6∧i = .int .i64 k∧iF (es.drop k)=iF es) (fun _ _ i=>6 - (intOf i).toNat)
   case atStart=>exact⟨0,by omega,rfl,rfl⟩
   case round=>
    obtain⟨k,hk,rfl,hfe⟩:=hrel
    have Hfe:=hid hfe
    clear hfe
    by_cases hlt:k<6
    · obtain⟨e,he⟩:∃ e,es[k]? = some e:=⟨_,List.getElem?_eq_getElem (by omega)⟩
      have c0:wx.cell? ⟨b,0+k,none⟩=some (.int .i64 e):=jP.out k _ (by rw [List.getElem?_map,he]; rfl)
      rw [Nat.zero_add] at c0
      have hdc:=hid (drop_cons he)
      clear he
      by_cases h0:e=0
      · have hn:=hid (show iF (es.drop (k+1))=iF es by rw [← Hfe.out,hdc.out,gK h0])
        subst h0
        go_wp2
        go_round
        case rel=>exact⟨k+1,by omega,by go_num,hn.out⟩
        case measure=>simp [intOf]; omega
      · have hend:=hid (hfin.out e (by rw [HA.out,← Hfe.out,hdc.out,wW h0]) _ Hle.out)
        have e1':(e == 0)=false:=beq_eq_false_iff_ne.2 h0
        have e2':(e != 0)=true:=bne_iff_ne.2 h0
        go_wp2
        go_ret
        exact hend.out
    · have hend:=hid (hfin.out 0 (by rw [HA.out,← Hfe.out,List.drop_of_length_le (by omega)]; rfl) _ Hle.out)
      go_wp2
      go_ret
      exact hend.out
end Go.Proofs.YtcpgnjmaampglaaGreatDoor
