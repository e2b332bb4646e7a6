/- Of the proof of a statement: Has. -/
import Derived.Test.YtoeejfhdjmkpcaaGreatDoorTHasF
set_option linter.unusedVariables false
set_option linter.unusedSimpArgs false
set_option maxRecDepth 100000
set_option maxHeartbeats 8000000
/- The walks of slices.Index and Contains and of the reference's Has at rows of records. -/
namespace Go.Proofs.YtoeejfhdjmkpcaaGreatDoor
open Go.Lib (hid)
open Go.RowKit
noncomputable def eqB {α:Type} (x y:α):Bool:=@decide (x=y) (Classical.propDecidable _)
theorem BC {α:Type} {x y:α}:eqB x y=true↔x=y:=by unfold eqB; exact @decide_eq_true_iff _ (Classical.propDecidable _)
theorem AF {α:Type} {x y:α} {t:Bool} (h:t=true↔x=y):eqB x y=t:=by
 cases t with
 | true=>exact BC.2 (h.1 rfl)
 | false=>
  cases he:eqB x y with
  | false=>rfl
  | true=>exact absurd (h.2 (BC.1 he)) (by decide)
theorem F0 (v:aD) (xs:List aD) (A:Option Addr) (n c:Nat) (w:World) (hx:aW w w.heap.size 5 A n (au aL xs)) (hl:xs.length=n) (hn:n≤9223372036854775807) :
 Calls Tryz.prog 347 #[.slice A n c,.agg (aL v).toArray] w (rz (eqB v) xs w):=by
 have Hl:=hid hl
 have Hx:=hid hx
 clear hl hx
 obtain⟨cQ,iB,iC,fT,kO⟩:=v
 rw [show (Value.agg (aL ⟨cQ,iB,iC,fT,kO⟩).toArray) = .agg #[.string cQ,.int .i64 iB,.int .i64 iC,.int .i64 fT,.string kO] from rfl]
 have Hb0:=hid (show Below w.heap.size w (w.alloc (.cells #[.string cQ,.int .i64 iB,.int .i64 iC,.int .i64 fT,.string kO] 34)) from (Below.refl _ _).alloc (Nat.le_refl _) _)
 have HB0:=hid (show Blk (w.alloc (.cells #[.string cQ,.int .i64 iB,.int .i64 iC,.int .i64 fT,.string kO] 34)) w.heap.size 34 #[.string cQ,.int .i64 iB,.int .i64 iC,.int .i64 fT,.string kO] from heap_alloc_new w _)
 go_enter Tryz.func347,Tryz.ntmps347
 go_wp2
 go_loopw [5,8] (fun _ i wr=>vU (eqB ⟨cQ,iB,iC,fT,kO⟩) xs n w i wr∧Blk wr w.heap.size 34 #[.string cQ,.int .i64 iB,.int .i64 iC,.int .i64 fT,.string kO]) (fun _ i _=>n - (intOf i).toNat)
 case atStart=>exact⟨⟨0,Nat.zero_le _,rfl,by simp,Hb0.out⟩,HB0.out⟩
 case round=>
  clear Hb0 HB0
  obtain⟨⟨k,hk,rfl,hnone,hb⟩,hB⟩:=hrel
  have cX:=hid hnone
  have Hb:=hid hb
  have HB:=hid hB
  have hsz:=hb.size
  have hBl:=hB.lt
  clear hnone
  by_cases hlt:k<n
  · obtain⟨y,hf⟩:∃ y,xs[k]? = some y:=⟨_,List.getElem?_eq_getElem (by rw [Hl.out]; exact hlt)⟩
    obtain⟨b,off,rfl,hbB,hc⟩:=(Hx.out.below hb).cV aT Hl.out hf
    have Hf:=hid hf
    obtain⟨bM,eI,eJ,dw,gO⟩:=y
    have c0:wr.cell? ⟨b,off+k*5,none⟩=some (.string bM):=hc 0 _ rfl
    have d0:wr.cell? ⟨w.heap.size,0,none⟩=some (.string cQ):=hB.cell 0
    have c1:wr.cell? ⟨b,off+k*5+1,none⟩=some (.int .i64 eI):=hc 1 _ rfl
    have d1:wr.cell? ⟨w.heap.size,1,none⟩=some (.int .i64 iB):=hB.cell 1
    have c2:wr.cell? ⟨b,off+k*5+2,none⟩=some (.int .i64 eJ):=hc 2 _ rfl
    have d2:wr.cell? ⟨w.heap.size,2,none⟩=some (.int .i64 iC):=hB.cell 2
    have c3:wr.cell? ⟨b,off+k*5+3,none⟩=some (.int .i64 dw):=hc 3 _ rfl
    have d3:wr.cell? ⟨w.heap.size,3,none⟩=some (.int .i64 fT):=hB.cell 3
    have c4:wr.cell? ⟨b,off+k*5+4,none⟩=some (.string gO):=hc 4 _ rfl
    have d4:wr.cell? ⟨w.heap.size,4,none⟩=some (.string kO):=hB.cell 4
    obtain⟨t,ht,-,hrun⟩:=tV cQ bM kO gO iB eI iC eJ fT dw
    have hq:=AF ht
    have uo:=hid (fun (h:t=true)=>og (p:=eqB ⟨cQ,iB,iC,fT,kO⟩) Hf.out (hq.trans h))
    have ny:=hid (fun (h:t=false)=>lW (p:=eqB ⟨cQ,iB,iC,fT,kO⟩) Hf.out cX.out (hq.trans h))
    have hlb:b<wr.heap.size:=by omega
    clear hc hf hb hB ht hq
    cases t
    · have fin:=hid (ny.out rfl)
      clear uo ny
      have Hb2:=hid Hb.out.drew
      have HB2:=hid (show Blk wr.drew w.heap.size 34 #[.string cQ,.int .i64 iB,.int .i64 iC,.int .i64 fT,.string kO] from HB.out)
      go_wp2
      go_region
      go_wp2
      go_roundw
      case rel=>exact⟨⟨k+1,by omega,by go_num,fin.out,Hb2.out⟩,HB2.out⟩
      case measure=>simp [intOf]; omega
    · have fin:=hid (uo.out rfl)
      clear uo ny
      have Hb2:=hid Hb.out.drew
      go_wp2
      go_region
      go_wp2
      go_ret
      exact⟨_,rfl,Hb2.out,.inr ⟨by omega,fin.out⟩⟩
  · have fin:=hid (oh cX.out (by rw [Hl.out]; omega))
    clear hb hB
    go_wp2
    go_ret
    exact⟨_,rfl,Hb.out,.inl ⟨rfl,fin.out⟩⟩
theorem FK (v:aD) (xs:List aD) (A:Option Addr) (n c:Nat) (w:World) (hx:aW w w.heap.size 5 A n (au aL xs)) (hl:xs.length=n) (hn:n≤9223372036854775807) :
 Calls Tryz.prog 246 #[.slice A n c,.agg (aL v).toArray] w fun e w'=>e = .returned (.bool (xs.any (eqB v)))∧Below w.heap.size w w':=by
 have hb1:Below w.heap.size w (w.alloc (.cells (aL v).toArray 34)):=(Below.refl _ _).alloc (Nat.le_refl _) _
 have hC:=F0 v xs A n c _ ((hx.below hb1).more hb1.size) hl hn
 have Hb1:=hid hb1
 have hC:=hid hC
 clear hx hl hn hb1
 obtain⟨cQ,iB,iC,fT,kO⟩:=v
 rw [show (aL ⟨cQ,iB,iC,fT,kO⟩).toArray=#[.string cQ,.int .i64 iB,.int .i64 iC,.int .i64 fT,.string kO] from rfl] at hC Hb1 ⊢
 go_enter Tryz.func246,Tryz.ntmps246
 go_wp2_with fail
 refine Calls.mono hC.out ?_
 rintro e w2 ⟨i,rfl,hb2,hcase⟩
 have Hb2:=hid (Hb1.out.trans (hb2.mono Hb1.out.size))
 rcases hcase with ⟨rfl,hn⟩ | ⟨hi,hn⟩
 · go_wp2
   go_ret
   exact⟨cT hn.symm,Hb2.out⟩
 · have d0:decide (0≤i)=true:=decide_eq_true hi
   go_wp2
   go_ret
   exact⟨cT hn.symm,Hb2.out⟩
theorem D9 (v:aA) (xs:List aA) (A:Option Addr) (n c:Nat) (w:World) (hx:aW w w.heap.size 3 A n (au aC xs)) (hl:xs.length=n) (hn:n≤9223372036854775807) :
 Calls Tryz.prog 349 #[.slice A n c,.agg (aC v).toArray] w (rz (eqB v) xs w):=by
 have Hl:=hid hl
 have Hx:=hid hx
 clear hl hx
 obtain⟨cQ,iD,iE⟩:=v
 rw [show (Value.agg (aC ⟨cQ,iD,iE⟩).toArray) = .agg #[.string cQ,.int .i64 iD,.string iE] from rfl]
 have Hb0:=hid (show Below w.heap.size w (w.alloc (.cells #[.string cQ,.int .i64 iD,.string iE] 36)) from (Below.refl _ _).alloc (Nat.le_refl _) _)
 have HB0:=hid (show Blk (w.alloc (.cells #[.string cQ,.int .i64 iD,.string iE] 36)) w.heap.size 36 #[.string cQ,.int .i64 iD,.string iE] from heap_alloc_new w _)
 go_enter Tryz.func349,Tryz.ntmps349
 go_wp2
 go_loopw [5,8] (fun _ i wr=>vU (eqB ⟨cQ,iD,iE⟩) xs n w i wr∧Blk wr w.heap.size 36 #[.string cQ,.int .i64 iD,.string iE]) (fun _ i _=>n - (intOf i).toNat)
 case atStart=>exact⟨⟨0,Nat.zero_le _,rfl,by simp,Hb0.out⟩,HB0.out⟩
 case round=>
  clear Hb0 HB0
  obtain⟨⟨k,hk,rfl,hnone,hb⟩,hB⟩:=hrel
  have cX:=hid hnone
  have Hb:=hid hb
  have HB:=hid hB
  have hsz:=hb.size
  have hBl:=hB.lt
  clear hnone
  by_cases hlt:k<n
  · obtain⟨y,hf⟩:∃ y,xs[k]? = some y:=⟨_,List.getElem?_eq_getElem (by rw [Hl.out]; exact hlt)⟩
    obtain⟨b,off,rfl,hbB,hc⟩:=(Hx.out.below hb).cV aM Hl.out hf
    have Hf:=hid hf
    obtain⟨bM,eL,eK⟩:=y
    have c0:wr.cell? ⟨b,off+k*3,none⟩=some (.string bM):=hc 0 _ rfl
    have d0:wr.cell? ⟨w.heap.size,0,none⟩=some (.string cQ):=hB.cell 0
    have c1:wr.cell? ⟨b,off+k*3+1,none⟩=some (.int .i64 eL):=hc 1 _ rfl
    have d1:wr.cell? ⟨w.heap.size,1,none⟩=some (.int .i64 iD):=hB.cell 1
    have c2:wr.cell? ⟨b,off+k*3+2,none⟩=some (.string eK):=hc 2 _ rfl
    have d2:wr.cell? ⟨w.heap.size,2,none⟩=some (.string iE):=hB.cell 2
    obtain⟨t,ht,-,hrun⟩:=qY cQ bM iE eK iD eL
    have hq:=AF ht
    have uo:=hid (fun (h:t=true)=>og (p:=eqB ⟨cQ,iD,iE⟩) Hf.out (hq.trans h))
    have ny:=hid (fun (h:t=false)=>lW (p:=eqB ⟨cQ,iD,iE⟩) Hf.out cX.out (hq.trans h))
    have hlb:b<wr.heap.size:=by omega
    clear hc hf hb hB ht hq
    cases t
    · have fin:=hid (ny.out rfl)
      clear uo ny
      have Hb2:=hid Hb.out.drew
      have HB2:=hid (show Blk wr.drew w.heap.size 36 #[.string cQ,.int .i64 iD,.string iE] from HB.out)
      go_wp2
      go_region
      go_wp2
      go_roundw
      case rel=>exact⟨⟨k+1,by omega,by go_num,fin.out,Hb2.out⟩,HB2.out⟩
      case measure=>simp [intOf]; omega
    · have fin:=hid (uo.out rfl)
      clear uo ny
      have Hb2:=hid Hb.out.drew
      go_wp2
      go_region
      go_wp2
      go_ret
      exact⟨_,rfl,Hb2.out,.inr ⟨by omega,fin.out⟩⟩
  · have fin:=hid (oh cX.out (by rw [Hl.out]; omega))
    clear hb hB
    go_wp2
    go_ret
    exact⟨_,rfl,Hb.out,.inl ⟨rfl,fin.out⟩⟩
theorem DR (v:aA) (xs:List aA) (A:Option Addr) (n c:Nat) (w:World) (hx:aW w w.heap.size 3 A n (au aC xs)) (hl:xs.length=n) (hn:n≤9223372036854775807) :
 Calls Tryz.prog 249 #[.slice A n c,.agg (aC v).toArray] w fun e w'=>e = .returned (.bool (xs.any (eqB v)))∧Below w.heap.size w w':=by
 have hb1:Below w.heap.size w (w.alloc (.cells (aC v).toArray 36)):=(Below.refl _ _).alloc (Nat.le_refl _) _
 have hC:=D9 v xs A n c _ ((hx.below hb1).more hb1.size) hl hn
 have Hb1:=hid hb1
 have hC:=hid hC
 clear hx hl hn hb1
 obtain⟨cQ,iD,iE⟩:=v
 rw [show (aC ⟨cQ,iD,iE⟩).toArray=#[.string cQ,.int .i64 iD,.string iE] from rfl] at hC Hb1 ⊢
 go_enter Tryz.func249,Tryz.ntmps249
 go_wp2_with fail
 refine Calls.mono hC.out ?_
 rintro e w2 ⟨i,rfl,hb2,hcase⟩
 have Hb2:=hid (Hb1.out.trans (hb2.mono Hb1.out.size))
 rcases hcase with ⟨rfl,hn⟩ | ⟨hi,hn⟩
 · go_wp2
   go_ret
   exact⟨cT hn.symm,Hb2.out⟩
 · have d0:decide (0≤i)=true:=decide_eq_true hi
   go_wp2
   go_ret
   exact⟨cT hn.symm,Hb2.out⟩
theorem Cl (v:ak) (xs:List ak) (A:Option Addr) (n c:Nat) (w:World) (hx:aW w w.heap.size 3 A n (au av xs)) (hl:xs.length=n) (hn:n≤9223372036854775807) :
 Calls Tryz.prog 351 #[.slice A n c,.agg (av v).toArray] w (rz (eqB v) xs w):=by
 have Hl:=hid hl
 have Hx:=hid hx
 clear hl hx
 obtain⟨kP,iF,iG⟩:=v
 rw [show (Value.agg (av ⟨kP,iF,iG⟩).toArray) = .agg #[.string kP,.string iF,.int .i64 iG] from rfl]
 have Hb0:=hid (show Below w.heap.size w (w.alloc (.cells #[.string kP,.string iF,.int .i64 iG] 38)) from (Below.refl _ _).alloc (Nat.le_refl _) _)
 have HB0:=hid (show Blk (w.alloc (.cells #[.string kP,.string iF,.int .i64 iG] 38)) w.heap.size 38 #[.string kP,.string iF,.int .i64 iG] from heap_alloc_new w _)
 go_enter Tryz.func351,Tryz.ntmps351
 go_wp2
 go_loopw [5,8] (fun _ i wr=>vU (eqB ⟨kP,iF,iG⟩) xs n w i wr∧Blk wr w.heap.size 38 #[.string kP,.string iF,.int .i64 iG]) (fun _ i _=>n - (intOf i).toNat)
 case atStart=>exact⟨⟨0,Nat.zero_le _,rfl,by simp,Hb0.out⟩,HB0.out⟩
 case round=>
  clear Hb0 HB0
  obtain⟨⟨k,hk,rfl,hnone,hb⟩,hB⟩:=hrel
  have cX:=hid hnone
  have Hb:=hid hb
  have HB:=hid hB
  have hsz:=hb.size
  have hBl:=hB.lt
  clear hnone
  by_cases hlt:k<n
  · obtain⟨y,hf⟩:∃ y,xs[k]? = some y:=⟨_,List.getElem?_eq_getElem (by rw [Hl.out]; exact hlt)⟩
    obtain⟨b,off,rfl,hbB,hc⟩:=(Hx.out.below hb).cV aE Hl.out hf
    have Hf:=hid hf
    obtain⟨gP,eM,eN⟩:=y
    have c0:wr.cell? ⟨b,off+k*3,none⟩=some (.string gP):=hc 0 _ rfl
    have d0:wr.cell? ⟨w.heap.size,0,none⟩=some (.string kP):=hB.cell 0
    have c1:wr.cell? ⟨b,off+k*3+1,none⟩=some (.string eM):=hc 1 _ rfl
    have d1:wr.cell? ⟨w.heap.size,1,none⟩=some (.string iF):=hB.cell 1
    have c2:wr.cell? ⟨b,off+k*3+2,none⟩=some (.int .i64 eN):=hc 2 _ rfl
    have d2:wr.cell? ⟨w.heap.size,2,none⟩=some (.int .i64 iG):=hB.cell 2
    obtain⟨t,ht,-,hrun⟩:=oZ kP gP iF eM iG eN
    have hq:=AF ht
    have uo:=hid (fun (h:t=true)=>og (p:=eqB ⟨kP,iF,iG⟩) Hf.out (hq.trans h))
    have ny:=hid (fun (h:t=false)=>lW (p:=eqB ⟨kP,iF,iG⟩) Hf.out cX.out (hq.trans h))
    have hlb:b<wr.heap.size:=by omega
    clear hc hf hb hB ht hq
    cases t
    · have fin:=hid (ny.out rfl)
      clear uo ny
      have Hb2:=hid Hb.out.drew
      have HB2:=hid (show Blk wr.drew w.heap.size 38 #[.string kP,.string iF,.int .i64 iG] from HB.out)
      go_wp2
      go_region
      go_wp2
      go_roundw
      case rel=>exact⟨⟨k+1,by omega,by go_num,fin.out,Hb2.out⟩,HB2.out⟩
      case measure=>simp [intOf]; omega
    · have fin:=hid (uo.out rfl)
      clear uo ny
      have Hb2:=hid Hb.out.drew
      go_wp2
      go_region
      go_wp2
      go_ret
      exact⟨_,rfl,Hb2.out,.inr ⟨by omega,fin.out⟩⟩
  · have fin:=hid (oh cX.out (by rw [Hl.out]; omega))
    clear hb hB
    go_wp2
    go_ret
    exact⟨_,rfl,Hb.out,.inl ⟨rfl,fin.out⟩⟩
theorem B7 (v:ak) (xs:List ak) (A:Option Addr) (n c:Nat) (w:World) (hx:aW w w.heap.size 3 A n (au av xs)) (hl:xs.length=n) (hn:n≤9223372036854775807) :
 Calls Tryz.prog 252 #[.slice A n c,.agg (av v).toArray] w fun e w'=>e = .returned (.bool (xs.any (eqB v)))∧Below w.heap.size w w':=by
 have hb1:Below w.heap.size w (w.alloc (.cells (av v).toArray 38)):=(Below.refl _ _).alloc (Nat.le_refl _) _
 have hC:=Cl v xs A n c _ ((hx.below hb1).more hb1.size) hl hn
 have Hb1:=hid hb1
 have hC:=hid hC
 clear hx hl hn hb1
 obtain⟨kP,iF,iG⟩:=v
 rw [show (av ⟨kP,iF,iG⟩).toArray=#[.string kP,.string iF,.int .i64 iG] from rfl] at hC Hb1 ⊢
 go_enter Tryz.func252,Tryz.ntmps252
 go_wp2_with fail
 refine Calls.mono hC.out ?_
 rintro e w2 ⟨i,rfl,hb2,hcase⟩
 have Hb2:=hid (Hb1.out.trans (hb2.mono Hb1.out.size))
 rcases hcase with ⟨rfl,hn⟩ | ⟨hi,hn⟩
 · go_wp2
   go_ret
   exact⟨cT hn.symm,Hb2.out⟩
 · have d0:decide (0≤i)=true:=decide_eq_true hi
   go_wp2
   go_ret
   exact⟨cT hn.symm,Hb2.out⟩
end Go.Proofs.YtoeejfhdjmkpcaaGreatDoor
