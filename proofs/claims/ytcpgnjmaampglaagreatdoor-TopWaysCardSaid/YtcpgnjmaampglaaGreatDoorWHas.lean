/- Of the proof of a statement: Has, PlDiff, Fld. -/
import Derived.Test.YtcpgnjmaampglaaGreatDoorWEqRows
import Derived.Test.YtcpgnjmaampglaaGreatDoorWHasF
import Derived.Test.YtcpgnjmaampglaaGreatDoorWPlJson
set_option linter.unusedVariables false
set_option linter.unusedSimpArgs false
set_option maxRecDepth 100000
set_option maxHeartbeats 8000000
/- The walks of slices.Index and Contains and of the reference's Has at rows of records. -/
namespace Go.Proofs.YtcpgnjmaampglaaGreatDoor
open Go.Lib (hid)
open Go.RowKit
noncomputable def eqB {α:Type} (x y:α):Bool:=@decide (x=y) (Classical.propDecidable _)
theorem Ij {α:Type} {x y:α}:eqB x y=true↔x=y:=by unfold eqB; exact @decide_eq_true_iff _ (Classical.propDecidable _)
theorem PN {α:Type} {x y:α} {t:Bool} (h:t=true↔x=y):eqB x y=t:=by
 cases t with
 | true=>exact Ij.2 (h.1 rfl)
 | false=>
  cases he:eqB x y with
  | false=>rfl
  | true=>exact absurd (h.2 (Ij.1 he)) (by decide)
theorem vS :
 (∀ (v:aB) (xs:List aB) (A:Option Addr) (n c:Nat) (w:World) (hx:aQ w w.heap.size 5 A n (au aH xs)) (hl:xs.length=n) (hn:n≤9223372036854775807),Calls Tryz.prog 181 #[.slice A n c,.agg (aH v).toArray] w (vT (eqB v) xs w)) ∧
 (∀ (v:av) (xs:List av) (A:Option Addr) (n c:Nat) (w:World) (hx:aQ w w.heap.size 3 A n (au aI xs)) (hl:xs.length=n) (hn:n≤9223372036854775807),Calls Tryz.prog 183 #[.slice A n c,.agg (aI v).toArray] w (vT (eqB v) xs w)) ∧
 (∀ (v:ak) (xs:List ak) (A:Option Addr) (n c:Nat) (w:World) (hx:aQ w w.heap.size 3 A n (au aE xs)) (hl:xs.length=n) (hn:n≤9223372036854775807),Calls Tryz.prog 185 #[.slice A n c,.agg (aE v).toArray] w (vT (eqB v) xs w)):=by
 refine⟨@fun v xs A n c w hx hl hn=>(fun(jM0:Unit)=>?_) (),@fun v xs A n c w hx hl hn=>(fun(jM1:Unit)=>?_) (),@fun v xs A n c w hx hl hn=>(fun(jM2:Unit)=>?_) ()⟩<;>(
 have Hl:=hid hl
 have Hx:=hid hx
 clear hl hx
 first
  |(
   guard_hyp jM0
   obtain⟨dG,jy,jA,gP,mX⟩:=v
   rw [show (Value.agg (aH ⟨dG,jy,jA,gP,mX⟩).toArray) = .agg #[.string dG,.int .i64 jy,.int .i64 jA,.int .i64 gP,.string mX] from rfl]
   have Hb0:=hid (show Below w.heap.size w (w.alloc (.cells #[.string dG,.int .i64 jy,.int .i64 jA,.int .i64 gP,.string mX] 59)) from (Below.refl _ _).alloc (Nat.le_refl _) _)
   have HB0:=hid (show Blk (w.alloc (.cells #[.string dG,.int .i64 jy,.int .i64 jA,.int .i64 gP,.string mX] 59)) w.heap.size 59 #[.string dG,.int .i64 jy,.int .i64 jA,.int .i64 gP,.string mX] from heap_alloc_new w _))
  |(
   guard_hyp jM1
   obtain⟨dG,jB,jC⟩:=v
   rw [show (Value.agg (aI ⟨dG,jB,jC⟩).toArray) = .agg #[.string dG,.int .i64 jB,.string jC] from rfl]
   have Hb0:=hid (show Below w.heap.size w (w.alloc (.cells #[.string dG,.int .i64 jB,.string jC] 61)) from (Below.refl _ _).alloc (Nat.le_refl _) _)
   have HB0:=hid (show Blk (w.alloc (.cells #[.string dG,.int .i64 jB,.string jC] 61)) w.heap.size 61 #[.string dG,.int .i64 jB,.string jC] from heap_alloc_new w _))
  |(
   guard_hyp jM2
   obtain⟨mY,jD,jE⟩:=v
   rw [show (Value.agg (aE ⟨mY,jD,jE⟩).toArray) = .agg #[.string mY,.string jD,.int .i64 jE] from rfl]
   have Hb0:=hid (show Below w.heap.size w (w.alloc (.cells #[.string mY,.string jD,.int .i64 jE] 63)) from (Below.refl _ _).alloc (Nat.le_refl _) _)
   have HB0:=hid (show Blk (w.alloc (.cells #[.string mY,.string jD,.int .i64 jE] 63)) w.heap.size 63 #[.string mY,.string jD,.int .i64 jE] from heap_alloc_new w _))
 first|(guard_hyp jM0;go_enter Tryz.func181,Tryz.ntmps181)|(guard_hyp jM1;go_enter Tryz.func183,Tryz.ntmps183)|go_enter Tryz.func185,Tryz.ntmps185
 go_wp2
 first
  |(
   guard_hyp jM0
   go_loopw [5,8] (fun _ i wr=>Ik (eqB ⟨dG,jy,jA,gP,mX⟩) xs n w i wr∧Blk wr w.heap.size 59 #[.string dG,.int .i64 jy,.int .i64 jA,.int .i64 gP,.string mX]) (fun _ i _=>n - (intOf i).toNat))
  |(
   guard_hyp jM1
   go_loopw [5,8] (fun _ i wr=>Ik (eqB ⟨dG,jB,jC⟩) xs n w i wr∧Blk wr w.heap.size 61 #[.string dG,.int .i64 jB,.string jC]) (fun _ i _=>n - (intOf i).toNat))
  |(
   guard_hyp jM2
   go_loopw [5,8] (fun _ i wr=>Ik (eqB ⟨mY,jD,jE⟩) xs n w i wr∧Blk wr w.heap.size 63 #[.string mY,.string jD,.int .i64 jE]) (fun _ i _=>n - (intOf i).toNat))
 case atStart=>exact⟨⟨0,Nat.zero_le _,rfl,by simp,Hb0.out⟩,HB0.out⟩
 case round=>
  clear Hb0 HB0
  obtain⟨⟨k,hk,rfl,hnone,hb⟩,hB⟩:=hrel
  have gM:=hid hnone
  have Hb:=hid hb
  have HB:=hid hB
  have hsz:=hb.size
  have hBl:=hB.lt
  clear hnone
  by_cases hlt:k<n
  · obtain⟨y,hf⟩:∃ y,xs[k]? = some y:=⟨_,List.getElem?_eq_getElem (by rw [Hl.out]; exact hlt)⟩
    first|(guard_hyp jM0;obtain⟨b,off,rfl,hbB,hc⟩:=(Hx.out.below hb).dF aN Hl.out hf)|(guard_hyp jM1;obtain⟨b,off,rfl,hbB,hc⟩:=(Hx.out.below hb).dF bF Hl.out hf)|obtain⟨b,off,rfl,hbB,hc⟩:=(Hx.out.below hb).dF bB Hl.out hf
    have Hf:=hid hf
    first
     |(
      guard_hyp jM0
      obtain⟨bI,fC,fD,dJ,iL⟩:=y)
     |(
      guard_hyp jM1
      obtain⟨bI,fF,fE⟩:=y)
     |(
      guard_hyp jM2
      obtain⟨iK,fA,fB⟩:=y)
    first|(guard_hyp jM0;have c0:wr.cell? ⟨b,off+k*5,none⟩=some (.string bI):=hc 0 _ rfl)|(guard_hyp jM1;have c0:wr.cell? ⟨b,off+k*3,none⟩=some (.string bI):=hc 0 _ rfl)|have c0:wr.cell? ⟨b,off+k*3,none⟩=some (.string iK):=hc 0 _ rfl
    first
     |(
      guard_hyp jM2
      have d0:wr.cell? ⟨w.heap.size,0,none⟩=some (.string mY):=hB.cell 0
      have c1:wr.cell? ⟨b,off+k*3+1,none⟩=some (.string fA):=hc 1 _ rfl)
     |skip
    first|(guard_hyp jM2;have d1:wr.cell? ⟨w.heap.size,1,none⟩=some (.string jD):=hB.cell 1)|have d0:wr.cell? ⟨w.heap.size,0,none⟩=some (.string dG):=hB.cell 0
    first|(guard_hyp jM0;have c1:wr.cell? ⟨b,off+k*5+1,none⟩=some (.int .i64 fC):=hc 1 _ rfl)|(guard_hyp jM1;have c1:wr.cell? ⟨b,off+k*3+1,none⟩=some (.int .i64 fF):=hc 1 _ rfl)|have c2:wr.cell? ⟨b,off+k*3+2,none⟩=some (.int .i64 fB):=hc 2 _ rfl
    first|(guard_hyp jM0;have d1:wr.cell? ⟨w.heap.size,1,none⟩=some (.int .i64 jy):=hB.cell 1)|(guard_hyp jM1;have d1:wr.cell? ⟨w.heap.size,1,none⟩=some (.int .i64 jB):=hB.cell 1)|have d2:wr.cell? ⟨w.heap.size,2,none⟩=some (.int .i64 jE):=hB.cell 2
    first
     |(
      guard_hyp jM0
      have c2:wr.cell? ⟨b,off+k*5+2,none⟩=some (.int .i64 fD):=hc 2 _ rfl
      have d2:wr.cell? ⟨w.heap.size,2,none⟩=some (.int .i64 jA):=hB.cell 2
      have c3:wr.cell? ⟨b,off+k*5+3,none⟩=some (.int .i64 dJ):=hc 3 _ rfl
      have d3:wr.cell? ⟨w.heap.size,3,none⟩=some (.int .i64 gP):=hB.cell 3
      have c4:wr.cell? ⟨b,off+k*5+4,none⟩=some (.string iL):=hc 4 _ rfl
      have d4:wr.cell? ⟨w.heap.size,4,none⟩=some (.string mX):=hB.cell 4
      obtain⟨t,ht,-,hrun⟩:=yU dG bI mX iL jy fC jA fD gP dJ)
     |(
      guard_hyp jM1
      have c2:wr.cell? ⟨b,off+k*3+2,none⟩=some (.string fE):=hc 2 _ rfl
      have d2:wr.cell? ⟨w.heap.size,2,none⟩=some (.string jC):=hB.cell 2
      obtain⟨t,ht,-,hrun⟩:=vP dG bI jC fE jB fF)
     |(
      guard_hyp jM2
      obtain⟨t,ht,-,hrun⟩:=sQ mY iK jD fA jE fB)
    have hq:=PN ht
    first
     |(
      guard_hyp jM0
      have Ln:=hid (fun (h:t=true)=>yh (p:=eqB ⟨dG,jy,jA,gP,mX⟩) Hf.out (hq.trans h))
      have DX:=hid (fun (h:t=false)=>tY (p:=eqB ⟨dG,jy,jA,gP,mX⟩) Hf.out gM.out (hq.trans h)))
     |(
      guard_hyp jM1
      have Ln:=hid (fun (h:t=true)=>yh (p:=eqB ⟨dG,jB,jC⟩) Hf.out (hq.trans h))
      have DX:=hid (fun (h:t=false)=>tY (p:=eqB ⟨dG,jB,jC⟩) Hf.out gM.out (hq.trans h)))
     |(
      guard_hyp jM2
      have Ln:=hid (fun (h:t=true)=>yh (p:=eqB ⟨mY,jD,jE⟩) Hf.out (hq.trans h))
      have DX:=hid (fun (h:t=false)=>tY (p:=eqB ⟨mY,jD,jE⟩) Hf.out gM.out (hq.trans h)))
    have hlb:b<wr.heap.size:=by omega
    clear hc hf hb hB ht hq
    cases t
    · have fin:=hid (DX.out rfl)
      clear Ln DX
      have Hb2:=hid Hb.out.drew
      first
       |(
        guard_hyp jM0
        have HB2:=hid (show Blk wr.drew w.heap.size 59 #[.string dG,.int .i64 jy,.int .i64 jA,.int .i64 gP,.string mX] from HB.out))
       |(
        guard_hyp jM1
        have HB2:=hid (show Blk wr.drew w.heap.size 61 #[.string dG,.int .i64 jB,.string jC] from HB.out))
       |(
        guard_hyp jM2
        have HB2:=hid (show Blk wr.drew w.heap.size 63 #[.string mY,.string jD,.int .i64 jE] from HB.out))
      go_wp2
      go_region
      go_wp2
      go_roundw
      case rel=>exact⟨⟨k+1,by omega,by go_num,fin.out,Hb2.out⟩,HB2.out⟩
      case measure=>simp [intOf]; omega
    · have fin:=hid (Ln.out rfl)
      clear Ln DX
      have Hb2:=hid Hb.out.drew
      go_wp2
      go_region
      go_wp2
      go_ret
      exact⟨_,rfl,Hb2.out,.inr ⟨by omega,fin.out⟩⟩
  · have fin:=hid (Il gM.out (by rw [Hl.out]; omega))
    clear hb hB
    go_wp2
    go_ret
    exact⟨_,rfl,Hb.out,.inl ⟨rfl,fin.out⟩⟩)
theorem Nm (v:aB) (xs:List aB) (A:Option Addr) (n c:Nat) (w:World) (hx:aQ w w.heap.size 5 A n (au aH xs)) (hl:xs.length=n) (hn:n≤9223372036854775807) :
 Calls Tryz.prog 138 #[.slice A n c,.agg (aH v).toArray] w fun e w'=>e = .returned (.bool (xs.any (eqB v)))∧Below w.heap.size w w':=by
 have hb1:Below w.heap.size w (w.alloc (.cells (aH v).toArray 59)):=(Below.refl _ _).alloc (Nat.le_refl _) _
 have hC:=vS.1 v xs A n c _ ((hx.below hb1).more hb1.size) hl hn
 have Hb1:=hid hb1
 have hC:=hid hC
 clear hx hl hn hb1
 obtain⟨dG,jy,jA,gP,mX⟩:=v
 rw [show (aH ⟨dG,jy,jA,gP,mX⟩).toArray=#[.string dG,.int .i64 jy,.int .i64 jA,.int .i64 gP,.string mX] from rfl] at hC Hb1 ⊢
 go_enter Tryz.func138,Tryz.ntmps138
 go_wp2_with fail
 refine Calls.mono hC.out ?_
 rintro e w2 ⟨i,rfl,hb2,hcase⟩
 have Hb2:=hid (Hb1.out.trans (hb2.mono Hb1.out.size))
 rcases hcase with ⟨rfl,hn⟩ | ⟨hi,hn⟩
 · go_wp2
   go_ret
   exact⟨dW hn.symm,Hb2.out⟩
 · have d0:decide (0≤i)=true:=decide_eq_true hi
   go_wp2
   go_ret
   exact⟨dW hn.symm,Hb2.out⟩
theorem KS (v:av) (xs:List av) (A:Option Addr) (n c:Nat) (w:World) (hx:aQ w w.heap.size 3 A n (au aI xs)) (hl:xs.length=n) (hn:n≤9223372036854775807) :
 Calls Tryz.prog 141 #[.slice A n c,.agg (aI v).toArray] w fun e w'=>e = .returned (.bool (xs.any (eqB v)))∧Below w.heap.size w w':=by
 have hb1:Below w.heap.size w (w.alloc (.cells (aI v).toArray 61)):=(Below.refl _ _).alloc (Nat.le_refl _) _
 have hC:=vS.2.1 v xs A n c _ ((hx.below hb1).more hb1.size) hl hn
 have Hb1:=hid hb1
 have hC:=hid hC
 clear hx hl hn hb1
 obtain⟨dG,jB,jC⟩:=v
 rw [show (aI ⟨dG,jB,jC⟩).toArray=#[.string dG,.int .i64 jB,.string jC] from rfl] at hC Hb1 ⊢
 go_enter Tryz.func141,Tryz.ntmps141
 go_wp2_with fail
 refine Calls.mono hC.out ?_
 rintro e w2 ⟨i,rfl,hb2,hcase⟩
 have Hb2:=hid (Hb1.out.trans (hb2.mono Hb1.out.size))
 rcases hcase with ⟨rfl,hn⟩ | ⟨hi,hn⟩
 · go_wp2
   go_ret
   exact⟨dW hn.symm,Hb2.out⟩
 · have d0:decide (0≤i)=true:=decide_eq_true hi
   go_wp2
   go_ret
   exact⟨dW hn.symm,Hb2.out⟩
theorem I6 (v:ak) (xs:List ak) (A:Option Addr) (n c:Nat) (w:World) (hx:aQ w w.heap.size 3 A n (au aE xs)) (hl:xs.length=n) (hn:n≤9223372036854775807) :
 Calls Tryz.prog 144 #[.slice A n c,.agg (aE v).toArray] w fun e w'=>e = .returned (.bool (xs.any (eqB v)))∧Below w.heap.size w w':=by
 have hb1:Below w.heap.size w (w.alloc (.cells (aE v).toArray 63)):=(Below.refl _ _).alloc (Nat.le_refl _) _
 have hC:=vS.2.2 v xs A n c _ ((hx.below hb1).more hb1.size) hl hn
 have Hb1:=hid hb1
 have hC:=hid hC
 clear hx hl hn hb1
 obtain⟨mY,jD,jE⟩:=v
 rw [show (aE ⟨mY,jD,jE⟩).toArray=#[.string mY,.string jD,.int .i64 jE] from rfl] at hC Hb1 ⊢
 go_enter Tryz.func144,Tryz.ntmps144
 go_wp2_with fail
 refine Calls.mono hC.out ?_
 rintro e w2 ⟨i,rfl,hb2,hcase⟩
 have Hb2:=hid (Hb1.out.trans (hb2.mono Hb1.out.size))
 rcases hcase with ⟨rfl,hn⟩ | ⟨hi,hn⟩
 · go_wp2
   go_ret
   exact⟨dW hn.symm,Hb2.out⟩
 · have d0:decide (0≤i)=true:=decide_eq_true hi
   go_wp2
   go_ret
   exact⟨dW hn.symm,Hb2.out⟩
noncomputable def newL {α:Type} (a b:List α):List α:=b.filter fun x=>!a.any (eqB x)
def bH {α:Type} (key:α→ByteArray) (a b:List α):List ByteArray:=(a.filter fun x=>!b.any fun y=>decide (key y=key x)).map key
noncomputable def cF (a b:ah):aK:=⟨a.rev,b.rev,newL a.jobs b.jobs,newL a.nodes b.nodes,newL a.leases b.leases,bH aB.name a.jobs b.jobs,bH av.name a.nodes b.nodes,bH ak.job a.leases b.leases⟩
noncomputable def qc (a b:ah):aK × Int:=if ay a≠0 then (nO,ay a) else if ay b≠0 then (nO,ay b) else if b.rev≤a.rev then (nO,1) else (cF a b,0)
theorem Ni {a b:ah} (h:ay a≠0):qc a b=(nO,ay a):=by unfold qc; rw [if_pos h]
theorem Nk {a b:ah} (h:ay a=0) (h2:ay b≠0):qc a b=(nO,ay b):=by unfold qc; rw [if_neg (by simp [h]),if_pos h2]
theorem I4 {a b:ah} (h:ay a=0) (h2:ay b=0) (h3:b.rev≤a.rev):qc a b=(nO,1):=by unfold qc; rw [if_neg (by simp [h]),if_neg (by simp [h2]),if_pos h3]
theorem DF {a b:ah} (h:ay a=0) (h2:ay b=0) (h3:¬ b.rev≤a.rev):qc a b=(cF a b,0):=by unfold qc; rw [if_neg (by simp [h]),if_neg (by simp [h2]),if_neg h3]
section
variable {α:Type} {p:α→Bool} {l:List α} {k:Nat} {x:α}
theorem yR (h:l[k]? = some x) (hp:p x=true):(l.take (k+1)).filter p=(l.take k).filter p ++ [x]:=by
 rw [List.take_add_one,h,List.filter_append]; simp [hp]
theorem Bo (h:l[k]? = some x) (hp:p x=false):(l.take (k+1)).filter p=(l.take k).filter p:=by
 rw [List.take_add_one,h,List.filter_append]; simp [hp]
theorem yS (p:α→Bool) (l:List α) (k:Nat):((l.take k).filter p).length≤k:=Nat.le_trans (List.length_filter_le _ _) (by rw [List.length_take]; omega)
theorem filter_all (p:α→Bool) {l:List α} {k:Nat} (h:l.length≤k):(l.take k).filter p=l.filter p:=by rw [List.take_of_length_le h]
end
theorem oN {α:Type} (a b:List α):(newL a b).length≤b.length:=List.length_filter_le _ _
theorem mH {α:Type} (key:α→ByteArray) (a b:List α):(bH key a b).length≤a.length:=by unfold bH; rw [List.length_map]; exact List.length_filter_le _ _
def zu (w:World) (b:Nat):Prop:=∃ o,w.heap[b]? = some o∧∀ c fz,o ≠ .cells c 5 fz
theorem zu.same {w w':World} {b:Nat} (h:zu w b) (hk:Lib.OthersKept 5 none w w'):w'.heap[b]? = w.heap[b]?:=by
 obtain⟨o,h1,h2⟩:=h
 rw [hk b o h1 (by simp) h2,h1]
theorem zu.kept {w w':World} {b:Nat} (h:zu w b) (hk:Lib.OthersKept 5 none w w'):zu w' b:=by
 have e:=h.same hk
 obtain⟨o,h1,h2⟩:=h
 exact⟨o,e.trans h1,h2⟩
theorem cell_of_block {w w':World} {b o:Nat} (h:w'.heap[b]? = w.heap[b]?):w'.cell? ⟨b,o,none⟩=w.cell? ⟨b,o,none⟩:=by
 unfold World.cell?
 rw [show w'.heap[(⟨b,o,none⟩:Addr).block]? = w.heap[(⟨b,o,none⟩:Addr).block]? from h]
def NA (B:Nat) (w:World) (v:FV) (p q:Value):Prop:=match v with
 | .num x=>q = .pointer none∧∃ b o,p = .pointer (some ⟨b,o,none⟩)∧b<B∧w.cell? ⟨b,o,none⟩=some (.int .i64 x)
 | .txt s=>p = .pointer none∧∃ b o,q = .pointer (some ⟨b,o,none⟩)∧b<B∧w.cell? ⟨b,o,none⟩=some (.string s)
theorem NA.kept {B:Nat} {w w':World} {v:FV} {p q:Value} (h:NA B w v p q) (hb:Below B w w'):NA B w' v p q:=by
 cases v with
 | num x=>obtain⟨h0,b,o,h1,h2,h3⟩:=h; exact⟨h0,b,o,h1,h2,(hb.cell (p:=⟨b,o,none⟩) h2).trans h3⟩
 | txt s=>obtain⟨h0,b,o,h1,h2,h3⟩:=h; exact⟨h0,b,o,h1,h2,(hb.cell (p:=⟨b,o,none⟩) h2).trans h3⟩
structure za (B:Nat) (w:World) (fb fo:Nat) (fs:List (ByteArray × FV)):Prop where
 solid:zu w fb
 at_:∀ k nm v,fs[k]? = some (nm,v)→∃ p q,w.cell? ⟨fb,fo+k*3,none⟩=some (.string nm)∧w.cell? ⟨fb,fo+k*3+1,none⟩=some p∧w.cell? ⟨fb,fo+k*3+2,none⟩=some q∧NA B w v p q
theorem za.kept {B:Nat} {w w':World} {fb fo:Nat} {fs:List (ByteArray × FV)} (h:za B w fb fo fs) (hb:Below B w w') (hk:Lib.OthersKept 5 none w w'):za B w' fb fo fs:=by
 have e:=h.solid.same hk
 refine⟨h.solid.kept hk,fun k nm v hkv=>?_⟩
 obtain⟨p,q,h1,h2,h3,h4⟩:=h.at_ k nm v hkv
 exact⟨p,q,(cell_of_block e).trans h1,(cell_of_block e).trans h2,(cell_of_block e).trans h3,h4.kept hb⟩
end Go.Proofs.YtcpgnjmaampglaaGreatDoor
