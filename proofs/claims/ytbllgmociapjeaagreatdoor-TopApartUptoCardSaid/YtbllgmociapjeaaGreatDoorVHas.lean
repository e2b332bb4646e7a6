/- Of the proof of a statement: Has. -/
import Derived.Test.YtbllgmociapjeaaGreatDoorVStChk
set_option linter.unusedVariables false
set_option linter.unusedSimpArgs false
set_option maxRecDepth 100000
set_option maxHeartbeats 8000000
/- The walks of slices.Index and Contains and of the reference's Has at rows of records. -/
namespace Go.Proofs.YtbllgmociapjeaaGreatDoor
open Go.Lib (hid)
open Go.RowKit
noncomputable def eqB {α:Type} (x y:α):Bool:=@decide (x=y) (Classical.propDecidable _)
theorem Da {α:Type} {x y:α}:eqB x y=true↔x=y:=by unfold eqB; exact @decide_eq_true_iff _ (Classical.propDecidable _)
theorem BT {α:Type} {x y:α} {t:Bool} (h:t=true↔x=y):eqB x y=t:=by
 cases t with
 | true=>exact Da.2 (h.1 rfl)
 | false=>
  cases he:eqB x y with
  | false=>rfl
  | true=>exact absurd (h.2 (Da.1 he)) (by decide)
theorem I5 (v:aC) (xs:List aC) (A:Option Addr) (n c:Nat) (w:World) (hx:aU w w.heap.size 5 A n (au aI xs)) (hl:xs.length=n) (hn:n≤9223372036854775807) :
 Calls Tryz.prog 234 #[.slice A n c,.agg (aI v).toArray] w (sK (eqB v) xs w):=by
 have Hl:=hid hl
 have Hx:=hid hx
 clear hl hx
 obtain⟨cW,iQ,iR,gq,lO⟩:=v
 rw [show (Value.agg (aI ⟨cW,iQ,iR,gq,lO⟩).toArray) = .agg #[.string cW,.int .i64 iQ,.int .i64 iR,.int .i64 gq,.string lO] from rfl]
 have Hb0:=hid (show Below w.heap.size w (w.alloc (.cells #[.string cW,.int .i64 iQ,.int .i64 iR,.int .i64 gq,.string lO] 32)) from (Below.refl _ _).alloc (Nat.le_refl _) _)
 have HB0:=hid (show Blk (w.alloc (.cells #[.string cW,.int .i64 iQ,.int .i64 iR,.int .i64 gq,.string lO] 32)) w.heap.size 32 #[.string cW,.int .i64 iQ,.int .i64 iR,.int .i64 gq,.string lO] from heap_alloc_new w _)
 go_enter Tryz.func234,Tryz.ntmps234
 go_wp2
 go_loopw [5,8] (fun _ i wr=>xR (eqB ⟨cW,iQ,iR,gq,lO⟩) xs n w i wr∧Blk wr w.heap.size 32 #[.string cW,.int .i64 iQ,.int .i64 iR,.int .i64 gq,.string lO]) (fun _ i _=>n - (intOf i).toNat)
 case atStart=>exact⟨⟨0,Nat.zero_le _,rfl,by simp,Hb0.out⟩,HB0.out⟩
 case round=>
  clear Hb0 HB0
  obtain⟨⟨k,hk,rfl,hnone,hb⟩,hB⟩:=hrel
  have dz:=hid hnone
  have Hb:=hid hb
  have HB:=hid hB
  have hsz:=hb.size
  have hBl:=hB.lt
  clear hnone
  by_cases hlt:k<n
  · obtain⟨y,hf⟩:∃ y,xs[k]? = some y:=⟨_,List.getElem?_eq_getElem (by rw [Hl.out]; exact hlt)⟩
    obtain⟨b,off,rfl,hbB,hc⟩:=(Hx.out.below hb).dB aV Hl.out hf
    have Hf:=hid hf
    obtain⟨cP,iB,iC,fN,kK⟩:=y
    have c0:wr.cell? ⟨b,off+k*5,none⟩=some (.string cP):=hc 0 _ rfl
    have d0:wr.cell? ⟨w.heap.size,0,none⟩=some (.string cW):=hB.cell 0
    have c1:wr.cell? ⟨b,off+k*5+1,none⟩=some (.int .i64 iB):=hc 1 _ rfl
    have d1:wr.cell? ⟨w.heap.size,1,none⟩=some (.int .i64 iQ):=hB.cell 1
    have c2:wr.cell? ⟨b,off+k*5+2,none⟩=some (.int .i64 iC):=hc 2 _ rfl
    have d2:wr.cell? ⟨w.heap.size,2,none⟩=some (.int .i64 iR):=hB.cell 2
    have c3:wr.cell? ⟨b,off+k*5+3,none⟩=some (.int .i64 fN):=hc 3 _ rfl
    have d3:wr.cell? ⟨w.heap.size,3,none⟩=some (.int .i64 gq):=hB.cell 3
    have c4:wr.cell? ⟨b,off+k*5+4,none⟩=some (.string kK):=hc 4 _ rfl
    have d4:wr.cell? ⟨w.heap.size,4,none⟩=some (.string lO):=hB.cell 4
    obtain⟨t,ht,-,hrun⟩:=Au cW cP lO kK iQ iB iR iC gq fN
    have hq:=BT ht
    have vH:=hid (fun (h:t=true)=>o9 (p:=eqB ⟨cW,iQ,iR,gq,lO⟩) Hf.out (hq.trans h))
    have oo:=hid (fun (h:t=false)=>mQ (p:=eqB ⟨cW,iQ,iR,gq,lO⟩) Hf.out dz.out (hq.trans h))
    have hlb:b<wr.heap.size:=by omega
    clear hc hf hb hB ht hq
    cases t
    · have fin:=hid (oo.out rfl)
      clear vH oo
      have Hb2:=hid Hb.out.drew
      have HB2:=hid (show Blk wr.drew w.heap.size 32 #[.string cW,.int .i64 iQ,.int .i64 iR,.int .i64 gq,.string lO] from HB.out)
      go_wp2
      go_region
      go_wp2
      go_roundw
      case rel=>exact⟨⟨k+1,by omega,by go_num,fin.out,Hb2.out⟩,HB2.out⟩
      case measure=>simp [intOf]; omega
    · have fin:=hid (vH.out rfl)
      clear vH oo
      have Hb2:=hid Hb.out.drew
      go_wp2
      go_region
      go_wp2
      go_ret
      exact⟨_,rfl,Hb2.out,.inr ⟨by omega,fin.out⟩⟩
  · have fin:=hid (pq dz.out (by rw [Hl.out]; omega))
    clear hb hB
    go_wp2
    go_ret
    exact⟨_,rfl,Hb.out,.inl ⟨rfl,fin.out⟩⟩
theorem IR (v:aC) (xs:List aC) (A:Option Addr) (n c:Nat) (w:World) (hx:aU w w.heap.size 5 A n (au aI xs)) (hl:xs.length=n) (hn:n≤9223372036854775807) :
 Calls Tryz.prog 200 #[.slice A n c,.agg (aI v).toArray] w fun e w'=>e = .returned (.bool (xs.any (eqB v)))∧Below w.heap.size w w':=by
 have hb1:Below w.heap.size w (w.alloc (.cells (aI v).toArray 32)):=(Below.refl _ _).alloc (Nat.le_refl _) _
 have hC:=I5 v xs A n c _ ((hx.below hb1).more hb1.size) hl hn
 have Hb1:=hid hb1
 have hC:=hid hC
 clear hx hl hn hb1
 obtain⟨cW,iQ,iR,gq,lO⟩:=v
 rw [show (aI ⟨cW,iQ,iR,gq,lO⟩).toArray=#[.string cW,.int .i64 iQ,.int .i64 iR,.int .i64 gq,.string lO] from rfl] at hC Hb1 ⊢
 go_enter Tryz.func200,Tryz.ntmps200
 go_wp2_with fail
 refine Calls.mono hC.out ?_
 rintro e w2 ⟨i,rfl,hb2,hcase⟩
 have Hb2:=hid (Hb1.out.trans (hb2.mono Hb1.out.size))
 rcases hcase with ⟨rfl,hn⟩ | ⟨hi,hn⟩
 · go_wp2
   go_ret
   exact⟨cY hn.symm,Hb2.out⟩
 · have d0:decide (0≤i)=true:=decide_eq_true hi
   go_wp2
   go_ret
   exact⟨cY hn.symm,Hb2.out⟩
theorem F1 (v:aA) (xs:List aA) (A:Option Addr) (n c:Nat) (w:World) (hx:aU w w.heap.size 3 A n (au aB xs)) (hl:xs.length=n) (hn:n≤9223372036854775807) :
 Calls Tryz.prog 236 #[.slice A n c,.agg (aB v).toArray] w (sK (eqB v) xs w):=by
 have Hl:=hid hl
 have Hx:=hid hx
 clear hl hx
 obtain⟨cW,iS,iT⟩:=v
 rw [show (Value.agg (aB ⟨cW,iS,iT⟩).toArray) = .agg #[.string cW,.int .i64 iS,.string iT] from rfl]
 have Hb0:=hid (show Below w.heap.size w (w.alloc (.cells #[.string cW,.int .i64 iS,.string iT] 34)) from (Below.refl _ _).alloc (Nat.le_refl _) _)
 have HB0:=hid (show Blk (w.alloc (.cells #[.string cW,.int .i64 iS,.string iT] 34)) w.heap.size 34 #[.string cW,.int .i64 iS,.string iT] from heap_alloc_new w _)
 go_enter Tryz.func236,Tryz.ntmps236
 go_wp2
 go_loopw [5,8] (fun _ i wr=>xR (eqB ⟨cW,iS,iT⟩) xs n w i wr∧Blk wr w.heap.size 34 #[.string cW,.int .i64 iS,.string iT]) (fun _ i _=>n - (intOf i).toNat)
 case atStart=>exact⟨⟨0,Nat.zero_le _,rfl,by simp,Hb0.out⟩,HB0.out⟩
 case round=>
  clear Hb0 HB0
  obtain⟨⟨k,hk,rfl,hnone,hb⟩,hB⟩:=hrel
  have dz:=hid hnone
  have Hb:=hid hb
  have HB:=hid hB
  have hsz:=hb.size
  have hBl:=hB.lt
  clear hnone
  by_cases hlt:k<n
  · obtain⟨y,hf⟩:∃ y,xs[k]? = some y:=⟨_,List.getElem?_eq_getElem (by rw [Hl.out]; exact hlt)⟩
    obtain⟨b,off,rfl,hbB,hc⟩:=(Hx.out.below hb).dB aJ Hl.out hf
    have Hf:=hid hf
    obtain⟨cP,iD,iE⟩:=y
    have c0:wr.cell? ⟨b,off+k*3,none⟩=some (.string cP):=hc 0 _ rfl
    have d0:wr.cell? ⟨w.heap.size,0,none⟩=some (.string cW):=hB.cell 0
    have c1:wr.cell? ⟨b,off+k*3+1,none⟩=some (.int .i64 iD):=hc 1 _ rfl
    have d1:wr.cell? ⟨w.heap.size,1,none⟩=some (.int .i64 iS):=hB.cell 1
    have c2:wr.cell? ⟨b,off+k*3+2,none⟩=some (.string iE):=hc 2 _ rfl
    have d2:wr.cell? ⟨w.heap.size,2,none⟩=some (.string iT):=hB.cell 2
    obtain⟨t,ht,-,hrun⟩:=xS cW cP iT iE iS iD
    have hq:=BT ht
    have vH:=hid (fun (h:t=true)=>o9 (p:=eqB ⟨cW,iS,iT⟩) Hf.out (hq.trans h))
    have oo:=hid (fun (h:t=false)=>mQ (p:=eqB ⟨cW,iS,iT⟩) Hf.out dz.out (hq.trans h))
    have hlb:b<wr.heap.size:=by omega
    clear hc hf hb hB ht hq
    cases t
    · have fin:=hid (oo.out rfl)
      clear vH oo
      have Hb2:=hid Hb.out.drew
      have HB2:=hid (show Blk wr.drew w.heap.size 34 #[.string cW,.int .i64 iS,.string iT] from HB.out)
      go_wp2
      go_region
      go_wp2
      go_roundw
      case rel=>exact⟨⟨k+1,by omega,by go_num,fin.out,Hb2.out⟩,HB2.out⟩
      case measure=>simp [intOf]; omega
    · have fin:=hid (vH.out rfl)
      clear vH oo
      have Hb2:=hid Hb.out.drew
      go_wp2
      go_region
      go_wp2
      go_ret
      exact⟨_,rfl,Hb2.out,.inr ⟨by omega,fin.out⟩⟩
  · have fin:=hid (pq dz.out (by rw [Hl.out]; omega))
    clear hb hB
    go_wp2
    go_ret
    exact⟨_,rfl,Hb.out,.inl ⟨rfl,fin.out⟩⟩
theorem FN (v:aA) (xs:List aA) (A:Option Addr) (n c:Nat) (w:World) (hx:aU w w.heap.size 3 A n (au aB xs)) (hl:xs.length=n) (hn:n≤9223372036854775807) :
 Calls Tryz.prog 203 #[.slice A n c,.agg (aB v).toArray] w fun e w'=>e = .returned (.bool (xs.any (eqB v)))∧Below w.heap.size w w':=by
 have hb1:Below w.heap.size w (w.alloc (.cells (aB v).toArray 34)):=(Below.refl _ _).alloc (Nat.le_refl _) _
 have hC:=F1 v xs A n c _ ((hx.below hb1).more hb1.size) hl hn
 have Hb1:=hid hb1
 have hC:=hid hC
 clear hx hl hn hb1
 obtain⟨cW,iS,iT⟩:=v
 rw [show (aB ⟨cW,iS,iT⟩).toArray=#[.string cW,.int .i64 iS,.string iT] from rfl] at hC Hb1 ⊢
 go_enter Tryz.func203,Tryz.ntmps203
 go_wp2_with fail
 refine Calls.mono hC.out ?_
 rintro e w2 ⟨i,rfl,hb2,hcase⟩
 have Hb2:=hid (Hb1.out.trans (hb2.mono Hb1.out.size))
 rcases hcase with ⟨rfl,hn⟩ | ⟨hi,hn⟩
 · go_wp2
   go_ret
   exact⟨cY hn.symm,Hb2.out⟩
 · have d0:decide (0≤i)=true:=decide_eq_true hi
   go_wp2
   go_ret
   exact⟨cY hn.symm,Hb2.out⟩
theorem D6 (v:ak) (xs:List ak) (A:Option Addr) (n c:Nat) (w:World) (hx:aU w w.heap.size 3 A n (au av xs)) (hl:xs.length=n) (hn:n≤9223372036854775807) :
 Calls Tryz.prog 238 #[.slice A n c,.agg (av v).toArray] w (sK (eqB v) xs w):=by
 have Hl:=hid hl
 have Hx:=hid hx
 clear hl hx
 obtain⟨lP,iU,iV⟩:=v
 rw [show (Value.agg (av ⟨lP,iU,iV⟩).toArray) = .agg #[.string lP,.string iU,.int .i64 iV] from rfl]
 have Hb0:=hid (show Below w.heap.size w (w.alloc (.cells #[.string lP,.string iU,.int .i64 iV] 36)) from (Below.refl _ _).alloc (Nat.le_refl _) _)
 have HB0:=hid (show Blk (w.alloc (.cells #[.string lP,.string iU,.int .i64 iV] 36)) w.heap.size 36 #[.string lP,.string iU,.int .i64 iV] from heap_alloc_new w _)
 go_enter Tryz.func238,Tryz.ntmps238
 go_wp2
 go_loopw [5,8] (fun _ i wr=>xR (eqB ⟨lP,iU,iV⟩) xs n w i wr∧Blk wr w.heap.size 36 #[.string lP,.string iU,.int .i64 iV]) (fun _ i _=>n - (intOf i).toNat)
 case atStart=>exact⟨⟨0,Nat.zero_le _,rfl,by simp,Hb0.out⟩,HB0.out⟩
 case round=>
  clear Hb0 HB0
  obtain⟨⟨k,hk,rfl,hnone,hb⟩,hB⟩:=hrel
  have dz:=hid hnone
  have Hb:=hid hb
  have HB:=hid hB
  have hsz:=hb.size
  have hBl:=hB.lt
  clear hnone
  by_cases hlt:k<n
  · obtain⟨y,hf⟩:∃ y,xs[k]? = some y:=⟨_,List.getElem?_eq_getElem (by rw [Hl.out]; exact hlt)⟩
    obtain⟨b,off,rfl,hbB,hc⟩:=(Hx.out.below hb).dB aG Hl.out hf
    have Hf:=hid hf
    obtain⟨kL,iF,iG⟩:=y
    have c0:wr.cell? ⟨b,off+k*3,none⟩=some (.string kL):=hc 0 _ rfl
    have d0:wr.cell? ⟨w.heap.size,0,none⟩=some (.string lP):=hB.cell 0
    have c1:wr.cell? ⟨b,off+k*3+1,none⟩=some (.string iF):=hc 1 _ rfl
    have d1:wr.cell? ⟨w.heap.size,1,none⟩=some (.string iU):=hB.cell 1
    have c2:wr.cell? ⟨b,off+k*3+2,none⟩=some (.int .i64 iG):=hc 2 _ rfl
    have d2:wr.cell? ⟨w.heap.size,2,none⟩=some (.int .i64 iV):=hB.cell 2
    obtain⟨t,ht,-,hrun⟩:=vI lP kL iU iF iV iG
    have hq:=BT ht
    have vH:=hid (fun (h:t=true)=>o9 (p:=eqB ⟨lP,iU,iV⟩) Hf.out (hq.trans h))
    have oo:=hid (fun (h:t=false)=>mQ (p:=eqB ⟨lP,iU,iV⟩) Hf.out dz.out (hq.trans h))
    have hlb:b<wr.heap.size:=by omega
    clear hc hf hb hB ht hq
    cases t
    · have fin:=hid (oo.out rfl)
      clear vH oo
      have Hb2:=hid Hb.out.drew
      have HB2:=hid (show Blk wr.drew w.heap.size 36 #[.string lP,.string iU,.int .i64 iV] from HB.out)
      go_wp2
      go_region
      go_wp2
      go_roundw
      case rel=>exact⟨⟨k+1,by omega,by go_num,fin.out,Hb2.out⟩,HB2.out⟩
      case measure=>simp [intOf]; omega
    · have fin:=hid (vH.out rfl)
      clear vH oo
      have Hb2:=hid Hb.out.drew
      go_wp2
      go_region
      go_wp2
      go_ret
      exact⟨_,rfl,Hb2.out,.inr ⟨by omega,fin.out⟩⟩
  · have fin:=hid (pq dz.out (by rw [Hl.out]; omega))
    clear hb hB
    go_wp2
    go_ret
    exact⟨_,rfl,Hb.out,.inl ⟨rfl,fin.out⟩⟩
theorem DS (v:ak) (xs:List ak) (A:Option Addr) (n c:Nat) (w:World) (hx:aU w w.heap.size 3 A n (au av xs)) (hl:xs.length=n) (hn:n≤9223372036854775807) :
 Calls Tryz.prog 206 #[.slice A n c,.agg (av v).toArray] w fun e w'=>e = .returned (.bool (xs.any (eqB v)))∧Below w.heap.size w w':=by
 have hb1:Below w.heap.size w (w.alloc (.cells (av v).toArray 36)):=(Below.refl _ _).alloc (Nat.le_refl _) _
 have hC:=D6 v xs A n c _ ((hx.below hb1).more hb1.size) hl hn
 have Hb1:=hid hb1
 have hC:=hid hC
 clear hx hl hn hb1
 obtain⟨lP,iU,iV⟩:=v
 rw [show (av ⟨lP,iU,iV⟩).toArray=#[.string lP,.string iU,.int .i64 iV] from rfl] at hC Hb1 ⊢
 go_enter Tryz.func206,Tryz.ntmps206
 go_wp2_with fail
 refine Calls.mono hC.out ?_
 rintro e w2 ⟨i,rfl,hb2,hcase⟩
 have Hb2:=hid (Hb1.out.trans (hb2.mono Hb1.out.size))
 rcases hcase with ⟨rfl,hn⟩ | ⟨hi,hn⟩
 · go_wp2
   go_ret
   exact⟨cY hn.symm,Hb2.out⟩
 · have d0:decide (0≤i)=true:=decide_eq_true hi
   go_wp2
   go_ret
   exact⟨cY hn.symm,Hb2.out⟩
end Go.Proofs.YtbllgmociapjeaaGreatDoor
