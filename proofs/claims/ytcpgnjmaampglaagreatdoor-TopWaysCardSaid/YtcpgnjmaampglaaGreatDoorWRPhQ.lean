/- Of the proof of a statement: StChk, RPhQ. -/
import Derived.Test.YtcpgnjmaampglaaGreatDoorWRPh
import Derived.Test.YtcpgnjmaampglaaGreatDoorWRowsP
set_option linter.unusedVariables false
set_option linter.unusedSimpArgs false
set_option maxRecDepth 100000
set_option maxHeartbeats 8000000
/- The walk of check of a state. -/
namespace Go.Proofs.YtcpgnjmaampglaaGreatDoor
open Go.Lib (hid)
open Go.RowKit
theorem Ju (st:ah) (x:StA) (w:World) (hS:StAt w w.heap.size st x) (hT:Tabs w) :
 Calls Tryz.prog 23 #[.agg (stC st x)] w (Db st w):=by
 have HS:=hid hS
 have hb1:Below w.heap.size w (w.alloc (.cells (stC st x) 26)):=(Below.refl _ _).alloc (Nat.le_refl _) _
 have hB1:Blk (w.alloc (.cells (stC st x) 26)) w.heap.size 26 (stC st x):=heap_alloc_new w _
 have hbad:=hid (fun (E:Int) (h:ay st=E) (hE:E≠0) w'=>Db.bad (w:=w) (w':=w') h hE)
 have Hb1:=hid hb1
 have HB1:=hid hB1
 have HT1:=hid (hT.below hb1)
 clear hb1 hB1 hS hT
 obtain⟨rev,jobs,nodes,leases⟩:=st
 obtain⟨aj,nj,cj,an,nn,cn,al,nl,cl⟩:=x
 simp only [stC] at *
 go_enter Tryz.func23,Tryz.ntmps23
 go_wp2_with fail
 refine Calls.mono (iP _ _ _ _) ?_
 rintro e w0 ⟨rfl,rfl⟩
 cases hr:ranged rev 0 1099511627776
 · have hend:=hid (hbad.out 1 (F8 hr) (by omega) _ Hb1.out)
   go_wp2
   go_ret2
   exact hend.out
 have hlj:=HS.out.lj
 have hln:=HS.out.ln
 have hll:=HS.out.ll
 have hbj:=HS.out.bj
 have hbn:=HS.out.bn
 have hbl:=HS.out.bl
 simp only at hlj hln hll hbj hbn hbl
 by_cases s1:nj≤40
 rotate_left
 · have hend:=hid (hbad.out 2 (qT hr (by unfold dR; rw [decide_eq_false (by simp only; omega)]; rfl)) (by omega) _ Hb1.out)
   have d1:decide ((40:Int)<(nj:Int))=true:=decide_eq_true (by omega)
   go_wp2
   go_ret2
   exact hend.out
 have d1:decide ((40:Int)<(nj:Int))=false:=decide_eq_false (by omega)
 by_cases s2:nl≤40
 rotate_left
 · have hend:=hid (hbad.out 2 (qT hr (by unfold dR; simp only; rw [decide_eq_false (p:=leases.length≤40) (by omega)]; simp)) (by omega) _ Hb1.out)
   have d2:decide ((40:Int)<(nl:Int))=true:=decide_eq_true (by omega)
   go_wp2
   go_ret2
   exact hend.out
 have d2:decide ((40:Int)<(nl:Int))=false:=decide_eq_false (by omega)
 by_cases s3:nn≤20
 rotate_left
 · have hend:=hid (hbad.out 2 (qT hr (by unfold dR; simp only; rw [decide_eq_false (p:=nodes.length≤20) (by omega)]; simp)) (by omega) _ Hb1.out)
   have d3:decide ((20:Int)<(nn:Int))=true:=decide_eq_true (by omega)
   go_wp2
   go_ret2
   exact hend.out
 have d3:decide ((20:Int)<(nn:Int))=false:=decide_eq_false (by omega)
 have hsz:=hid (show dR ⟨rev,jobs,nodes,leases⟩=true by unfold dR; simp; omega)
 have hS1:=hid ((HS.out.below Hb1.out).more Hb1.out.size)
 go_wp2_with fail
 refine Calls.mono (lB.1 jobs aj nj cj _ hS1.out.j hS1.out.lj hbj hS1.out.oj HT1.out) ?_
 rintro e w2 ⟨rfl,hb2⟩
 have Hb2:=hid (Hb1.out.trans (hb2.mono Hb1.out.size))
 have HB2:=hid (HB1.out.below hb2 HB1.out.lt)
 have HT2:=hid (HT1.out.below hb2)
 have y2:w2.cell? ⟨w.heap.size,2,none⟩=some (.slice an nn cn):=HB2.out.cell 2
 clear d1 d2 d3 hb2 HT1 HB1
 obtain⟨EJ,hEJ⟩:∃ E,bM eZ aB.name jobs=E:=⟨_,rfl⟩
 rw [hEJ]
 by_cases he:EJ=0
 rotate_left
 · have hend:=hid (hbad.out EJ (by rw [IG hr hsz.out (by rw [hEJ]; exact he)]; exact hEJ) he _ Hb2.out)
   have e1:(EJ == 0)=false:=beq_eq_false_iff_ne.2 he
   have e2:(EJ != 0)=true:=bne_iff_ne.2 he
   go_wp2
   go_ret2
   exact hend.out
 subst he
 have HEJ:=hid hEJ
 clear hEJ
 have hS2:=hid ((HS.out.below Hb2.out).more Hb2.out.size)
 go_wp2_with fail
 refine Calls.mono (lB.2 nodes an nn cn _ hS2.out.n hS2.out.ln hbn hS2.out.on_ HT2.out) ?_
 rintro e w3 ⟨rfl,hb3⟩
 have Hb3:=hid (Hb2.out.trans (hb3.mono Hb2.out.size))
 have HB3:=hid (HB2.out.below hb3 HB2.out.lt)
 clear y2 hb3 HT2 HB2 hS2 hS1
 obtain⟨EN,hEN⟩:∃ E,bM eV av.name nodes=E:=⟨_,rfl⟩
 rw [hEN]
 by_cases he:EN=0
 rotate_left
 · have hend:=hid (hbad.out EN (by rw [ET hr hsz.out HEJ.out (by rw [hEN]; exact he)]; exact hEN) he _ Hb3.out)
   have e1:(EN == 0)=false:=beq_eq_false_iff_ne.2 he
   have e2:(EN != 0)=true:=bne_iff_ne.2 he
   go_wp2
   go_ret2
   exact hend.out
 subst he
 have HEN:=hid hEN
 have IH:=hid (II hr hsz.out HEJ.out hEN)
 clear hEN
 have hSl:=HB3.out.lt
 have hmk:=fun t W=>run_makeMap (P:=Tryz.prog) t W
 have z1:(EU w3).cell? ⟨w.heap.size,1,none⟩=some (.slice aj nj cj):=((rB w3).cell (p:=⟨w.heap.size,1,none⟩) hSl).trans (HB3.out.cell 1)
 have HC0:=hid (show EV w (EU w3) ⟨rev,jobs,nodes,leases⟩ ⟨aj,nj,cj,an,nn,cn,al,nl,cl⟩ w.heap.size (w3.heap.size+1+1+1) w3.heap.size (w3.heap.size+1) (w3.heap.size+1+1) 0 0 0 noG noG noG from
  ⟨Hb3.out.trans ((rB w3).mono Hb3.out.size),HB3.out.below (rB w3) hSl,GO w3⟩)
 have hw3:=Hb3.out.size
 clear HB3 Hb3
 unfold EU at z1
 go_wp2
 clear z1 hmk
 go_loopw [8,56] (fun _ i wr=>Q8 w wr ⟨rev,jobs,nodes,leases⟩ ⟨aj,nj,cj,an,nn,cn,al,nl,cl⟩ w3.heap.size nj i) (fun _ i _=>nj - (intOf i).toNat)
 case atStart=>exact⟨0,Nat.zero_le _,rfl,HC0.out⟩
 case round=>
  obtain⟨k,hk,rfl,hC⟩:=hrel
  by_cases hlt:k<nj
  · obtain⟨y,hf⟩:∃ y,jobs[k]? = some y:=⟨_,List.getElem?_eq_getElem (by omega)⟩
    obtain⟨b,off,rfl,hbB,hc⟩:=(HS.out.j.below hC.below).dF aN hlj hf
    have hso:=hid (HS.out.oj y (List.mem_of_getElem? hf))
    have hstep:=hid (J8 HEJ.out hf)
    obtain⟨name,prio,need,tries,tag⟩:=y
    obtain⟨c0,c1,c2,c3,c4⟩:=rc5 hc
    have hsz1:=hC.below.size
    have hlb:b<wr.heap.size:=by omega
    have hb0:=((Below.refl wr.heap.size wr).alloc (Nat.le_refl _) (.cells #[.string name,.int .i64 prio,.int .i64 need,.int .i64 tries,.string tag] 59)).drew
    have htab:=hC.tabs.below hb0
    have hTl:=hC.tabs.t.lt
    have t0:(wr.alloc (.cells #[.string name,.int .i64 prio,.int .i64 need,.int .i64 tries,.string tag] 59)).cell? ⟨w3.heap.size+1+1+1,0,none⟩=some (.map (some w3.heap.size)):=htab.t.cell 0
    obtain⟨w5,hput,hm5,hg5⟩:=htab.m1.put Tryz.underlying157 (by unfold maxLen; omega) name hso.out.1 (.agg #[.string name,.int .i64 prio,.int .i64 need,.int .i64 tries,.string tag])
    have hnext:=hid (show EV w w5 ⟨rev,jobs,nodes,leases⟩ ⟨some ⟨b,off,none⟩,nj,cj,an,nn,cn,al,nl,cl⟩ w.heap.size (w3.heap.size+1+1+1) w3.heap.size (w3.heap.size+1) (w3.heap.size+1+1) (k+1) 0 0 (ru (jobs.take (k+1))) noG noG from
     ⟨below_grown (hC.below.trans (hb0.mono hsz1)) hg5 (by omega),(hg5.block _ (by simp; omega) (by simp; omega)).trans (hC.box.below hb0 (by omega)),htab.Ot hg5 (by omega) (by omega) (by omega) (hm5.congr (fun s=>(hstep.out s).symm))⟩)
    clear hc hf hm5 hg5 htab hC hb0
    go_wp2
    go_region
    go_wp2
    go_roundw
    case rel=>exact⟨k+1,by omega,by go_num,hnext.out⟩
    case measure=>simp [intOf]; omega
  · obtain rfl:k=nj:=by omega
    have htk:List.take k jobs=jobs:=List.take_of_length_le (by omega)
    simp only [htk] at hC
    have hC1:=hid hC
    have y2:wr.cell? ⟨w.heap.size,2,none⟩=some (.slice an nn cn):=hC.box.cell 2
    clear hC HC0 htk
    go_wp2
    clear y2
    go_loopw [10,71] (fun _ i wr=>Q9 w wr ⟨rev,jobs,nodes,leases⟩ ⟨aj,k,cj,an,nn,cn,al,nl,cl⟩ w3.heap.size k nn i) (fun _ i _=>nn - (intOf i).toNat)
    case atStart=>exact⟨0,Nat.zero_le _,rfl,hC1.out⟩
    case round=>
     clear hC1
     obtain⟨m,hm,rfl,hC⟩:=hrel
     by_cases hlt:m<nn
     · obtain⟨y,hf⟩:∃ y,nodes[m]? = some y:=⟨_,List.getElem?_eq_getElem (by omega)⟩
       obtain⟨b,off,rfl,hbB,hc⟩:=(HS.out.n.below hC.below).dF bF hln hf
       have hso:=hid (HS.out.on_ y (List.mem_of_getElem? hf))
       have hstep:=hid (GP HEN.out hf)
       obtain⟨name,room,zone⟩:=y
       obtain⟨c0,c1,c2⟩:=rc3 hc
       have hsz1:=hC.below.size
       have hlb:b<wr.heap.size:=by omega
       have hb0:=((Below.refl wr.heap.size wr).alloc (Nat.le_refl _) (.cells #[.string name,.int .i64 room,.string zone] 61)).drew
       have htab:=hC.tabs.below hb0
       have hTl:=hC.tabs.t.lt
       have t0:(wr.alloc (.cells #[.string name,.int .i64 room,.string zone] 61)).cell? ⟨w3.heap.size+1+1+1,1,none⟩=some (.map (some (w3.heap.size+1))):=htab.t.cell 1
       obtain⟨w5,hput,hm5,hg5⟩:=htab.m2.put Tryz.underlying158 (by unfold maxLen; omega) name hso.out.1 (.agg #[.string name,.int .i64 room,.string zone])
       have hnext:=hid (show EV w w5 ⟨rev,jobs,nodes,leases⟩ ⟨aj,k,cj,some ⟨b,off,none⟩,nn,cn,al,nl,cl⟩ w.heap.size (w3.heap.size+1+1+1) w3.heap.size (w3.heap.size+1) (w3.heap.size+1+1) k (m+1) 0 (ru jobs) (nB (nodes.take (m+1))) noG from
        ⟨below_grown (hC.below.trans (hb0.mono hsz1)) hg5 (by omega),(hg5.block _ (by simp; omega) (by simp; omega)).trans (hC.box.below hb0 (by omega)),htab.Mm hg5 (by omega) (by omega) (by omega) (hm5.congr (fun s=>(hstep.out s).symm))⟩)
       clear hc hf hm5 hg5 htab hC hb0
       go_wp2
       go_region
       go_wp2
       go_roundw
       case rel=>exact⟨m+1,by omega,by go_num,hnext.out⟩
       case measure=>simp [intOf]; omega
     · obtain rfl:m=nn:=by omega
       have htk:List.take m nodes=nodes:=List.take_of_length_le (by omega)
       simp only [htk] at hC
       have hC1:=hid hC
       have hsz1:=hC.below.size
       have hTl:=hC.tabs.t.lt
       have y3:wr.cell? ⟨w.heap.size,3,none⟩=some (.slice al nl cl):=hC.box.cell 3
       have hrow:=hid (Bc ⟨rev,jobs,nodes,leases⟩ al nl cl wr (w3.heap.size+1+1+1) w3.heap.size (w3.heap.size+1) (w3.heap.size+1+1) k m noG ((HS.out.l.below hC.below).more (by omega)) hll s2 HS.out.ol (EL HEJ.out) (by omega) (by omega) (by omega) (fun _=>rfl) hC.tabs)
       clear hC htk
       go_wp2_with fail
       refine Calls.mono hrow.out ?_
       rintro e w6 ⟨rfl,hg6,hz6⟩
       have hb6:=hid (below_grown hC1.out.below hg6 (by omega))
       have Pa:=hid (show Blk w6 w.heap.size 26 _ from (hg6.block _ (by omega) (by simp; omega)).trans hC1.out.box)
       have hG6:=hid hg6
       have hZ6:=hid hz6
       clear hrow y3 hg6 hz6
       obtain⟨R,hR⟩:∃ R,bM (eN ⟨rev,jobs,nodes,leases⟩) ak.job leases=R:=⟨_,rfl⟩
       simp only [hR] at hZ6 ⊢
       rw [hR] at IH
       by_cases he:R=0
       rotate_left
       · have hend:=hid (hbad.out R (by rw [IH.out,if_pos he]) he _ hb6.out)
         have e1:(R == 0)=false:=beq_eq_false_iff_ne.2 he
         have e2:(R != 0)=true:=bne_iff_ne.2 he
         go_wp2
         go_ret2
         exact hend.out
       subst he
       obtain⟨g3,hm3,hu3⟩:=hZ6.out rfl
       have hu3':=hid hu3
       have hC6:=hid (show EV w w6 ⟨rev,jobs,nodes,leases⟩ ⟨aj,k,cj,an,m,cn,al,nl,cl⟩ w.heap.size (w3.heap.size+1+1+1) w3.heap.size (w3.heap.size+1) (w3.heap.size+1+1) k m nl (ru jobs) (nB nodes) g3 from
        ⟨hb6.out,Pa.out,hC1.out.tabs.used hG6.out (by omega) (by omega) (by omega) hm3⟩)
       have y2:w6.cell? ⟨w.heap.size,2,none⟩=some (.slice an m cn):=hC6.out.box.cell 2
       clear hm3 hu3 hZ6 hG6 Pa hb6 hC1
       have Hck:=hid (show ay ⟨rev,jobs,nodes,leases⟩=if om ⟨rev,jobs,nodes,leases⟩=true then 0 else 9 by rw [IH.out,if_neg (by simp)])
       clear IH hR
       go_wp2
       clear y2
       go_loopw [2,3,13,94] (fun _ _ _ i wr=>Ra w wr ⟨rev,jobs,nodes,leases⟩ ⟨aj,k,cj,an,m,cn,al,nl,cl⟩ w3.heap.size k m nl g3 m i) (fun _ _ _ i _=>m - (intOf i).toNat)
       case atStart=>exact⟨0,Nat.zero_le _,rfl,hC6.out,rfl⟩
       case round=>
        clear hC6
        obtain⟨q,hq,rfl,hC,hroom⟩:=hrel
        have Mo:=hid hroom
        clear hroom
        by_cases hltq:q<m
        · obtain⟨y,hf⟩:∃ y,nodes[q]? = some y:=⟨_,List.getElem?_eq_getElem (by omega)⟩
          obtain⟨b,off,rfl,hbB,hc⟩:=(HS.out.n.below hC.below).dF bF hln hf
          have hso:=hid (HS.out.on_ y (List.mem_of_getElem? hf))
          have hstep:=hid (Be (st:=⟨rev,jobs,nodes,leases⟩) hf)
          obtain⟨name,room,zone⟩:=y
          obtain⟨c0,c1,c2⟩:=rc3 hc
          have hszq:=hC.below.size
          have hlb:b<wr.heap.size:=by omega
          have hb0:=((Below.refl wr.heap.size wr).alloc (Nat.le_refl _) (.cells #[.string name,.int .i64 room,.string zone] 61)).drew
          have htab:=hC.tabs.below hb0
          have hTlq:=hC.tabs.t.lt
          have t0:(wr.alloc (.cells #[.string name,.int .i64 room,.string zone] 61)).cell? ⟨w3.heap.size+1+1+1,2,none⟩=some (.map (some (w3.heap.size+1+1))):=htab.t.cell 2
          have h3:=htab.m3.look Tryz.underlying159 (IE _) name hso.out.1
          rw [hu3'.out name] at h3
          have hnext:=hid (show EV w (wr.alloc (.cells #[.string name,.int .i64 room,.string zone] 61)).drew ⟨rev,jobs,nodes,leases⟩ ⟨aj,k,cj,some ⟨b,off,none⟩,m,cn,al,nl,cl⟩ w.heap.size (w3.heap.size+1+1+1) w3.heap.size (w3.heap.size+1) (w3.heap.size+1+1) k m nl (ru jobs) (nB nodes) g3 from
           ⟨hC.below.trans (hb0.mono hszq),hC.box.below hb0 (by omega),htab⟩)
          generalize uH ⟨rev,jobs,nodes,leases⟩ name=U at h3 hstep
          clear hc hf htab hC hb0
          by_cases hU:U≤room
          · have d1:decide (room<U)=false:=decide_eq_false (by omega)
            have hok:=hid (show uQ ⟨rev,jobs,nodes,leases⟩ (nodes.drop (q+1))=om ⟨rev,jobs,nodes,leases⟩ by rw [← Mo.out,hstep.out,decide_eq_true hU]; rfl)
            go_wp2
            go_region
            go_wp2
            go_roundw
            case rel=>exact⟨q+1,by omega,by go_num,hnext.out,hok.out⟩
            case measure=>simp [intOf]; omega
          · have d1:decide (room<U)=true:=decide_eq_true (by omega)
            have Rb:=hid (show ay ⟨rev,jobs,nodes,leases⟩=9 by
             have:om ⟨rev,jobs,nodes,leases⟩=false:=by rw [← Mo.out,hstep.out,decide_eq_false hU]; rfl
             rw [Hck.out,this]; rfl)
            go_wp2
            go_region
            go_wp2
            go_ret2
            exact hbad.out 9 Rb.out (by omega) _ hnext.out.below
        · obtain rfl:q=m:=by omega
          have hgood:=hid (show ay ⟨rev,jobs,nodes,leases⟩=0 by
           have:om ⟨rev,jobs,nodes,leases⟩=true:=by rw [← Mo.out,List.drop_of_length_le (by show nodes.length≤q; omega)]; rfl
           rw [Hck.out,if_pos this])
          have HC:=hid hC
          clear hC
          go_wp2
          go_ret2
          exact⟨HC.out.below,.inr ⟨hgood.out,_,_,_,_,_,_,_,g3,rfl,HC.out.tabs,hu3'.out⟩⟩
section
variable {Γ:Type} {P:Program} {ops:Array Oper} {V:Γ→Nat→Value→Prop} {a0:Act} {S:List Nat} {Ph:Nat→Γ→World→Prop}
def GQ (ops:Array Oper) (n:Nat):Bool:=
 (List.range ops.size).all fun i=>match ops[i]? with
  | some o=>(match o.dst with | some t=>decide (t<n) && (List.range i).all (fun j=>match ops[j]? with | some p=>p.dst != some t | none=>true) | none=>true) && o.after.all (fun e=>!Region.binds .any e || decide (e.on<i))
  | none=>true
theorem pC {n:Nat} (h:GQ ops n=true) {i:Nat} {o:Oper} (ho:ops[i]? = some o) :
 (∀ t,o.dst=some t→t<n∧∀ (j:Nat) (p:Oper),ops[j]? = some p→j<i→p.dst≠some t)∧∀ e ∈ o.after,Region.binds .any e=true→e.on<i:=by
 unfold GQ at h
 rw [List.all_eq_true] at h
 have hi:i<ops.size:=(Array.getElem?_eq_some_iff.1 ho).1
 have h1:=h i (List.mem_range.2 hi)
 rw [ho] at h1
 simp only [Bool.and_eq_true] at h1
 obtain⟨h1,h2⟩:=h1
 refine⟨fun t ht=>?_,fun e he hb=>?_⟩
 · rw [ht] at h1
   simp only [Bool.and_eq_true,decide_eq_true_eq] at h1
   refine⟨h1.1,fun j p hp hj=>?_⟩
   have h3:=List.all_eq_true.1 h1.2 j (List.mem_range.2 hj)
   rw [hp] at h3
   simpa using h3
 · have:=(Array.all_eq_true_iff_forall_mem.1 h2) e he
   rw [hb] at this
   simpa using this
theorem lT {n:Nat} (hB:GQ ops n=true) {listed:Array Bool} (hs:listed.size=ops.size) (hr:Region.ready .any ops listed=[]):∀ i,i<ops.size→listed.getD i false=true:=by
 intro i
 induction i using Nat.strongRecOn with
 | _ i ih=>
  intro hi
  have ho:ops[i]? = some ops[i]:=Array.getElem?_eq_getElem hi
  by_cases hl:listed.getD i false=true
  · exact hl
  · exfalso
    have hm:i ∈ Region.ready .any ops listed:=mem_ready.2 ⟨by
     have hx:listed[i]? = some listed[i]:=Array.getElem?_eq_getElem (by omega)
     rw [Array.getD_eq_getD_getElem?,hx] at hl ⊢
     simpa using hl,_,ho,fun e he hb=>?_⟩
    · rw [hr] at hm; cases hm
    · have hlt:=(pC hB ho).2 e he hb
      exact ih e.on hlt (by omega)
theorem uM.Rc {n:Nat} (hB:GQ ops n=true) (hn:a0.tmps.size=n) {listed:Array Bool} {a:Act} {w:World} (hs:listed.size=ops.size)
 {γ γ':Γ} (h:uM ops V S Ph a0 γ listed a w) {i:Nat} {o:Oper} (ho:ops[i]? = some o) (hw:∀ j,waitsFor o j=true→listed.getD j false=true) {u:Value} {w':World} (hgg:∀ j v,j≠i→V γ j v→V γ' j v) (hu:V γ' i u) (hp:∃ p,Mk S (listed.setIfInBounds i true) p∧Ph p γ' w') :
 uM ops V S Ph a0 γ' (listed.setIfInBounds i true) (a.put o.dst u) w':=by
 have hi:i<ops.size:=(Array.getElem?_eq_some_iff.1 ho).1
 have hput:∀ t,o.dst≠some t→(a.put o.dst u).tmps[t]? = a.tmps[t]?:=by
  intro t ht
  unfold Act.put
  cases hd:o.dst with
  | none=>rfl
  | some d=>
   have hne:d≠t:=fun e=>ht (by rw [hd,e])
   simp [Array.getElem?_setIfInBounds,hne]
 refine⟨hp,?_,?_,fun t ht=>?_,fun j p t hp hl ht=>?_,fun j p m hp hl hm=>?_⟩
 · unfold Act.put; split <;> simp [h.size]
 · unfold Act.put; split <;> simp [h.defers]
 · rw [hput t (fun hd=>by
    have:=ht i o ho hd
    rw [gU (by omega),if_pos rfl] at this; cases this)]
   exact h.keep t fun j p hp hd=>by
    have:=ht j p hp hd
    rw [gU (by omega)] at this
    split at this
    · cases this
    · exact this
 · rw [gU (by omega)] at hl
   by_cases hij:i=j
   · subst hij
     rw [ho] at hp; injection hp with hp; subst hp
     have hlt:=((pC hB ho).1 t ht).1
     refine⟨u,?_,hu⟩
     unfold Act.put
     rw [ht]
     simp only [Array.getElem?_setIfInBounds]
     rw [if_pos trivial,if_pos (by rw [h.size,hn]; exact hlt)]
   · rw [if_neg hij] at hl
     obtain⟨u',h1,h2⟩:=h.done j p t hp hl ht
     refine⟨u',?_,hgg _ _ (fun e=>hij e.symm) h2⟩
     rw [hput t ?_]; exact h1
     intro e
     rcases Nat.lt_or_gt_of_ne hij with hlt | hlt
     · exact ((pC hB hp).1 t ht).2 i o ho hlt e
     · exact ((pC hB ho).1 t e).2 j p hp hlt ht
 · rw [gU (by omega)] at hl ⊢
   by_cases him:i=m
   · rw [if_pos him]
   · rw [if_neg him]
     by_cases hij:i=j
     · subst hij
       rw [ho] at hp; injection hp with hp; subst hp
       exact hw m hm
     · rw [if_neg hij] at hl
       exact h.closed j p m hp hl hm
def pY (P:Program) (ops:Array Oper) (o:Oper) (a:Act) (w:World) (K:Act→World→Prop) (Q:Exit→Act→World→Prop):Prop:=
 if Region.wanted o (yielded ops a.tmps)=true then o.wp P a w K Q else K (a.put o.dst undef) w
theorem xI {P:Program} {ops:Array Oper} {o:Oper} {a:Act} {w:World} {K K':Act→World→Prop} {Q:Exit→Act→World→Prop} (h:∀ a w,K a w→K' a w) (hh:pY P ops o a w K Q) :
 (if Region.wanted o (yielded ops a.tmps)=true then o.wp P a w K' Q∨(o.asks P a w∧LetsOut Q) else K' (a.put o.dst undef) w):=by
 unfold pY at hh
 split at hh
 · rename_i hw
   rw [if_pos hw]
   exact .inl (Oper.wp_mono h hh)
 · rename_i hw
   rw [if_neg hw]
   exact h _ _ hh
def Ao {Γ:Type} (P:Program) (ops:Array Oper) (V:Γ→Nat→Value→Prop) (S:List Nat) (Ph:Nat→Γ→World→Prop) (a0:Act) (Q:Exit→Act→World→Prop) (i:Nat) (o:Oper):Prop:=
 ((∃ k,S[k]? = some i∧∀ γ a w,Ph k γ w→Knows ops (V γ) a0 i o a→pY P ops o a w (fun a' w'=>∃ u γ',a'=a.put o.dst u∧(∀ j v,j≠i→V γ j v→V γ' j v)∧V γ' i u∧Ph (k+1) γ' w') Q) ∨
  (i ∉ S∧∃ lo hi,loB S o lo=true∧hiB ops S i hi=true∧∀ p γ a w,lo≤p→p≤hi→Ph p γ w→Knows ops (V γ) a0 i o a→pY P ops o a w (fun a' w'=>∃ u γ',a'=a.put o.dst u∧(∀ j v,j≠i→V γ j v→V γ' j v)∧V γ' i u∧Ph p γ' w') Q))
theorem wJ {n:Nat} {Q:Exit→Act→World→Prop} (hB:GQ ops n=true) (hC:chainB ops S=true) (hn:a0.tmps.size=n)
 (hop:∀ (i:Nat) (o:Oper),ops[i]? = some o→Ao P ops V S Ph a0 Q i o)
 (hQ:∀ γ a w,(∀ listed,(∀ i,i<ops.size→listed.getD i false=true)→uM ops V S Ph a0 γ listed a w)→Q .normal a w) :
 ∀ (fuel:Nat) (γ:Γ) (listed:Array Bool) (a:Act) (w:World),listed.size=ops.size→(listed.toList.filter (! ·)).length≤fuel→uM ops V S Ph a0 γ listed a w→wpAny P .any ops Q fuel listed a w:=by
 have Ak:∀ {γ:Γ} {listed:Array Bool} {a:Act} {w:World},uM ops V S Ph a0 γ listed a w→(∀ i,i<ops.size→listed.getD i false=true)→∀ l':Array Bool,(∀ i,i<ops.size→l'.getD i false=true)→uM ops V S Ph a0 γ l' a w:=by
  intro γ listed a w h hl l' hl'
  refine⟨?_,h.size,h.defers,fun t ht=>h.keep t fun i o ho hd=>absurd (ht i o ho hd) (by rw [hl' i (Array.getElem?_eq_some_iff.1 ho).1]; simp),fun i o t ho _ ht=>h.done i o t ho (hl i (Array.getElem?_eq_some_iff.1 ho).1) ht,fun i o j ho _ hj=>?_⟩
  · obtain⟨p,⟨hp1,hp2⟩,hp3⟩:=h.at_
    refine⟨p,⟨hp1,fun k i hk=>?_⟩,hp3⟩
    have hi:=(gu hC hk).1
    rw [← hp2 k i hk,hl i hi,hl' i hi]
  · refine hl' j ?_
    have hj':=hj
    unfold waitsFor at hj
    obtain⟨e,he,h2⟩:=Array.any_eq_true'.1 hj
    simp only [Bool.and_eq_true,beq_iff_eq] at h2
    have:=(pC hB ho).2 e he h2.2
    have hi:=(Array.getElem?_eq_some_iff.1 ho).1
    omega
 intro fuel
 induction fuel with
 | zero=>
  intro γ listed a w hs hf h
  have hr:Region.ready .any ops listed=[]:=by
   cases hr:Region.ready .any ops listed with
   | nil=>rfl
   | cons i r=>
    exfalso
    have hm:i ∈ Region.ready .any ops listed:=by rw [hr]; exact List.mem_cons_self
    obtain⟨h1,o,ho,_⟩:=mem_ready.1 hm
    have hi:i<ops.size:=(Array.getElem?_eq_some_iff.1 ho).1
    have hx:listed[i]? = some listed[i]:=Array.getElem?_eq_getElem (by omega)
    rw [Array.getD_eq_getD_getElem?,hx] at h1
    have h2:false ∈ listed.toList.filter (! ·):=List.mem_filter.2 ⟨by rw [← show listed[i]=false from by simpa using h1]; exact Array.getElem_mem_toList (by omega),rfl⟩
    have:=List.length_pos_of_mem h2
    omega
  exact⟨hr,hQ γ a w (Ak h (lT hB hs hr))⟩
 | succ fuel ih=>
  intro γ listed a w hs hf h
  refine⟨fun hr=>hQ γ a w (Ak h (lT hB hs hr)),fun i hi=>?_⟩
  obtain⟨h1,o,ho,hall⟩:=mem_ready.1 hi
  have hil:i<ops.size:=(Array.getElem?_eq_some_iff.1 ho).1
  have C8:i<listed.size:=by omega
  have hno:listed.getD i false=false:=by
   have hx:listed[i]? = some listed[i]:=Array.getElem?_eq_getElem C8
   rw [Array.getD_eq_getD_getElem?,hx] at h1 ⊢
   simpa using h1
  have uO:∀ j,waitsFor o j=true→listed.getD j false=true:=by
   intro j hj
   unfold waitsFor at hj
   obtain⟨e,he,h2⟩:=Array.any_eq_true'.1 hj
   simp only [Bool.and_eq_true,beq_iff_eq] at h2
   obtain⟨h2,h3⟩:=h2
   subst h2
   exact hall e he h3
  have ES:Knows ops (V γ) a0 i o a:=⟨fun t v hv hn=>by rw [h.keep t (B4 hn hno h.closed)]; exact hv,fun j p t hp ht hj=>h.done j p t hp (uO j hj) ht,h.defers⟩
  obtain⟨p,⟨hp1,hp2⟩,hp3⟩:=h.at_
  have hk:=hop i o ho
  unfold wpOp
  rw [ho]
  dsimp only
  have next:∀ u γ' w',(∀ j v,j≠i→V γ j v→V γ' j v)→V γ' i u→(∃ p,Mk S (listed.setIfInBounds i true) p∧Ph p γ' w')→wpAny P .any ops Q fuel (listed.setIfInBounds i true) (a.put o.dst u) w':=by
   intro u γ' w' hgg hu hp
   refine ih _ _ _ _ (by simpa using hs) ?_ (h.Rc hB hn hs ho uO hgg hu hp)
   have hx:listed[i]? = some listed[i]:=Array.getElem?_eq_getElem C8
   have h2:listed.toList[i]? = some false:=by
    rw [Array.getElem?_toList,hx]
    rw [Array.getD_eq_getD_getElem?,hx] at hno
    simpa using hno
   have h3:=count_set listed.toList i h2
   simp only [Array.toList_setIfInBounds]
   omega
  rcases hk with ⟨k,hk,hw⟩ | ⟨hns,lo,hi',hlo,hhi,hw⟩
  · have hkp:p=k:=by
     have e1:=hp2 k i hk
     rw [hno] at e1
     have h1:¬ k<p:=by
      intro hlt; rw [decide_eq_true hlt] at e1; cases e1
     rcases (gu hC hk).2.1 with h0 | ⟨o',j,ho',hj,hwj⟩
     · omega
     · rw [ho] at ho'; injection ho' with ho'; subst ho'
       have e2:=hp2 (k - 1) j hj
       rw [uO j hwj] at e2
       have h2:k - 1<p:=of_decide_eq_true e2.symm
       omega
    subst hkp
    refine xI (fun a' w' hh=>?_) (hw γ a w hp3 ES)
    obtain⟨u,γ',rfl,hgg,hu,hph⟩:=hh
    refine next u γ' w' hgg hu ⟨p+1,⟨(List.getElem?_eq_some_iff.1 hk).1,fun m j hm=>?_⟩,hph⟩
    rw [gU C8]
    by_cases hij:i=j
    · rw [if_pos hij]
      subst hij
      have hmp:m=p:=by
       rcases Nat.lt_trichotomy m p with hlt | heq | hgt
       · exact absurd rfl ((gu hC hk).2.2 m i hlt hm)
       · exact heq
       · exact absurd rfl ((gu hC hm).2.2 p i hgt hk)
      rw [decide_eq_true (by omega)]
    · rw [if_neg hij,hp2 m j hm]
      have hne:m≠p:=fun e=>by subst e; rw [hk] at hm; injection hm with hm; exact hij hm
      by_cases hlt:m<p
      · rw [decide_eq_true hlt,decide_eq_true (by omega)]
      · rw [decide_eq_false hlt,decide_eq_false (by omega)]
  · have hl:lo≤p:=by
     unfold loB at hlo
     simp only [Bool.or_eq_true,Bool.and_eq_true,beq_iff_eq,decide_eq_true_eq] at hlo
     rcases hlo with h0 | ⟨h0,h2⟩
     · omega
     · rcases Nat.eq_zero_or_pos lo with h3 | h3
       · omega
       · have hj:S[lo - 1]? = some S[lo - 1]:=List.getElem?_eq_getElem (by omega)
         rw [show S.getD (lo - 1) 0=S[lo - 1] by rw [List.getD_eq_getElem?_getD,hj]; rfl] at h2
         have e:=hp2 _ _ hj
         rw [uO _ h2] at e
         have:=of_decide_eq_true e.symm
         omega
    have hh':p≤hi':=by
     unfold hiB at hhi
     simp only [Bool.or_eq_true,Bool.and_eq_true,beq_iff_eq,decide_eq_true_eq] at hhi
     rcases hhi with h0 | ⟨h0,h2⟩
     · omega
     · have hj:S[hi']? = some S[hi']:=List.getElem?_eq_getElem h0
       rw [show S.getD hi' 0=S[hi'] by rw [List.getD_eq_getElem?_getD,hj]; rfl] at h2
       cases hoj:ops[S[hi']]? with
       | none=>rw [hoj] at h2; cases h2
       | some o'=>
        rw [hoj] at h2
        have e:=hp2 _ _ hj
        by_cases hlt:hi'<p
        · rw [decide_eq_true hlt] at e
          have:=h.closed _ o' i hoj e h2
          rw [hno] at this; cases this
        · omega
    refine xI (fun a' w' hh=>?_) (hw p γ a w hl hh' hp3 ES)
    obtain⟨u,γ',rfl,hgg,hu,hph⟩:=hh
    refine next u γ' w' hgg hu ⟨p,⟨hp1,fun m j hm=>?_⟩,hph⟩
    rw [gU C8,if_neg (fun e=>hns (by subst e; exact List.mem_of_getElem? hm))]
    exact hp2 m j hm
theorem okQ {Q:Exit→Act→World→Prop} {i:Nat} {o:Oper} (lo hi:Nat) (h:∀ p γ a w,lo≤p→p≤hi→Ph p γ w→Knows ops (V γ) a0 i o a→o.wp P a w (fun a' w'=>∃ u γ',a'=a.put o.dst u∧(∀ j v,j≠i→V γ j v→V γ' j v)∧V γ' i u∧Ph p γ' w') Q)
 (h0:i ∉ S:=by decide) (h1:loB S o lo=true:=by decide +kernel) (h2:hiB ops S i hi=true:=by decide +kernel) (hg:o.guard=none:=by rfl):Ao P ops V S Ph a0 Q i o:=
 .inr ⟨h0,lo,hi,h1,h2,fun p γ a w hl hh hp hk=>by
  unfold pY Region.wanted
  rw [hg,if_pos rfl]
  exact h p γ a w hl hh hp hk⟩
theorem ok1 {Q:Exit→Act→World→Prop} {i:Nat} {o:Oper} (lo hi j t:Nat) {p:Oper} {v u:Value} (h1:ops[j]? = some p) (h2:p.dst=some t) (hv:∀ γ x,V γ j x→x=v) (hu:∀ γ,V γ i u)
 (he:∀ (a:Act) (w:World) (K:Act→World→Prop),a.tmps[t]? = some v→K (a.put o.dst u) w→o.wp P a w K Q:=by intro a w K h hk; simp [go_sem,Oper.wp,execOp,Act.eval,h]; exact hk)
 (h0:i ∉ S:=by decide) (hl:loB S o lo=true:=by decide +kernel) (hh:hiB ops S i hi=true:=by decide +kernel) (h3:waitsFor o j=true:=by decide +kernel) (hg:o.guard=none:=by rfl):Ao P ops V S Ph a0 Q i o:=
 okQ lo hi (fun p γ a w _ _ hp hk=>he a w _ (by obtain⟨x,hx,hV⟩:=hk.g j t h1 h2 h3; rw [hx,hv γ x hV]) ⟨u,γ,rfl,fun _ _ _ h=>h,hu γ,hp⟩) h0 hl hh hg
theorem ok0 {Q:Exit→Act→World→Prop} {i:Nat} {o:Oper} (lo hi t:Nat) {v u:Value} (h1:a0.tmps[t]? = some v) (hu:∀ γ,V γ i u)
 (he:∀ (a:Act) (w:World) (K:Act→World→Prop),a.tmps[t]? = some v→K (a.put o.dst u) w→o.wp P a w K Q:=by intro a w K h hk; simp [go_sem,Oper.wp,execOp,Act.eval,h]; exact hk)
 (h0:i ∉ S:=by decide) (hl:loB S o lo=true:=by decide +kernel) (hh:hiB ops S i hi=true:=by decide +kernel) (h3:uN ops i t=true:=by decide +kernel) (hg:o.guard=none:=by rfl):Ao P ops V S Ph a0 Q i o:=
 okQ lo hi (fun p γ a w _ _ hp hk=>he a w _ (hk.k t h1 h3) ⟨u,γ,rfl,fun _ _ _ h=>h,hu γ,hp⟩) h0 hl hh hg
def Ap {Γ:Type} (P:Program) (ops:Array Oper) (V:Γ→Nat→Value→Prop) (S:List Nat) (Ph:Nat→Γ→World→Prop) (a0:Act) (Q:Exit→Act→World→Prop):Nat→List Oper→Prop
 | _,[]=>True
 | i,o :: l=>Ao P ops V S Ph a0 Q i o∧Ap P ops V S Ph a0 Q (i+1) l
theorem Ap.all {Q:Exit→Act→World→Prop}:∀ {l:List Oper} {k:Nat},Ap P ops V S Ph a0 Q k l→∀ (i:Nat) (o:Oper),l[i]? = some o→Ao P ops V S Ph a0 Q (k+i) o
 | [],_,_,i,o,h=>by simp at h
 | x :: l,k,hh,0,o,h=>by
  have e:x=o:=by simpa using h
  subst e; exact hh.1
 | x :: l,k,hh,i+1,o,h=>by
  have:=hh.2.all i o (by simpa using h)
  rwa [show k+(i+1)=k+1+i from by omega]
theorem uR {id:Nat} {n:Nat} {l:List Oper} {w0:World} {Q:Exit→Act→World→Prop} (hm:P.follows .mixedOrders=true) (V:Γ→Nat→Value→Prop) (S:List Nat) (Ph:Nat→Γ→World→Prop) (γ0:Γ) (hB:GQ l.toArray n=true) (hC:chainB l.toArray S=true) (hn:a0.tmps.size=n)
 (h0:Ph 0 γ0 w0.drew) (hop:Ap P l.toArray V S Ph a0 Q 0 l) (hQ:∀ γ a w,Al l.toArray V S Ph a0 γ a w→Q .normal a w):(Code.region id l.toArray true).wp P Q a0 w0:=by
 refine wp_region_any hm (wJ hB hC hn (fun i o ho=>by
  have:=hop.all i o (by simpa using ho)
  rwa [Nat.zero_add] at this) (fun γ a w h=>hQ γ a w ?_) l.toArray.size γ0 (Array.replicate l.toArray.size false) a0 _ (by simp) ?_ ?_)
 · have hh:=h (Array.replicate l.toArray.size true) (fun i hi=>by rw [Array.getD_eq_getD_getElem?,Array.getElem?_replicate,if_pos hi]; rfl)
   obtain⟨p,⟨hp1,hp2⟩,hp3⟩:=hh.at_
   have hpl:p=S.length:=by
    rcases Nat.eq_zero_or_pos S.length with h0 | h0
    · omega
    · have hk:S[S.length - 1]? = some S[S.length - 1]:=List.getElem?_eq_getElem (by omega)
      have e:=hp2 _ _ hk
      rw [Array.getD_eq_getD_getElem?,Array.getElem?_replicate,if_pos (gu hC hk).1] at e
      have:=of_decide_eq_true e.symm
      omega
   subst hpl
   exact⟨hp3,hh.size,hh.defers,fun t ht=>hh.keep t fun i o ho hd=>absurd hd (ht i o ho),fun i o t ho ht=>hh.done i o t ho (by rw [Array.getD_eq_getD_getElem?,Array.getElem?_replicate,if_pos (Array.getElem?_eq_some_iff.1 ho).1]; rfl) ht⟩
 · exact Nat.le_trans (List.length_filter_le _ _) (by simp)
 · have hf:∀ i,(Array.replicate l.toArray.size false).getD i false=false:=by
    intro i
    rw [Array.getD_eq_getD_getElem?,Array.getElem?_replicate]
    split <;> rfl
   exact⟨⟨0,⟨Nat.zero_le _,fun k i _=>by rw [hf]; rfl⟩,h0⟩,rfl,rfl,fun _ _=>rfl,fun i o t ho hl _=>(by rw [hf] at hl; cases hl),fun i o j ho hl _=>(by rw [hf] at hl; cases hl)⟩
theorem rq {id:Nat} {l:List Oper} {w0:World} {Q:Exit→Act→World→Prop} (n:Nat) (V:Γ→Nat→Value→Prop) (S:List Nat) (Ph:Nat→Γ→World→Prop) (γ0:Γ)
 (h0:Ph 0 γ0 w0.drew) (hop:Ap P l.toArray V S Ph a0 Q 0 l) (hQ:∀ γ a w,Al l.toArray V S Ph a0 γ a w→Q .normal a w) (hm:P.follows .mixedOrders=true:=by kernel_rfl) (hB:GQ l.toArray n=true:=by decide +kernel) (hC:chainB l.toArray S=true:=by decide +kernel) (hn:a0.tmps.size=n:=by rfl):(Code.region id l.toArray true).wp P Q a0 w0:=
 uR hm V S Ph γ0 hB hC hn h0 hop hQ
end
theorem bG {P:Program} {ops:Array Oper} {o:Oper} {a:Act} {w:World} {K:Act→World→Prop} {Q:Exit→Act→World→Prop} (h:o.guard=none) (ht:o.wp P a w K Q):pY P ops o a w K Q:=by
 unfold pY Region.wanted
 rw [h,if_pos rfl]
 exact ht
end Go.Proofs.YtcpgnjmaampglaaGreatDoor
