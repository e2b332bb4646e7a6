/- Of the proof of a statement: StChk, HasF, EqRows. -/
import Derived.BigQuiet
import Derived.Deep.QuietTactic
import Derived.Test.YtbllgmociapjeaaGreatDoorVRq
import Derived.Test.YtbllgmociapjeaaGreatDoorVTake
set_option linter.unusedVariables false
set_option linter.unusedSimpArgs false
set_option maxRecDepth 100000
set_option maxHeartbeats 8000000
/- The walk of check of a state. -/
namespace Go.Proofs.YtbllgmociapjeaaGreatDoor
open Go.Lib (hid)
open Go.RowKit
theorem E4 (st:ah) (x:StA) (w:World) (hS:StAt w w.heap.size st x) (hT:Tabs w) :
 Calls Tryz.prog 88 #[.agg (stC st x)] w (zy st w):=by
 have HS:=hid hS
 have hb1:Below w.heap.size w (w.alloc (.cells (stC st x) 26)):=(Below.refl _ _).alloc (Nat.le_refl _) _
 have hB1:Blk (w.alloc (.cells (stC st x) 26)) w.heap.size 26 (stC st x):=heap_alloc_new w _
 have hbad:=hid (fun (E:Int) (h:aE st=E) (hE:E≠0) w'=>zy.bad (w:=w) (w':=w') h hE)
 have Hb1:=hid hb1
 have HB1:=hid hB1
 have HT1:=hid (hT.below hb1)
 clear hb1 hB1 hS hT
 obtain⟨rev,jobs,nodes,leases⟩:=st
 obtain⟨aj,nj,cj,an,nn,cn,al,nl,cl⟩:=x
 simp only [stC] at *
 go_enter Tryz.func88,Tryz.ntmps88
 go_wp2_with fail
 refine Calls.mono (gU _ _ _ _) ?_
 rintro e w0 ⟨rfl,rfl⟩
 cases hr:ranged rev 0 1099511627776
 · have hend:=hid (hbad.out 1 (Ci hr) (by omega) _ Hb1.out)
   go_wp2
   go_ret2
   exact hend.out
 have hlj:=HS.out.lj
 have hln:=HS.out.ln
 have hll:=HS.out.ll
 have hbj:=HS.out.bj
 have hbn:=HS.out.bn
 have hbl:=HS.out.bl
 simp only at hlj hln hll hbj hbn hbl
 by_cases s1:nj≤40
 rotate_left
 · have hend:=hid (hbad.out 2 (ow hr (by unfold eC; rw [decide_eq_false (by simp only; omega)]; rfl)) (by omega) _ Hb1.out)
   have d1:decide ((40:Int)<(nj:Int))=true:=decide_eq_true (by omega)
   go_wp2
   go_ret2
   exact hend.out
 have d1:decide ((40:Int)<(nj:Int))=false:=decide_eq_false (by omega)
 by_cases s2:nl≤40
 rotate_left
 · have hend:=hid (hbad.out 2 (ow hr (by unfold eC; simp only; rw [decide_eq_false (p:=leases.length≤40) (by omega)]; simp)) (by omega) _ Hb1.out)
   have d2:decide ((40:Int)<(nl:Int))=true:=decide_eq_true (by omega)
   go_wp2
   go_ret2
   exact hend.out
 have d2:decide ((40:Int)<(nl:Int))=false:=decide_eq_false (by omega)
 by_cases s3:nn≤20
 rotate_left
 · have hend:=hid (hbad.out 2 (ow hr (by unfold eC; simp only; rw [decide_eq_false (p:=nodes.length≤20) (by omega)]; simp)) (by omega) _ Hb1.out)
   have d3:decide ((20:Int)<(nn:Int))=true:=decide_eq_true (by omega)
   go_wp2
   go_ret2
   exact hend.out
 have d3:decide ((20:Int)<(nn:Int))=false:=decide_eq_false (by omega)
 have hsz:=hid (show eC ⟨rev,jobs,nodes,leases⟩=true by unfold eC; simp; omega)
 have hS1:=hid ((HS.out.below Hb1.out).more Hb1.out.size)
 go_wp2_with fail
 refine Calls.mono (tH jobs aj nj cj _ hS1.out.j hS1.out.lj hbj hS1.out.oj HT1.out) ?_
 rintro e w2 ⟨rfl,hb2⟩
 have Hb2:=hid (Hb1.out.trans (hb2.mono Hb1.out.size))
 have HB2:=hid (HB1.out.below hb2 HB1.out.lt)
 have HT2:=hid (HT1.out.below hb2)
 have y2:w2.cell? ⟨w.heap.size,2,none⟩=some (.slice an nn cn):=HB2.out.cell 2
 clear d1 d2 d3 hb2 HT1 HB1
 obtain⟨EJ,hEJ⟩:∃ E,bT fB aC.name jobs=E:=⟨_,rfl⟩
 rw [hEJ]
 by_cases he:EJ=0
 rotate_left
 · have hend:=hid (hbad.out EJ (by rw [Dh hr hsz.out (by rw [hEJ]; exact he)]; exact hEJ) he _ Hb2.out)
   have e1:(EJ == 0)=false:=beq_eq_false_iff_ne.2 he
   have e2:(EJ != 0)=true:=bne_iff_ne.2 he
   go_wp2
   go_ret2
   exact hend.out
 subst he
 have HEJ:=hid hEJ
 clear hEJ
 have hS2:=hid ((HS.out.below Hb2.out).more Hb2.out.size)
 go_wp2_with fail
 refine Calls.mono (qN nodes an nn cn _ hS2.out.n hS2.out.ln hbn hS2.out.on_ HT2.out) ?_
 rintro e w3 ⟨rfl,hb3⟩
 have Hb3:=hid (Hb2.out.trans (hb3.mono Hb2.out.size))
 have HB3:=hid (HB2.out.below hb3 HB2.out.lt)
 clear y2 hb3 HT2 HB2 hS2 hS1
 obtain⟨EN,hEN⟩:∃ E,bT dO aA.name nodes=E:=⟨_,rfl⟩
 rw [hEN]
 by_cases he:EN=0
 rotate_left
 · have hend:=hid (hbad.out EN (by rw [AO hr hsz.out HEJ.out (by rw [hEN]; exact he)]; exact hEN) he _ Hb3.out)
   have e1:(EN == 0)=false:=beq_eq_false_iff_ne.2 he
   have e2:(EN != 0)=true:=bne_iff_ne.2 he
   go_wp2
   go_ret2
   exact hend.out
 subst he
 have HEN:=hid hEN
 have Dq:=hid (Di hr hsz.out HEJ.out hEN)
 clear hEN
 have hSl:=HB3.out.lt
 have hmk:=fun t W=>run_makeMap (P:=Tryz.prog) t W
 have z1:(Bh w3).cell? ⟨w.heap.size,1,none⟩=some (.slice aj nj cj):=((oM w3).cell (p:=⟨w.heap.size,1,none⟩) hSl).trans (HB3.out.cell 1)
 have HC0:=hid (show Bi w (Bh w3) ⟨rev,jobs,nodes,leases⟩ ⟨aj,nj,cj,an,nn,cn,al,nl,cl⟩ w.heap.size (w3.heap.size+1+1+1) w3.heap.size (w3.heap.size+1) (w3.heap.size+1+1) 0 0 0 noG noG noG from
  ⟨Hb3.out.trans ((oM w3).mono Hb3.out.size),HB3.out.below (oM w3) hSl,CW w3⟩)
 have hw3:=Hb3.out.size
 clear HB3 Hb3
 unfold Bh at z1
 go_wp2
 clear z1 hmk
 go_loopw [8,56] (fun _ i wr=>LS w wr ⟨rev,jobs,nodes,leases⟩ ⟨aj,nj,cj,an,nn,cn,al,nl,cl⟩ w3.heap.size nj i) (fun _ i _=>nj - (intOf i).toNat)
 case atStart=>exact⟨0,Nat.zero_le _,rfl,HC0.out⟩
 case round=>
  obtain⟨k,hk,rfl,hC⟩:=hrel
  by_cases hlt:k<nj
  · obtain⟨y,hf⟩:∃ y,jobs[k]? = some y:=⟨_,List.getElem?_eq_getElem (by omega)⟩
    obtain⟨b,off,rfl,hbB,hc⟩:=(HS.out.j.below hC.below).dB aV hlj hf
    have hso:=hid (HS.out.oj y (List.mem_of_getElem? hf))
    have hstep:=hid (Fc HEJ.out hf)
    obtain⟨name,prio,need,tries,tag⟩:=y
    obtain⟨c0,c1,c2,c3,c4⟩:=rc5 hc
    have hsz1:=hC.below.size
    have hlb:b<wr.heap.size:=by omega
    have hb0:=((Below.refl wr.heap.size wr).alloc (Nat.le_refl _) (.cells #[.string name,.int .i64 prio,.int .i64 need,.int .i64 tries,.string tag] 32)).drew
    have htab:=hC.tabs.below hb0
    have hTl:=hC.tabs.t.lt
    have t0:(wr.alloc (.cells #[.string name,.int .i64 prio,.int .i64 need,.int .i64 tries,.string tag] 32)).cell? ⟨w3.heap.size+1+1+1,0,none⟩=some (.map (some w3.heap.size)):=htab.t.cell 0
    obtain⟨w5,hput,hm5,hg5⟩:=htab.m1.put Tryz.underlying233 (by unfold maxLen; omega) name hso.out.1 (.agg #[.string name,.int .i64 prio,.int .i64 need,.int .i64 tries,.string tag])
    have hnext:=hid (show Bi w w5 ⟨rev,jobs,nodes,leases⟩ ⟨some ⟨b,off,none⟩,nj,cj,an,nn,cn,al,nl,cl⟩ w.heap.size (w3.heap.size+1+1+1) w3.heap.size (w3.heap.size+1) (w3.heap.size+1+1) (k+1) 0 0 (oq (jobs.take (k+1))) noG noG from
     ⟨below_grown (hC.below.trans (hb0.mono hsz1)) hg5 (by omega),(hg5.block _ (by simp; omega) (by simp; omega)).trans (hC.box.below hb0 (by omega)),htab.JU hg5 (by omega) (by omega) (by omega) (hm5.congr (fun s=>(hstep.out s).symm))⟩)
    clear hc hf hm5 hg5 htab hC hb0
    go_wp2
    go_region
    go_wp2
    go_roundw
    case rel=>exact⟨k+1,by omega,by go_num,hnext.out⟩
    case measure=>simp [intOf]; omega
  · obtain rfl:k=nj:=by omega
    have htk:List.take k jobs=jobs:=List.take_of_length_le (by omega)
    simp only [htk] at hC
    have hC1:=hid hC
    have y2:wr.cell? ⟨w.heap.size,2,none⟩=some (.slice an nn cn):=hC.box.cell 2
    clear hC HC0 htk
    go_wp2
    clear y2
    go_loopw [10,71] (fun _ i wr=>LT w wr ⟨rev,jobs,nodes,leases⟩ ⟨aj,k,cj,an,nn,cn,al,nl,cl⟩ w3.heap.size k nn i) (fun _ i _=>nn - (intOf i).toNat)
    case atStart=>exact⟨0,Nat.zero_le _,rfl,hC1.out⟩
    case round=>
     clear hC1
     obtain⟨m,hm,rfl,hC⟩:=hrel
     by_cases hlt:m<nn
     · obtain⟨y,hf⟩:∃ y,nodes[m]? = some y:=⟨_,List.getElem?_eq_getElem (by omega)⟩
       obtain⟨b,off,rfl,hbB,hc⟩:=(HS.out.n.below hC.below).dB aJ hln hf
       have hso:=hid (HS.out.on_ y (List.mem_of_getElem? hf))
       have hstep:=hid (CX HEN.out hf)
       obtain⟨name,room,zone⟩:=y
       obtain⟨c0,c1,c2⟩:=rc3 hc
       have hsz1:=hC.below.size
       have hlb:b<wr.heap.size:=by omega
       have hb0:=((Below.refl wr.heap.size wr).alloc (Nat.le_refl _) (.cells #[.string name,.int .i64 room,.string zone] 34)).drew
       have htab:=hC.tabs.below hb0
       have hTl:=hC.tabs.t.lt
       have t0:(wr.alloc (.cells #[.string name,.int .i64 room,.string zone] 34)).cell? ⟨w3.heap.size+1+1+1,1,none⟩=some (.map (some (w3.heap.size+1))):=htab.t.cell 1
       obtain⟨w5,hput,hm5,hg5⟩:=htab.m2.put Tryz.underlying234 (by unfold maxLen; omega) name hso.out.1 (.agg #[.string name,.int .i64 room,.string zone])
       have hnext:=hid (show Bi w w5 ⟨rev,jobs,nodes,leases⟩ ⟨aj,k,cj,some ⟨b,off,none⟩,nn,cn,al,nl,cl⟩ w.heap.size (w3.heap.size+1+1+1) w3.heap.size (w3.heap.size+1) (w3.heap.size+1+1) k (m+1) 0 (oq jobs) (lS (nodes.take (m+1))) noG from
        ⟨below_grown (hC.below.trans (hb0.mono hsz1)) hg5 (by omega),(hg5.block _ (by simp; omega) (by simp; omega)).trans (hC.box.below hb0 (by omega)),htab.Is hg5 (by omega) (by omega) (by omega) (hm5.congr (fun s=>(hstep.out s).symm))⟩)
       clear hc hf hm5 hg5 htab hC hb0
       go_wp2
       go_region
       go_wp2
       go_roundw
       case rel=>exact⟨m+1,by omega,by go_num,hnext.out⟩
       case measure=>simp [intOf]; omega
     · obtain rfl:m=nn:=by omega
       have htk:List.take m nodes=nodes:=List.take_of_length_le (by omega)
       simp only [htk] at hC
       have hC1:=hid hC
       have hsz1:=hC.below.size
       have hTl:=hC.tabs.t.lt
       have y3:wr.cell? ⟨w.heap.size,3,none⟩=some (.slice al nl cl):=hC.box.cell 3
       have hrow:=hid (xq ⟨rev,jobs,nodes,leases⟩ al nl cl wr (w3.heap.size+1+1+1) w3.heap.size (w3.heap.size+1) (w3.heap.size+1+1) k m noG ((HS.out.l.below hC.below).more (by omega)) hll s2 HS.out.ol (AN HEJ.out) (by omega) (by omega) (by omega) (fun _=>rfl) hC.tabs)
       clear hC htk
       go_wp2_with fail
       refine Calls.mono hrow.out ?_
       rintro e w6 ⟨rfl,hg6,hz6⟩
       have hb6:=hid (below_grown hC1.out.below hg6 (by omega))
       have Ku:=hid (show Blk w6 w.heap.size 26 _ from (hg6.block _ (by omega) (by simp; omega)).trans hC1.out.box)
       have hG6:=hid hg6
       have hZ6:=hid hz6
       clear hrow y3 hg6 hz6
       obtain⟨R,hR⟩:∃ R,bT (fC ⟨rev,jobs,nodes,leases⟩) ak.job leases=R:=⟨_,rfl⟩
       simp only [hR] at hZ6 ⊢
       rw [hR] at Dq
       by_cases he:R=0
       rotate_left
       · have hend:=hid (hbad.out R (by rw [Dq.out,if_pos he]) he _ hb6.out)
         have e1:(R == 0)=false:=beq_eq_false_iff_ne.2 he
         have e2:(R != 0)=true:=bne_iff_ne.2 he
         go_wp2
         go_ret2
         exact hend.out
       subst he
       obtain⟨g3,hm3,hu3⟩:=hZ6.out rfl
       have hu3':=hid hu3
       have hC6:=hid (show Bi w w6 ⟨rev,jobs,nodes,leases⟩ ⟨aj,k,cj,an,m,cn,al,nl,cl⟩ w.heap.size (w3.heap.size+1+1+1) w3.heap.size (w3.heap.size+1) (w3.heap.size+1+1) k m nl (oq jobs) (lS nodes) g3 from
        ⟨hb6.out,Ku.out,hC1.out.tabs.used hG6.out (by omega) (by omega) (by omega) hm3⟩)
       have y2:w6.cell? ⟨w.heap.size,2,none⟩=some (.slice an m cn):=hC6.out.box.cell 2
       clear hm3 hu3 hZ6 hG6 Ku hb6 hC1
       have Hck:=hid (show aE ⟨rev,jobs,nodes,leases⟩=if mF ⟨rev,jobs,nodes,leases⟩=true then 0 else 9 by rw [Dq.out,if_neg (by simp)])
       clear Dq hR
       go_wp2
       clear y2
       go_loopw [2,3,13,94] (fun _ _ _ i wr=>LU w wr ⟨rev,jobs,nodes,leases⟩ ⟨aj,k,cj,an,m,cn,al,nl,cl⟩ w3.heap.size k m nl g3 m i) (fun _ _ _ i _=>m - (intOf i).toNat)
       case atStart=>exact⟨0,Nat.zero_le _,rfl,hC6.out,rfl⟩
       case round=>
        clear hC6
        obtain⟨q,hq,rfl,hC,hroom⟩:=hrel
        have It:=hid hroom
        clear hroom
        by_cases hltq:q<m
        · obtain⟨y,hf⟩:∃ y,nodes[q]? = some y:=⟨_,List.getElem?_eq_getElem (by omega)⟩
          obtain⟨b,off,rfl,hbB,hc⟩:=(HS.out.n.below hC.below).dB aJ hln hf
          have hso:=hid (HS.out.on_ y (List.mem_of_getElem? hf))
          have hstep:=hid (xD (st:=⟨rev,jobs,nodes,leases⟩) hf)
          obtain⟨name,room,zone⟩:=y
          obtain⟨c0,c1,c2⟩:=rc3 hc
          have hszq:=hC.below.size
          have hlb:b<wr.heap.size:=by omega
          have hb0:=((Below.refl wr.heap.size wr).alloc (Nat.le_refl _) (.cells #[.string name,.int .i64 room,.string zone] 34)).drew
          have htab:=hC.tabs.below hb0
          have hTlq:=hC.tabs.t.lt
          have t0:(wr.alloc (.cells #[.string name,.int .i64 room,.string zone] 34)).cell? ⟨w3.heap.size+1+1+1,2,none⟩=some (.map (some (w3.heap.size+1+1))):=htab.t.cell 2
          have h3:=htab.m3.look Tryz.underlying235 (Dg _) name hso.out.1
          rw [hu3'.out name] at h3
          have hnext:=hid (show Bi w (wr.alloc (.cells #[.string name,.int .i64 room,.string zone] 34)).drew ⟨rev,jobs,nodes,leases⟩ ⟨aj,k,cj,some ⟨b,off,none⟩,m,cn,al,nl,cl⟩ w.heap.size (w3.heap.size+1+1+1) w3.heap.size (w3.heap.size+1) (w3.heap.size+1+1) k m nl (oq jobs) (lS nodes) g3 from
           ⟨hC.below.trans (hb0.mono hszq),hC.box.below hb0 (by omega),htab⟩)
          generalize rB ⟨rev,jobs,nodes,leases⟩ name=U at h3 hstep
          clear hc hf htab hC hb0
          by_cases hU:U≤room
          · have d1:decide (room<U)=false:=decide_eq_false (by omega)
            have hok:=hid (show rR ⟨rev,jobs,nodes,leases⟩ (nodes.drop (q+1))=mF ⟨rev,jobs,nodes,leases⟩ by rw [← It.out,hstep.out,decide_eq_true hU]; rfl)
            go_wp2
            go_region
            go_wp2
            go_roundw
            case rel=>exact⟨q+1,by omega,by go_num,hnext.out,hok.out⟩
            case measure=>simp [intOf]; omega
          · have d1:decide (room<U)=true:=decide_eq_true (by omega)
            have LV:=hid (show aE ⟨rev,jobs,nodes,leases⟩=9 by
             have:mF ⟨rev,jobs,nodes,leases⟩=false:=by rw [← It.out,hstep.out,decide_eq_false hU]; rfl
             rw [Hck.out,this]; rfl)
            go_wp2
            go_region
            go_wp2
            go_ret2
            exact hbad.out 9 LV.out (by omega) _ hnext.out.below
        · obtain rfl:q=m:=by omega
          have hgood:=hid (show aE ⟨rev,jobs,nodes,leases⟩=0 by
           have:mF ⟨rev,jobs,nodes,leases⟩=true:=by rw [← It.out,List.drop_of_length_le (by show nodes.length≤q; omega)]; rfl
           rw [Hck.out,if_pos this])
          have HC:=hid hC
          clear hC
          go_wp2
          go_ret2
          exact⟨HC.out.below,.inr ⟨hgood.out,_,_,_,_,_,_,_,g3,rfl,HC.out.tabs,hu3'.out⟩⟩
end Go.Proofs.YtbllgmociapjeaaGreatDoor
/- The walks of slices.IndexFunc and ContainsFunc at jobs and nodes, for any function value that answers a predicate. -/
namespace Go.Proofs.YtbllgmociapjeaaGreatDoor
open Go.Lib (hid)
open Go.RowKit
theorem JV (p:aC→Bool) (F:FuncId) (caps:Array Value) (xs:List aC) (A:Option Addr) (n c:Nat) (w:World) (hent:∀ args w,(callFunc F args).run Tryz.prog w = .ok (.enter F args) w) (hx:aU w w.heap.size 5 A n (au aI xs)) (hl:xs.length=n) (hn:n≤9223372036854775807) (hp:kQ p F caps aI xs w) :
 Calls Tryz.prog 235 #[.slice A n c,.func (.func F) #[] caps] w (sK p xs w):=by
 have Hl:=hid hl
 have Hp:=hid hp
 clear hl hp
 go_enter Tryz.func235,Tryz.ntmps235
 go_wp2
 go_loopw [4,5,8,16] (fun _ _ i _ wr=>xR p xs n w i wr) (fun _ _ i _ _=>n - (intOf i).toNat)
 case atStart=>exact⟨0,Nat.zero_le _,rfl,by simp,Below.refl _ _⟩
 case round=>
  obtain⟨k,hk,rfl,hnone,hb⟩:=hrel
  have dz:=hid hnone
  have Hb:=hid hb
  have hsz:=hb.size
  clear hnone
  by_cases hlt:k<n
  · obtain⟨x,hf⟩:∃ x,xs[k]? = some x:=⟨_,List.getElem?_eq_getElem (by rw [Hl.out]; exact hlt)⟩
    obtain⟨b,off,rfl,hbB,hc⟩:=(hx.below hb).dB aV Hl.out hf
    have Hf:=hid hf
    have hcon:=hid (Hp.out wr hb x (List.mem_of_getElem? hf))
    obtain⟨t,ht⟩:∃ t,p x=t:=⟨_,rfl⟩
    rw [ht] at hcon
    have Ht:=hid ht
    obtain⟨name,prio,need,tries,tag⟩:=x
    obtain⟨c0,c1,c2,c3,c4⟩:=rc5 hc
    have hcon:=hid (show Calls Tryz.prog F (#[.agg #[.string name,.int .i64 prio,.int .i64 need,.int .i64 tries,.string tag]] ++ caps) wr fun e W'=>e = .returned (.bool t)∧Below wr.heap.size wr W' from hcon.out)
    clear hc hf hx hb ht
    have hlb:b<wr.heap.size:=by omega
    go_wp2_with fail
    refine Calls.mono hcon.out ?_
    rintro e w2 ⟨rfl,hb2⟩
    have Hb2:=hid (Hb.out.trans (hb2.mono Hb.out.size))
    clear hcon hb2
    cases t
    · have fin:=hid (mQ Hf.out dz.out Ht.out)
      go_wp2
      go_roundw
      case rel=>exact⟨k+1,by omega,by go_num,fin.out,Hb2.out⟩
      case measure=>simp [intOf]; omega
    · have fin:=hid (o9 Hf.out Ht.out)
      go_wp2
      go_ret
      exact⟨_,rfl,Hb2.out,.inr ⟨by omega,fin.out⟩⟩
  · have fin:=hid (pq dz.out (by rw [Hl.out]; omega))
    clear hx
    go_wp2
    go_ret
    exact⟨_,rfl,Hb.out,.inl ⟨rfl,fin.out⟩⟩
theorem FJ (p:aC→Bool) (F:FuncId) (caps:Array Value) (xs:List aC) (A:Option Addr) (n c:Nat) (w:World) (hent:∀ args w,(callFunc F args).run Tryz.prog w = .ok (.enter F args) w) (hx:aU w w.heap.size 5 A n (au aI xs)) (hl:xs.length=n) (hn:n≤9223372036854775807) (hp:kQ p F caps aI xs w) :
 Calls Tryz.prog 201 #[.slice A n c,.func (.func F) #[] caps] w fun e w'=>e = .returned (.bool (xs.any p))∧Below w.heap.size w w':=by
 have hC:=hid (JV p F caps xs A n c w hent hx hl hn hp)
 clear hx hl hn hp hent
 go_enter Tryz.func201,Tryz.ntmps201
 go_wp2_with fail
 refine Calls.mono hC.out ?_
 rintro e w2 ⟨i,rfl,hb2,hcase⟩
 rcases hcase with ⟨rfl,hn⟩ | ⟨hi,hn⟩
 · go_wp2
   go_ret
   exact⟨cY hn.symm,hb2⟩
 · have d0:decide (0≤i)=true:=decide_eq_true hi
   go_wp2
   go_ret
   exact⟨cY hn.symm,hb2⟩
theorem Iu (p:aA→Bool) (F:FuncId) (caps:Array Value) (xs:List aA) (A:Option Addr) (n c:Nat) (w:World) (hent:∀ args w,(callFunc F args).run Tryz.prog w = .ok (.enter F args) w) (hx:aU w w.heap.size 3 A n (au aB xs)) (hl:xs.length=n) (hn:n≤9223372036854775807) (hp:kQ p F caps aB xs w) :
 Calls Tryz.prog 237 #[.slice A n c,.func (.func F) #[] caps] w (sK p xs w):=by
 have Hl:=hid hl
 have Hp:=hid hp
 clear hl hp
 go_enter Tryz.func237,Tryz.ntmps237
 go_wp2
 go_loopw [4,5,8,16] (fun _ _ i _ wr=>xR p xs n w i wr) (fun _ _ i _ _=>n - (intOf i).toNat)
 case atStart=>exact⟨0,Nat.zero_le _,rfl,by simp,Below.refl _ _⟩
 case round=>
  obtain⟨k,hk,rfl,hnone,hb⟩:=hrel
  have dz:=hid hnone
  have Hb:=hid hb
  have hsz:=hb.size
  clear hnone
  by_cases hlt:k<n
  · obtain⟨x,hf⟩:∃ x,xs[k]? = some x:=⟨_,List.getElem?_eq_getElem (by rw [Hl.out]; exact hlt)⟩
    obtain⟨b,off,rfl,hbB,hc⟩:=(hx.below hb).dB aJ Hl.out hf
    have Hf:=hid hf
    have hcon:=hid (Hp.out wr hb x (List.mem_of_getElem? hf))
    obtain⟨t,ht⟩:∃ t,p x=t:=⟨_,rfl⟩
    rw [ht] at hcon
    have Ht:=hid ht
    obtain⟨name,room,zone⟩:=x
    obtain⟨c0,c1,c2⟩:=rc3 hc
    have hcon:=hid (show Calls Tryz.prog F (#[.agg #[.string name,.int .i64 room,.string zone]] ++ caps) wr fun e W'=>e = .returned (.bool t)∧Below wr.heap.size wr W' from hcon.out)
    clear hc hf hx hb ht
    have hlb:b<wr.heap.size:=by omega
    go_wp2_with fail
    refine Calls.mono hcon.out ?_
    rintro e w2 ⟨rfl,hb2⟩
    have Hb2:=hid (Hb.out.trans (hb2.mono Hb.out.size))
    clear hcon hb2
    cases t
    · have fin:=hid (mQ Hf.out dz.out Ht.out)
      go_wp2
      go_roundw
      case rel=>exact⟨k+1,by omega,by go_num,fin.out,Hb2.out⟩
      case measure=>simp [intOf]; omega
    · have fin:=hid (o9 Hf.out Ht.out)
      go_wp2
      go_ret
      exact⟨_,rfl,Hb2.out,.inr ⟨by omega,fin.out⟩⟩
  · have fin:=hid (pq dz.out (by rw [Hl.out]; omega))
    clear hx
    go_wp2
    go_ret
    exact⟨_,rfl,Hb.out,.inl ⟨rfl,fin.out⟩⟩
theorem DR (p:aA→Bool) (F:FuncId) (caps:Array Value) (xs:List aA) (A:Option Addr) (n c:Nat) (w:World) (hent:∀ args w,(callFunc F args).run Tryz.prog w = .ok (.enter F args) w) (hx:aU w w.heap.size 3 A n (au aB xs)) (hl:xs.length=n) (hn:n≤9223372036854775807) (hp:kQ p F caps aB xs w) :
 Calls Tryz.prog 204 #[.slice A n c,.func (.func F) #[] caps] w fun e w'=>e = .returned (.bool (xs.any p))∧Below w.heap.size w w':=by
 have hC:=hid (Iu p F caps xs A n c w hent hx hl hn hp)
 clear hx hl hn hp hent
 go_enter Tryz.func204,Tryz.ntmps204
 go_wp2_with fail
 refine Calls.mono hC.out ?_
 rintro e w2 ⟨i,rfl,hb2,hcase⟩
 rcases hcase with ⟨rfl,hn⟩ | ⟨hi,hn⟩
 · go_wp2
   go_ret
   exact⟨cY hn.symm,hb2⟩
 · have d0:decide (0≤i)=true:=decide_eq_true hi
   go_wp2
   go_ret
   exact⟨cY hn.symm,hb2⟩
end Go.Proofs.YtbllgmociapjeaaGreatDoor
/- Eq of the reference at rows of records: true just where the lists are the same. -/
namespace Go.Proofs.YtbllgmociapjeaaGreatDoor
open Go.Lib (hid)
open Go.RowKit
theorem pR {α:Type} {xs:List α} {k:Nat} {x:α} (h:xs[k]? = some x):xs.take (k+1)=xs.take k ++ [x]:=by
 rw [List.take_add_one,h]; rfl
theorem mH {α:Type} {xs ys:List α} {k:Nat} {x:α} (hx:xs[k]? = some x) (hy:ys[k]? = some x) (h:xs.take k=ys.take k):xs.take (k+1)=ys.take (k+1):=by
 rw [pR hx,pR hy,h]
theorem tD {α:Type} {xs ys:List α} {k:Nat} {x y:α} (hx:xs[k]? = some x) (hy:ys[k]? = some y) (h:x≠y):xs≠ys:=by
 rintro rfl; rw [hx] at hy; injection hy with hy; exact h hy
theorem cM {a b:ByteArray} (h:a.toList=b.toList):a=b:=by rw [ByteArray.toList_eq,ByteArray.toList_eq] at h; exact ByteArray.ext (Array.toList_inj.1 h)
def Ir {α:Type} (xs ys:List α) (n:Nat) (w:World) (i:Value) (wr:World):Prop:=∃ k:Nat,k≤n∧i = .int .i64 k∧xs.take k=ys.take k∧Below w.heap.size w wr
def wK {α:Type} (xs ys:List α) (w:World) (e:Ending) (w':World):Prop:=∃ t:Bool,e = .returned (.bool t)∧(t=true↔xs=ys)∧Below w.heap.size w w'
theorem Au (dZ cP mZ kK:ByteArray) (jQ iB jR iC ig fN:Int):∃ t:Bool,(t=true↔(⟨dZ,jQ,jR,ig,mZ⟩:aC)=⟨cP,iB,iC,fN,kK⟩)∧(∀ W,(binOp .neq 32 (.agg #[.string dZ,.int .i64 jQ,.int .i64 jR,.int .i64 ig,.string mZ]) (.agg #[.string cP,.int .i64 iB,.int .i64 iC,.int .i64 fN,.string kK])).run Tryz.prog W = .ok (.bool (!t)) W)∧(∀ W,(binOp .eql 32 (.agg #[.string dZ,.int .i64 jQ,.int .i64 jR,.int .i64 ig,.string mZ]) (.agg #[.string cP,.int .i64 iB,.int .i64 iC,.int .i64 fN,.string kK])).run Tryz.prog W = .ok (.bool t) W):=by
 by_cases h:(⟨dZ,jQ,jR,ig,mZ⟩:aC)=⟨cP,iB,iC,fN,kK⟩
 · injection h with h0 h1 h2 h3 h4
   subst h0; subst h1; subst h2; subst h3; subst h4
   exact⟨true,⟨fun _=>rfl,fun _=>rfl⟩,fun W=>by simp [go_sem],fun W=>by simp [go_sem]⟩
 · refine⟨false,⟨fun h'=>(by cases h'),fun h'=>absurd h' h⟩,fun W=>?_,fun W=>?_⟩
   · by_cases e0:dZ.toList=cP.toList
     rotate_left
     · simp [go_sem,e0]
     by_cases e1:jQ=iB
     rotate_left
     · simp [go_sem,e0,e1]
     by_cases e2:jR=iC
     rotate_left
     · simp [go_sem,e0,e1,e2]
     by_cases e3:ig=fN
     rotate_left
     · simp [go_sem,e0,e1,e2,e3]
     by_cases e4:mZ.toList=kK.toList
     rotate_left
     · simp [go_sem,e0,e1,e2,e3,e4]
     refine absurd ?_ h
     have e0:=cM e0; subst e0
     subst e1
     subst e2
     subst e3
     have e4:=cM e4; subst e4
     rfl
   · by_cases e0:dZ.toList=cP.toList
     rotate_left
     · simp [go_sem,e0]
     by_cases e1:jQ=iB
     rotate_left
     · simp [go_sem,e0,e1]
     by_cases e2:jR=iC
     rotate_left
     · simp [go_sem,e0,e1,e2]
     by_cases e3:ig=fN
     rotate_left
     · simp [go_sem,e0,e1,e2,e3]
     by_cases e4:mZ.toList=kK.toList
     rotate_left
     · simp [go_sem,e0,e1,e2,e3,e4]
     refine absurd ?_ h
     have e0:=cM e0; subst e0
     subst e1
     subst e2
     subst e3
     have e4:=cM e4; subst e4
     rfl
theorem xS (dZ cP jT iE:ByteArray) (jS iD:Int):∃ t:Bool,(t=true↔(⟨dZ,jS,jT⟩:aA)=⟨cP,iD,iE⟩)∧(∀ W,(binOp .neq 34 (.agg #[.string dZ,.int .i64 jS,.string jT]) (.agg #[.string cP,.int .i64 iD,.string iE])).run Tryz.prog W = .ok (.bool (!t)) W)∧(∀ W,(binOp .eql 34 (.agg #[.string dZ,.int .i64 jS,.string jT]) (.agg #[.string cP,.int .i64 iD,.string iE])).run Tryz.prog W = .ok (.bool t) W):=by
 by_cases h:(⟨dZ,jS,jT⟩:aA)=⟨cP,iD,iE⟩
 · injection h with h0 h1 h2
   subst h0; subst h1; subst h2
   exact⟨true,⟨fun _=>rfl,fun _=>rfl⟩,fun W=>by simp [go_sem],fun W=>by simp [go_sem]⟩
 · refine⟨false,⟨fun h'=>(by cases h'),fun h'=>absurd h' h⟩,fun W=>?_,fun W=>?_⟩
   · by_cases e0:dZ.toList=cP.toList
     rotate_left
     · simp [go_sem,e0]
     by_cases e1:jS=iD
     rotate_left
     · simp [go_sem,e0,e1]
     by_cases e2:jT.toList=iE.toList
     rotate_left
     · simp [go_sem,e0,e1,e2]
     refine absurd ?_ h
     have e0:=cM e0; subst e0
     subst e1
     have e2:=cM e2; subst e2
     rfl
   · by_cases e0:dZ.toList=cP.toList
     rotate_left
     · simp [go_sem,e0]
     by_cases e1:jS=iD
     rotate_left
     · simp [go_sem,e0,e1]
     by_cases e2:jT.toList=iE.toList
     rotate_left
     · simp [go_sem,e0,e1,e2]
     refine absurd ?_ h
     have e0:=cM e0; subst e0
     subst e1
     have e2:=cM e2; subst e2
     rfl
theorem vI (ng kL jU iF:ByteArray) (jV iG:Int):∃ t:Bool,(t=true↔(⟨ng,jU,jV⟩:ak)=⟨kL,iF,iG⟩)∧(∀ W,(binOp .neq 36 (.agg #[.string ng,.string jU,.int .i64 jV]) (.agg #[.string kL,.string iF,.int .i64 iG])).run Tryz.prog W = .ok (.bool (!t)) W)∧(∀ W,(binOp .eql 36 (.agg #[.string ng,.string jU,.int .i64 jV]) (.agg #[.string kL,.string iF,.int .i64 iG])).run Tryz.prog W = .ok (.bool t) W):=by
 by_cases h:(⟨ng,jU,jV⟩:ak)=⟨kL,iF,iG⟩
 · injection h with h0 h1 h2
   subst h0; subst h1; subst h2
   exact⟨true,⟨fun _=>rfl,fun _=>rfl⟩,fun W=>by simp [go_sem],fun W=>by simp [go_sem]⟩
 · refine⟨false,⟨fun h'=>(by cases h'),fun h'=>absurd h' h⟩,fun W=>?_,fun W=>?_⟩
   · by_cases e0:ng.toList=kL.toList
     rotate_left
     · simp [go_sem,e0]
     by_cases e1:jU.toList=iF.toList
     rotate_left
     · simp [go_sem,e0,e1]
     by_cases e2:jV=iG
     rotate_left
     · simp [go_sem,e0,e1,e2]
     refine absurd ?_ h
     have e0:=cM e0; subst e0
     have e1:=cM e1; subst e1
     subst e2
     rfl
   · by_cases e0:ng.toList=kL.toList
     rotate_left
     · simp [go_sem,e0]
     by_cases e1:jU.toList=iF.toList
     rotate_left
     · simp [go_sem,e0,e1]
     by_cases e2:jV=iG
     rotate_left
     · simp [go_sem,e0,e1,e2]
     refine absurd ?_ h
     have e0:=cM e0; subst e0
     have e1:=cM e1; subst e1
     subst e2
     rfl
end Go.Proofs.YtbllgmociapjeaaGreatDoor
