/- Of the proof of a statement: StChk, At, StTop, PlDDec, Text, Wri. -/
import Derived.Deep.QuietTactic
import Derived.BigQuiet
import Derived.Lib.ValidLaws
import Derived.Lib.QuietBelow
import Derived.Deep.RegionWith
import Derived.Lib.AppendStr
import Derived.Test.YtoeejfhdjmkpcaaGreatDoorUCopyK
import Derived.Test.YtoeejfhdjmkpcaaGreatDoorURowsL
set_option linter.unusedVariables false
set_option linter.unusedSimpArgs false
set_option maxRecDepth 100000
set_option maxHeartbeats 8000000
/- The walk of check of a state. -/
namespace Go.Proofs.YtoeejfhdjmkpcaaGreatDoor
open Go.Lib (hid)
open Go.RowKit
theorem Gi (st:ak) (x:StA) (w:World) (hS:StAt w w.heap.size st x) (hT:Tabs w) :
 Calls Tryz.prog 127 #[.agg (stC st x)] w (AX st w):=by
 have HS:=hid hS
 have hb1:Below w.heap.size w (w.alloc (.cells (stC st x) 26)):=(Below.refl _ _).alloc (Nat.le_refl _) _
 have hB1:Blk (w.alloc (.cells (stC st x) 26)) w.heap.size 26 (stC st x):=heap_alloc_new w _
 have hbad:=hid (fun (E:Int) (h:aG st=E) (hE:E≠0) w'=>AX.bad (w:=w) (w':=w') h hE)
 have Hb1:=hid hb1
 have HB1:=hid hB1
 have HT1:=hid (hT.below hb1)
 clear hb1 hB1 hS hT
 obtain⟨rev,jobs,nodes,leases⟩:=st
 obtain⟨aj,nj,cj,an,nn,cn,al,nl,cl⟩:=x
 simp only [stC] at *
 go_enter Tryz.func127,Tryz.ntmps127
 go_wp2_with fail
 refine Calls.mono (jJ _ _ _ _) ?_
 rintro e w0 ⟨rfl,rfl⟩
 cases hr:ranged rev 0 1099511627776
 · have hend:=hid (hbad.out 1 (Gp hr) (by omega) _ Hb1.out)
   go_wp2
   go_ret2
   exact hend.out
 have hlj:=HS.out.lj
 have hln:=HS.out.ln
 have hll:=HS.out.ll
 have hbj:=HS.out.bj
 have hbn:=HS.out.bn
 have hbl:=HS.out.bl
 simp only at hlj hln hll hbj hbn hbl
 by_cases s1:nj≤40
 rotate_left
 · have hend:=hid (hbad.out 2 (sA hr (by unfold dP; rw [decide_eq_false (by simp only; omega)]; rfl)) (by omega) _ Hb1.out)
   have d1:decide ((40:Int)<(nj:Int))=true:=decide_eq_true (by omega)
   go_wp2
   go_ret2
   exact hend.out
 have d1:decide ((40:Int)<(nj:Int))=false:=decide_eq_false (by omega)
 by_cases s2:nl≤40
 rotate_left
 · have hend:=hid (hbad.out 2 (sA hr (by unfold dP; simp only; rw [decide_eq_false (p:=leases.length≤40) (by omega)]; simp)) (by omega) _ Hb1.out)
   have d2:decide ((40:Int)<(nl:Int))=true:=decide_eq_true (by omega)
   go_wp2
   go_ret2
   exact hend.out
 have d2:decide ((40:Int)<(nl:Int))=false:=decide_eq_false (by omega)
 by_cases s3:nn≤20
 rotate_left
 · have hend:=hid (hbad.out 2 (sA hr (by unfold dP; simp only; rw [decide_eq_false (p:=nodes.length≤20) (by omega)]; simp)) (by omega) _ Hb1.out)
   have d3:decide ((20:Int)<(nn:Int))=true:=decide_eq_true (by omega)
   go_wp2
   go_ret2
   exact hend.out
 have d3:decide ((20:Int)<(nn:Int))=false:=decide_eq_false (by omega)
 have hsz:=hid (show dP ⟨rev,jobs,nodes,leases⟩=true by unfold dP; simp; omega)
 have hS1:=hid ((HS.out.below Hb1.out).more Hb1.out.size)
 go_wp2_with fail
 refine Calls.mono (vK jobs aj nj cj _ hS1.out.j hS1.out.lj hbj hS1.out.oj HT1.out) ?_
 rintro e w2 ⟨rfl,hb2⟩
 have Hb2:=hid (Hb1.out.trans (hb2.mono Hb1.out.size))
 have HB2:=hid (HB1.out.below hb2 HB1.out.lt)
 have HT2:=hid (HT1.out.below hb2)
 have y2:w2.cell? ⟨w.heap.size,2,none⟩=some (.slice an nn cn):=HB2.out.cell 2
 clear d1 d2 d3 hb2 HT1 HB1
 obtain⟨EJ,hEJ⟩:∃ E,bZ fE aA.name jobs=E:=⟨_,rfl⟩
 rw [hEJ]
 by_cases he:EJ=0
 rotate_left
 · have hend:=hid (hbad.out EJ (by rw [KX hr hsz.out (by rw [hEJ]; exact he)]; exact hEJ) he _ Hb2.out)
   have e1:(EJ == 0)=false:=beq_eq_false_iff_ne.2 he
   have e2:(EJ != 0)=true:=bne_iff_ne.2 he
   go_wp2
   go_ret2
   exact hend.out
 subst he
 have HEJ:=hid hEJ
 clear hEJ
 have hS2:=hid ((HS.out.below Hb2.out).more Hb2.out.size)
 go_wp2_with fail
 refine Calls.mono (sN nodes an nn cn _ hS2.out.n hS2.out.ln hbn hS2.out.on_ HT2.out) ?_
 rintro e w3 ⟨rfl,hb3⟩
 have Hb3:=hid (Hb2.out.trans (hb3.mono Hb2.out.size))
 have HB3:=hid (HB2.out.below hb3 HB2.out.lt)
 clear y2 hb3 HT2 HB2 hS2 hS1
 obtain⟨EN,hEN⟩:∃ E,bZ eH av.name nodes=E:=⟨_,rfl⟩
 rw [hEN]
 by_cases he:EN=0
 rotate_left
 · have hend:=hid (hbad.out EN (by rw [Ji hr hsz.out HEJ.out (by rw [hEN]; exact he)]; exact hEN) he _ Hb3.out)
   have e1:(EN == 0)=false:=beq_eq_false_iff_ne.2 he
   have e2:(EN != 0)=true:=bne_iff_ne.2 he
   go_wp2
   go_ret2
   exact hend.out
 subst he
 have HEN:=hid hEN
 have EF:=hid (KY hr hsz.out HEJ.out hEN)
 clear hEN
 have hSl:=HB3.out.lt
 have hmk:=fun t W=>run_makeMap (P:=Tryz.prog) t W
 have z1:(Cw w3).cell? ⟨w.heap.size,1,none⟩=some (.slice aj nj cj):=((pV w3).cell (p:=⟨w.heap.size,1,none⟩) hSl).trans (HB3.out.cell 1)
 have HC0:=hid (show Cv w (Cw w3) ⟨rev,jobs,nodes,leases⟩ ⟨aj,nj,cj,an,nn,cn,al,nl,cl⟩ w.heap.size (w3.heap.size+1+1+1) w3.heap.size (w3.heap.size+1) (w3.heap.size+1+1) 0 0 0 noG noG noG from
  ⟨Hb3.out.trans ((pV w3).mono Hb3.out.size),HB3.out.below (pV w3) hSl,DY w3⟩)
 have hw3:=Hb3.out.size
 clear HB3 Hb3
 unfold Cw at z1
 go_wp2
 clear z1 hmk
 go_loopw [8,56] (fun _ i wr=>MX w wr ⟨rev,jobs,nodes,leases⟩ ⟨aj,nj,cj,an,nn,cn,al,nl,cl⟩ w3.heap.size nj i) (fun _ i _=>nj - (intOf i).toNat)
 case atStart=>exact⟨0,Nat.zero_le _,rfl,HC0.out⟩
 case round=>
  obtain⟨k,hk,rfl,hC⟩:=hrel
  by_cases hlt:k<nj
  · obtain⟨y,hf⟩:∃ y,jobs[k]? = some y:=⟨_,List.getElem?_eq_getElem (by omega)⟩
    obtain⟨b,off,rfl,hbB,hc⟩:=(HS.out.j.below hC.below).cR aP hlj hf
    have hso:=hid (HS.out.oj y (List.mem_of_getElem? hf))
    have hstep:=hid (F7 HEJ.out hf)
    obtain⟨name,prio,need,tries,tag⟩:=y
    obtain⟨c0,c1,c2,c3,c4⟩:=rc5 hc
    have hsz1:=hC.below.size
    have hlb:b<wr.heap.size:=by omega
    have hb0:=((Below.refl wr.heap.size wr).alloc (Nat.le_refl _) (.cells #[.string name,.int .i64 prio,.int .i64 need,.int .i64 tries,.string tag] 34)).drew
    have htab:=hC.tabs.below hb0
    have hTl:=hC.tabs.t.lt
    have t0:(wr.alloc (.cells #[.string name,.int .i64 prio,.int .i64 need,.int .i64 tries,.string tag] 34)).cell? ⟨w3.heap.size+1+1+1,0,none⟩=some (.map (some w3.heap.size)):=htab.t.cell 0
    obtain⟨w5,hput,hm5,hg5⟩:=htab.m1.put Tryz.underlying260 (by unfold maxLen; omega) name hso.out.1 (.agg #[.string name,.int .i64 prio,.int .i64 need,.int .i64 tries,.string tag])
    have hnext:=hid (show Cv w w5 ⟨rev,jobs,nodes,leases⟩ ⟨some ⟨b,off,none⟩,nj,cj,an,nn,cn,al,nl,cl⟩ w.heap.size (w3.heap.size+1+1+1) w3.heap.size (w3.heap.size+1) (w3.heap.size+1+1) (k+1) 0 0 (pU (jobs.take (k+1))) noG noG from
     ⟨below_grown (hC.below.trans (hb0.mono hsz1)) hg5 (by omega),(hg5.block _ (by simp; omega) (by simp; omega)).trans (hC.box.below hb0 (by omega)),htab.KW hg5 (by omega) (by omega) (by omega) (hm5.congr (fun s=>(hstep.out s).symm))⟩)
    clear hc hf hm5 hg5 htab hC hb0
    go_wp2
    go_region
    go_wp2
    go_roundw
    case rel=>exact⟨k+1,by omega,by go_num,hnext.out⟩
    case measure=>simp [intOf]; omega
  · obtain rfl:k=nj:=by omega
    have htk:List.take k jobs=jobs:=List.take_of_length_le (by omega)
    simp only [htk] at hC
    have hC1:=hid hC
    have y2:wr.cell? ⟨w.heap.size,2,none⟩=some (.slice an nn cn):=hC.box.cell 2
    clear hC HC0 htk
    go_wp2
    clear y2
    go_loopw [10,71] (fun _ i wr=>MY w wr ⟨rev,jobs,nodes,leases⟩ ⟨aj,k,cj,an,nn,cn,al,nl,cl⟩ w3.heap.size k nn i) (fun _ i _=>nn - (intOf i).toNat)
    case atStart=>exact⟨0,Nat.zero_le _,rfl,hC1.out⟩
    case round=>
     clear hC1
     obtain⟨m,hm,rfl,hC⟩:=hrel
     by_cases hlt:m<nn
     · obtain⟨y,hf⟩:∃ y,nodes[m]? = some y:=⟨_,List.getElem?_eq_getElem (by omega)⟩
       obtain⟨b,off,rfl,hbB,hc⟩:=(HS.out.n.below hC.below).cR aL hln hf
       have hso:=hid (HS.out.on_ y (List.mem_of_getElem? hf))
       have hstep:=hid (DX HEN.out hf)
       obtain⟨name,room,zone⟩:=y
       obtain⟨c0,c1,c2⟩:=rc3 hc
       have hsz1:=hC.below.size
       have hlb:b<wr.heap.size:=by omega
       have hb0:=((Below.refl wr.heap.size wr).alloc (Nat.le_refl _) (.cells #[.string name,.int .i64 room,.string zone] 36)).drew
       have htab:=hC.tabs.below hb0
       have hTl:=hC.tabs.t.lt
       have t0:(wr.alloc (.cells #[.string name,.int .i64 room,.string zone] 36)).cell? ⟨w3.heap.size+1+1+1,1,none⟩=some (.map (some (w3.heap.size+1))):=htab.t.cell 1
       obtain⟨w5,hput,hm5,hg5⟩:=htab.m2.put Tryz.underlying268 (by unfold maxLen; omega) name hso.out.1 (.agg #[.string name,.int .i64 room,.string zone])
       have hnext:=hid (show Cv w w5 ⟨rev,jobs,nodes,leases⟩ ⟨aj,k,cj,some ⟨b,off,none⟩,nn,cn,al,nl,cl⟩ w.heap.size (w3.heap.size+1+1+1) w3.heap.size (w3.heap.size+1) (w3.heap.size+1+1) k (m+1) 0 (pU jobs) (mJ (nodes.take (m+1))) noG from
        ⟨below_grown (hC.below.trans (hb0.mono hsz1)) hg5 (by omega),(hg5.block _ (by simp; omega) (by simp; omega)).trans (hC.box.below hb0 (by omega)),htab.Jh hg5 (by omega) (by omega) (by omega) (hm5.congr (fun s=>(hstep.out s).symm))⟩)
       clear hc hf hm5 hg5 htab hC hb0
       go_wp2
       go_region
       go_wp2
       go_roundw
       case rel=>exact⟨m+1,by omega,by go_num,hnext.out⟩
       case measure=>simp [intOf]; omega
     · obtain rfl:m=nn:=by omega
       have htk:List.take m nodes=nodes:=List.take_of_length_le (by omega)
       simp only [htk] at hC
       have hC1:=hid hC
       have hsz1:=hC.below.size
       have hTl:=hC.tabs.t.lt
       have y3:wr.cell? ⟨w.heap.size,3,none⟩=some (.slice al nl cl):=hC.box.cell 3
       have hrow:=hid (zf ⟨rev,jobs,nodes,leases⟩ al nl cl wr (w3.heap.size+1+1+1) w3.heap.size (w3.heap.size+1) (w3.heap.size+1+1) k m noG ((HS.out.l.below hC.below).more (by omega)) hll s2 HS.out.ol (B6 HEJ.out) (by omega) (by omega) (by omega) (fun _=>rfl) hC.tabs)
       clear hC htk
       go_wp2_with fail
       refine Calls.mono hrow.out ?_
       rintro e w6 ⟨rfl,hg6,hz6⟩
       have hb6:=hid (below_grown hC1.out.below hg6 (by omega))
       have Lw:=hid (show Blk w6 w.heap.size 26 _ from (hg6.block _ (by omega) (by simp; omega)).trans hC1.out.box)
       have hG6:=hid hg6
       have hZ6:=hid hz6
       clear hrow y3 hg6 hz6
       obtain⟨R,hR⟩:∃ R,bZ (fN ⟨rev,jobs,nodes,leases⟩) ah.job leases=R:=⟨_,rfl⟩
       simp only [hR] at hZ6 ⊢
       rw [hR] at EF
       by_cases he:R=0
       rotate_left
       · have hend:=hid (hbad.out R (by rw [EF.out,if_pos he]) he _ hb6.out)
         have e1:(R == 0)=false:=beq_eq_false_iff_ne.2 he
         have e2:(R != 0)=true:=bne_iff_ne.2 he
         go_wp2
         go_ret2
         exact hend.out
       subst he
       obtain⟨g3,hm3,hu3⟩:=hZ6.out rfl
       have hu3':=hid hu3
       have hC6:=hid (show Cv w w6 ⟨rev,jobs,nodes,leases⟩ ⟨aj,k,cj,an,m,cn,al,nl,cl⟩ w.heap.size (w3.heap.size+1+1+1) w3.heap.size (w3.heap.size+1) (w3.heap.size+1+1) k m nl (pU jobs) (mJ nodes) g3 from
        ⟨hb6.out,Lw.out,hC1.out.tabs.used hG6.out (by omega) (by omega) (by omega) hm3⟩)
       have y2:w6.cell? ⟨w.heap.size,2,none⟩=some (.slice an m cn):=hC6.out.box.cell 2
       clear hm3 hu3 hZ6 hG6 Lw hb6 hC1
       have Hck:=hid (show aG ⟨rev,jobs,nodes,leases⟩=if ni ⟨rev,jobs,nodes,leases⟩=true then 0 else 9 by rw [EF.out,if_neg (by simp)])
       clear EF hR
       go_wp2
       clear y2
       go_loopw [2,3,13,94] (fun _ _ _ i wr=>MZ w wr ⟨rev,jobs,nodes,leases⟩ ⟨aj,k,cj,an,m,cn,al,nl,cl⟩ w3.heap.size k m nl g3 m i) (fun _ _ _ i _=>m - (intOf i).toNat)
       case atStart=>exact⟨0,Nat.zero_le _,rfl,hC6.out,rfl⟩
       case round=>
        clear hC6
        obtain⟨q,hq,rfl,hC,hroom⟩:=hrel
        have JD:=hid hroom
        clear hroom
        by_cases hltq:q<m
        · obtain⟨y,hf⟩:∃ y,nodes[q]? = some y:=⟨_,List.getElem?_eq_getElem (by omega)⟩
          obtain⟨b,off,rfl,hbB,hc⟩:=(HS.out.n.below hC.below).cR aL hln hf
          have hso:=hid (HS.out.on_ y (List.mem_of_getElem? hf))
          have hstep:=hid (zh (st:=⟨rev,jobs,nodes,leases⟩) hf)
          obtain⟨name,room,zone⟩:=y
          obtain⟨c0,c1,c2⟩:=rc3 hc
          have hszq:=hC.below.size
          have hlb:b<wr.heap.size:=by omega
          have hb0:=((Below.refl wr.heap.size wr).alloc (Nat.le_refl _) (.cells #[.string name,.int .i64 room,.string zone] 36)).drew
          have htab:=hC.tabs.below hb0
          have hTlq:=hC.tabs.t.lt
          have t0:(wr.alloc (.cells #[.string name,.int .i64 room,.string zone] 36)).cell? ⟨w3.heap.size+1+1+1,2,none⟩=some (.map (some (w3.heap.size+1+1))):=htab.t.cell 2
          have h3:=htab.m3.look Tryz.underlying322 (ED _) name hso.out.1
          rw [hu3'.out name] at h3
          have hnext:=hid (show Cv w (wr.alloc (.cells #[.string name,.int .i64 room,.string zone] 36)).drew ⟨rev,jobs,nodes,leases⟩ ⟨aj,k,cj,some ⟨b,off,none⟩,m,cn,al,nl,cl⟩ w.heap.size (w3.heap.size+1+1+1) w3.heap.size (w3.heap.size+1) (w3.heap.size+1+1) k m nl (pU jobs) (mJ nodes) g3 from
           ⟨hC.below.trans (hb0.mono hszq),hC.box.below hb0 (by omega),htab⟩)
          generalize tQ ⟨rev,jobs,nodes,leases⟩ name=U at h3 hstep
          clear hc hf htab hC hb0
          by_cases hU:U≤room
          · have d1:decide (room<U)=false:=decide_eq_false (by omega)
            have hok:=hid (show ug ⟨rev,jobs,nodes,leases⟩ (nodes.drop (q+1))=ni ⟨rev,jobs,nodes,leases⟩ by rw [← JD.out,hstep.out,decide_eq_true hU]; rfl)
            go_wp2
            go_region
            go_wp2
            go_roundw
            case rel=>exact⟨q+1,by omega,by go_num,hnext.out,hok.out⟩
            case measure=>simp [intOf]; omega
          · have d1:decide (room<U)=true:=decide_eq_true (by omega)
            have M4:=hid (show aG ⟨rev,jobs,nodes,leases⟩=9 by
             have:ni ⟨rev,jobs,nodes,leases⟩=false:=by rw [← JD.out,hstep.out,decide_eq_false hU]; rfl
             rw [Hck.out,this]; rfl)
            go_wp2
            go_region
            go_wp2
            go_ret2
            exact hbad.out 9 M4.out (by omega) _ hnext.out.below
        · obtain rfl:q=m:=by omega
          have hgood:=hid (show aG ⟨rev,jobs,nodes,leases⟩=0 by
           have:ni ⟨rev,jobs,nodes,leases⟩=true:=by rw [← JD.out,List.drop_of_length_le (by show nodes.length≤q; omega)]; rfl
           rw [Hck.out,if_pos this])
          have HC:=hid hC
          clear hC
          go_wp2
          go_ret2
          exact⟨HC.out.below,.inr ⟨hgood.out,_,_,_,_,_,_,_,g3,rfl,HC.out.tabs,hu3'.out⟩⟩
end Go.Proofs.YtoeejfhdjmkpcaaGreatDoor
/- The walks of JobAt and NodeAt. -/
namespace Go.Proofs.YtoeejfhdjmkpcaaGreatDoor
open Go.Lib (hid)
open Go.RowKit
section
variable {α:Type} {p:α→Bool} {l:List α} {k:Nat} {x:α}
theorem Gk (h:l[k]? = some x):l.take (k+1)=l.take k ++ [x]:=by
 obtain⟨hlt,rfl⟩:=List.getElem?_eq_some_iff.1 h
 exact (List.take_append_getElem hlt).symm
theorem xN (h0:(l.take k).find? p=none) (h:l[k]? = some x) (hp:p x=true):l.find? p=some x:=by
 have e:l=l.take k ++ x :: l.drop (k+1):=by rw [← drop_cons h,List.take_append_drop]
 rw [e,List.find?_append,h0,List.find?_cons,hp]; rfl
theorem uO (h0:(l.take k).find? p=none) (h:l[k]? = some x) (hp:p x=false):(l.take (k+1)).find? p=none:=by
 rw [Gk h,List.find?_append,h0,List.find?_cons,hp]; rfl
theorem xO (h0:(l.take k).find? p=none) (h:l.length≤k):l.find? p=none:=by rwa [List.take_of_length_le h] at h0
end
theorem tA (s:ByteArray):(s.toList == s.toList)=true:=beq_iff_eq.2 rfl
theorem tB {s t:ByteArray} (h:s≠t):(s.toList == t.toList)=false:=by
 rw [beq_eq_false_iff_ne,ByteArray.toList_eq,ByteArray.toList_eq]
 exact fun e=>h (ByteArray.ext (Array.toList_inj.1 e))
theorem sS (a b:ByteArray):(a.toList == b.toList)=decide (a=b):=by
 by_cases h:a=b
 · subst h; rw [tA,decide_eq_true rfl]
 · rw [tB h,decide_eq_false h]
end Go.Proofs.YtoeejfhdjmkpcaaGreatDoor
/- The walks of state.Check and of the law's bad state. -/
namespace Go.Proofs.YtoeejfhdjmkpcaaGreatDoor
open Go.Lib (hid)
open Go.RowKit
theorem jY (st:ak) (x:StA) (w:World) (hS:StAt w w.heap.size st x) (hT:Tabs w) :
 Calls Tryz.prog 37 #[.agg (stC st x)] w fun e w'=>e = .returned (.int .i64 (aG st))∧Below w.heap.size w w':=by
 have hb1:Below w.heap.size w (w.alloc (.cells (stC st x) 26)):=(Below.refl _ _).alloc (Nat.le_refl _) _
 have hC:=hid (Gi st x _ ((hS.below hb1).more hb1.size) (hT.below hb1))
 have Hb1:=hid hb1
 clear hb1 hS hT
 obtain⟨E,hE⟩:∃ E,aG st=E:=⟨_,rfl⟩
 rw [hE]
 have HE:=hid hE
 clear hE
 obtain⟨rev,jobs,nodes,leases⟩:=st
 obtain⟨aj,nj,cj,an,nn,cn,al,nl,cl⟩:=x
 simp only [stC] at *
 go_enter Tryz.func37,Tryz.ntmps37
 go_wp2_with fail
 refine Calls.mono hC.out ?_
 rintro e w1 ⟨hb,hcase⟩
 have Hb:=hid (Hb1.out.trans (hb.mono Hb1.out.size))
 clear hb hC
 rw [HE.out] at hcase
 clear HE
 rcases hcase with ⟨hE,rfl⟩ | ⟨rfl,T,b1,b2,b3,n1,n2,n3,g3,rfl,-,-⟩
 · go_wp2
   refine bodyPost_ret (v:=.int .i64 E) (by simp [results,Tryz.results37,go_sem]) rfl ⟨rfl,Hb.out⟩
 · go_wp2
   refine bodyPost_ret (v:=.int .i64 0) (by simp [results,Tryz.results37,go_sem]) rfl ⟨rfl,Hb.out⟩
end Go.Proofs.YtoeejfhdjmkpcaaGreatDoor
/- What Decode of a delta says: plain. -/
namespace Go.Proofs.YtoeejfhdjmkpcaaGreatDoor
open Go.Lib (hid)
def gJ (f t:Nat):Int:=if f+t≤9223372036854775807 then ((f+t:Nat):Int) else ((f+t:Nat):Int) - 18446744073709551616
theorem Bq {f t:Nat} (hf:f≤4611686018427387904) (ht:t≤4611686018427387904) : -9223372036854775808≤gJ f t∧gJ f t≤9223372036854775807:=by
 unfold gJ; split <;> omega
def dlP (b:ByteArray):RR aM:=
 (cO b).bind fun f s=>(cO s).bind fun t s=>(cW 40 (mW 3) s).bind fun j s=>(cW 20 (jM 3) s).bind fun n s=>(cW 40 gT s).bind fun l s=>
  (cW 40 bH s).bind fun gj s=>(cW 20 bH s).bind fun gn s=>(cW 40 bH s).bind fun gl s=>.ok ⟨(f:Int),gJ f t,j,n,l,gj,gn,gl⟩ s
def nY:aM:=⟨0,0,[],[],[],[],[],[]⟩
def pq (b:ByteArray):aM × Int:=if 6000<b.size then (nY,2) else match endP (dlP b) with
 | .bad e=>(nY,e)
 | .ok d _=>if cD d=0 then (d,0) else (nY,cD d)
theorem Bl {b:ByteArray} (h:6000<b.size):pq b=(nY,2):=by unfold pq; rw [if_pos h]
theorem EX {b:ByteArray} {e:Nat} (h:¬ 6000<b.size) (h2:endP (dlP b) = .bad e):pq b=(nY,(e:Int)):=by unfold pq; rw [if_neg h,h2]
theorem Bn {b r:ByteArray} {d:aM} (h:¬ 6000<b.size) (h2:endP (dlP b) = .ok d r) (h3:cD d≠0):pq b=(nY,cD d):=by unfold pq; rw [if_neg h,h2]; simp only; rw [if_neg h3]
theorem Bo {b r:ByteArray} {d:aM} (h:¬ 6000<b.size) (h2:endP (dlP b) = .ok d r) (h3:cD d=0):pq b=(d,0):=by unfold pq; rw [if_neg h,h2]; simp only; rw [if_pos h3]
theorem JN {b:ByteArray} {r1:RR Nat} {r2:RR Nat} {r3:RR (List aA)} {r4:RR (List av)} {r5:RR (List ah)} {r6:RR (List ByteArray)} {r7:RR (List ByteArray)} {r8:RR (List ByteArray)} (e1:r1=cO b) (e2:r2=r1.st.bind fun _ s=>cO s) (e3:r3=r2.st.bind fun _ s=>cW 40 (mW 3) s) (e4:r4=r3.st.bind fun _ s=>cW 20 (jM 3) s) (e5:r5=r4.st.bind fun _ s=>cW 40 gT s) (e6:r6=r5.st.bind fun _ s=>cW 40 bH s) (e7:r7=r6.st.bind fun _ s=>cW 20 bH s) (e8:r8=r7.st.bind fun _ s=>cW 40 bH s) :
 (∀ x,r8.st = .bad x→dlP b = .bad x)∧(∀ s,r8.st = .ok () s→∃ f t j n l gj gn gl s1 s2 s3 s4 s5 s6 s7,(r1 = .ok f s1∧cO b = .ok f s1)∧(r2 = .ok t s2∧cO s1 = .ok t s2)∧(r3 = .ok j s3∧cW 40 (mW 3) s2 = .ok j s3)∧(r4 = .ok n s4∧cW 20 (jM 3) s3 = .ok n s4)∧(r5 = .ok l s5∧cW 40 gT s4 = .ok l s5)∧(r6 = .ok gj s6∧cW 40 bH s5 = .ok gj s6)∧(r7 = .ok gn s7∧cW 20 bH s6 = .ok gn s7)∧(r8 = .ok gl s∧cW 40 bH s7 = .ok gl s)∧dlP b = .ok ⟨(f:Int),gJ f t,j,n,l,gj,gn,gl⟩ s):=by
 unfold dlP
 rw [← e1]
 cases r1 with
 | bad x=>
  subst e2; subst e3; subst e4; subst e5; subst e6; subst e7; subst e8; exact⟨fun y hy=>bad_eq hy,fun s hs=>by cases hs⟩
 | ok f s1=>
  rw [RR.bind_ok]
  have e2':r2=cO s1:=e2
  rw [← e2']
  cases r2 with
  | bad x=>
   subst e3; subst e4; subst e5; subst e6; subst e7; subst e8; exact⟨fun y hy=>bad_eq hy,fun s hs=>by cases hs⟩
  | ok t s2=>
   rw [RR.bind_ok]
   have e3':r3=cW 40 (mW 3) s2:=e3
   rw [← e3']
   cases r3 with
   | bad x=>
    subst e4; subst e5; subst e6; subst e7; subst e8; exact⟨fun y hy=>bad_eq hy,fun s hs=>by cases hs⟩
   | ok j s3=>
    rw [RR.bind_ok]
    have e4':r4=cW 20 (jM 3) s3:=e4
    rw [← e4']
    cases r4 with
    | bad x=>
     subst e5; subst e6; subst e7; subst e8; exact⟨fun y hy=>bad_eq hy,fun s hs=>by cases hs⟩
    | ok n s4=>
     rw [RR.bind_ok]
     have e5':r5=cW 40 gT s4:=e5
     rw [← e5']
     cases r5 with
     | bad x=>
      subst e6; subst e7; subst e8; exact⟨fun y hy=>bad_eq hy,fun s hs=>by cases hs⟩
     | ok l s5=>
      rw [RR.bind_ok]
      have e6':r6=cW 40 bH s5:=e6
      rw [← e6']
      cases r6 with
      | bad x=>
       subst e7; subst e8; exact⟨fun y hy=>bad_eq hy,fun s hs=>by cases hs⟩
      | ok gj s6=>
       rw [RR.bind_ok]
       have e7':r7=cW 20 bH s6:=e7
       rw [← e7']
       cases r7 with
       | bad x=>
        subst e8; exact⟨fun y hy=>bad_eq hy,fun s hs=>by cases hs⟩
       | ok gn s7=>
        rw [RR.bind_ok]
        have e8':r8=cW 40 bH s7:=e8
        rw [← e8']
        cases r8 with
        | bad x=>
         exact⟨fun y hy=>bad_eq hy,fun s hs=>by cases hs⟩
        | ok gl s8=>
         refine And.intro (fun y hy=>by cases hy) (fun s hs=>?_)
         have hs:RR.ok () s8=RR.ok () s:=hs
         injection hs with _ h2
         subst h2
         exact⟨f,t,j,n,l,gj,gn,gl,s1,s2,s3,s4,s5,s6,s7,⟨rfl,rfl⟩,⟨rfl,e2'.symm⟩,⟨rfl,e3'.symm⟩,⟨rfl,e4'.symm⟩,⟨rfl,e5'.symm⟩,⟨rfl,e6'.symm⟩,⟨rfl,e7'.symm⟩,⟨rfl,e8'.symm⟩,rfl⟩
end Go.Proofs.YtoeejfhdjmkpcaaGreatDoor
/- The walks of Text, in the program and in the reference. -/
namespace Go.Proofs.YtoeejfhdjmkpcaaGreatDoor
open Go.Lib (hid)
open Go.RowKit
open Go.Lib (validD)
def tq (s:ByteArray):ByteArray × Int:=if 16<s.size then (⟨#[]⟩,2) else if validD s.data.toList=true then (⟨#[UInt8.ofNat s.size]⟩ ++ s,0) else (⟨#[]⟩,4)
def kC (s:ByteArray) (w:World) (e:Ending) (w':World):Prop:=e = .returned (.tuple #[.string (tq s).1,.int .i64 (tq s).2])∧Below w.heap.size w w'
theorem kC.large {s:ByteArray} {w w':World} (h:16<s.size) (hb:Below w.heap.size w w'):kC s w (.returned (.tuple #[.string ⟨#[]⟩,.int .i64 2])) w':=⟨by unfold tq; rw [if_pos h],hb⟩
theorem kC.form {s:ByteArray} {w w':World} (h:¬ 16<s.size) (hv:validD s.data.toList=false) (hb:Below w.heap.size w w'):kC s w (.returned (.tuple #[.string ⟨#[]⟩,.int .i64 4])) w':=⟨by unfold tq; rw [if_neg h,if_neg (by rw [hv]; simp)],hb⟩
theorem kC.ok {s x:ByteArray} {w w':World} (h:¬ 16<s.size) (hv:validD s.data.toList=true) (hx:x=⟨#[UInt8.ofNat s.size]⟩ ++ s) (hb:Below w.heap.size w w'):kC s w (.returned (.tuple #[.string x,.int .i64 0])) w':=⟨by unfold tq; rw [if_neg h,if_pos hv,hx],hb⟩
theorem JE (s:ByteArray) (w:World) (hs:s.size≤9223372036854775807) (hT:Tabs w):Calls Tryz.prog 166 #[.string s] w (kC s w):=by
 by_cases h:16<s.size
 · have fin:=hid (kC.large (w:=w) (w':=w) h (Below.refl _ _))
   go_enter Tryz.func166,Tryz.ntmps166
   go_wp2
   go_ret2
   exact fin.out
 · have hV:=hid (vg s w hs hT)
   cases hv:validD s.data.toList
   · have fin:=hid (fun w'=>kC.form (w:=w) (w':=w') h hv)
     rw [hv] at hV
     go_enter Tryz.func166,Tryz.ntmps166
     go_wp2_with fail
     refine Calls.mono hV.out ?_
     rintro e w1 ⟨rfl,hb⟩
     go_wp2
     go_ret2
     exact fin.out _ hb
   · have fin:=hid (fun x w'=>kC.ok (x:=x) (w:=w) (w':=w') h hv)
     rw [hv] at hV
     have hsz:=hid (rN (n:=s.size) (by omega))
     go_enter Tryz.func166,Tryz.ntmps166
     go_wp2_with fail
     refine Calls.mono hV.out ?_
     rintro e w1 ⟨rfl,hb⟩
     go_wp2_with fail
     refine Calls.mono (xM (s.size:Int) w1 (by omega) (by omega)) ?_
     rintro e w2 ⟨rfl,hb2⟩
     rw [show ((s.size:Int)).toNat=s.size from by omega,hsz.out]
     have hb3:=hid (hb.trans (hb2.mono hb.size))
     clear hb hb2
     go_wp2
     go_ret2
     exact fin.out _ _ rfl hb3.out
end Go.Proofs.YtoeejfhdjmkpcaaGreatDoor
/- The walks of a Writer: numbers and texts. -/
namespace Go.Proofs.YtoeejfhdjmkpcaaGreatDoor
open Go.Lib (hid)
open Go.RowKit
structure dB (base g:Nat) (w w':World):Prop where
 os:w'.os=w.os
 tape:w'.tape=w.tape
 output:w'.output=w.output
 size:w.heap.size≤w'.heap.size
 block:∀ k,k<w.heap.size→k≠g→(k<base∨∀ cs fz,w.heap[k]? ≠ some (.cells cs 5 fz))→w'.heap[k]? = w.heap[k]?
section
variable {base g:Nat} {w w' w'':World}
theorem dB.refl (w:World):dB base g w w:=⟨rfl,rfl,rfl,Nat.le_refl _,fun _ _ _ _=>rfl⟩
theorem dB.trans (h:dB base g w w') (h':dB base g w' w''):dB base g w w'':=
 ⟨h'.os.trans h.os,h'.tape.trans h.tape,h'.output.trans h.output,Nat.le_trans h.size h'.size,fun k hk hne hc=>by
  have e:=h.block k hk hne hc
  refine (h'.block k (Nat.lt_of_lt_of_le hk h.size) hne ?_).trans e
  rcases hc with hc | hc
  · exact .inl hc
  · exact .inr (fun cs fz he=>hc cs fz (e.symm.trans he))⟩
theorem dB.drew (w:World):dB base g w w.drew:=⟨rfl,rfl,rfl,Nat.le_refl _,fun _ _ _ _=>rfl⟩
theorem dB.of_below (hb:Below w.heap.size w w'):dB base g w w':=⟨hb.os,hb.tape,hb.output,hb.size,fun k hk _ _=>hb.block k hk⟩
theorem dB.below (h:dB base g w w') (hB:base≤g) (hs:base≤w.heap.size):Below base w w':=
 ⟨h.os,h.tape,h.output,h.size,fun k hk=>h.block k (Nat.lt_of_lt_of_le hk hs) (by omega) (.inl hk)⟩
theorem dB.blk {k:Nat} {t:TypeId} {cs:Array Value} (h:dB base g w w') (hk:Blk w k t cs) (ht:t ≠ 5) (hne:k≠g):Blk w' k t cs:=
 (h.block k hk.lt hne (.inr (fun cs' fz he=>by
  unfold Blk at hk
  rw [hk] at he
  simp only [Option.some.injEq,Obj.cells.injEq] at he
  exact ht he.2.1))).trans hk
theorem vD {v:Value} {n:Nat} {xs:List Value} (ho:w.ownsRow base 5 1 v n xs) {k:Nat} (hk:v.ownBlock=some k):base≤k∧∃ cs,w.heap[k]? = some (.cells cs 5 (0,0)):=by
 rcases ho.2 with ⟨rfl,_⟩ | ⟨q,cap,cur,rfl,hb,hg,_⟩
 · simp [Value.ownBlock] at hk
 · simp [Value.ownBlock] at hk
   subst hk
   exact⟨hb,_,hg⟩
theorem dB.kK {v:Value} {n:Nat} {xs:List Value} (ho:w.ownsRow base 5 1 v n xs) (hg:w.grownBy w' v.ownBlock):dB base g w w':=
 ⟨hg.os,hg.tape,hg.output,hg.size,fun k hk _ hc=>hg.block k hk (fun e=>by
  obtain⟨h1,cs,h2⟩:=vD ho e.symm
  rcases hc with hc | hc
  · omega
  · exact hc _ _ h2)⟩
theorem dB.set (w:World) (i:Nat) (u:Value):dB base g w (w.setCell ⟨g,i,none⟩ u):=
 ⟨rfl,rfl,rfl,by simp [World.setCell],fun k _ hne _=>Below.heap_setCell w ⟨g,i,none⟩ u k hne⟩
end
def pP (w:World) (base g:Nat) (l:List UInt8):Prop:=base≤g∧∃ A m c,Blk w g 131 #[.slice A m c]∧w.ownsRow base 5 1 (.slice A m c) m (bq l)
theorem Gm {w:World} {base:Nat} {v:Value} {n:Nat} {xs:List Value} (ho:w.ownsRow base 5 1 v n xs):∃ A c,v = .slice A n c:=by
 rcases ho.2 with ⟨rfl,h⟩ | ⟨q,cap,cur,rfl,_⟩
 · subst h; exact⟨_,_,rfl⟩
 · exact⟨_,_,rfl⟩
theorem own_below {w w':World} {base:Nat} {v:Value} {n:Nat} {xs:List Value} (ho:w.ownsRow base 5 1 v n xs) (hb:Below w.heap.size w w'):w'.ownsRow base 5 1 v n xs:=by
 rcases ho with ⟨h1,h | ⟨q,cap,cur,hv,hq,hg,r⟩⟩
 · exact⟨h1,.inl h⟩
 · have hlt:q<w.heap.size:=(Array.getElem?_eq_some_iff.1 hg).1
   exact⟨h1,.inr ⟨q,cap,cur,hv,hq,(hb.block q hlt).trans hg,r⟩⟩
theorem pP.below {w w':World} {base g:Nat} {l:List UInt8} (h:pP w base g l) (hb:Below w.heap.size w w'):pP w' base g l:=by
 obtain⟨h1,A,m,c,h2,h3⟩:=h
 exact⟨h1,A,m,c,h2.below hb h2.lt,own_below h3 hb⟩
theorem pP.lt {w:World} {base g:Nat} {l:List UInt8} (h:pP w base g l):g<w.heap.size:=by
 obtain⟨_,A,m,c,h2,_⟩:=h
 exact h2.lt
theorem qm {w:World} {base:Nat} {A:Option Addr} {m c:Nat} {l:List UInt8} (h:w.ownsRow base 5 1 (.slice A m c) m (bq l)):l.length=m:=by
 have:=h.1
 rw [eu,Nat.mul_one] at this
 exact this
def JF (base g:Nat) (l:List UInt8) (w:World) (e:Ending) (w':World):Prop:=e = .returned (.tuple #[])∧pP w' base g l∧dB base g w w'
theorem Le {w:World} {base:Nat} {v:Value} {n:Nat} {xs:List Value} {a:Addr} (ho:w.ownsRow base 5 1 v n xs) (ha:v.ownBlock≠some a.block) (u:Value):(w.setCell a u).ownsRow base 5 1 v n xs:=by
 rcases ho with ⟨h1,h | ⟨q,cap,cur,hv,hq,hg,r⟩⟩
 · exact⟨h1,.inl h⟩
 · refine⟨h1,.inr ⟨q,cap,cur,hv,hq,?_,r⟩⟩
   rw [Below.heap_setCell w a u q (fun e=>ha (by rw [hv]; simp [Value.ownBlock,e]))]
   exact hg
theorem pP.put {w w1:World} {base g:Nat} {A A':Option Addr} {m c m' c':Nat} {l l':List UInt8} (hbg:base≤g) (hB:Blk w g 131 #[.slice A m c]) (ho:w.ownsRow base 5 1 (.slice A m c) m (bq l))
 (ho':w1.ownsRow base 5 1 (.slice A' m' c') m' (bq l')) (hg:w.grownBy w1 (Value.slice A m c).ownBlock) :
 Blk w1 g 131 #[.slice A m c]∧pP (w1.setCell ⟨g,0,none⟩ (.slice A' m' c')) base g l'∧dB base g w (w1.setCell ⟨g,0,none⟩ (.slice A' m' c')):=by
 have hne:some g≠(Value.slice A m c).ownBlock:=fun e=>by
  obtain⟨_,cs,h2⟩:=vD ho e.symm
  unfold Blk at hB
  rw [hB] at h2
  simp only [Option.some.injEq,Obj.cells.injEq] at h2
  exact absurd h2.2.1 (by decide)
 have hB1:Blk w1 g 131 #[.slice A m c]:=(hg.block g hB.lt hne).trans hB
 refine⟨hB1,⟨hbg,A',m',c',Blk.eq (hB1.set 0 _) (by simp),Le ho' (fun e=>?_) _⟩,(dB.kK ho hg).trans (dB.set w1 0 _)⟩
 obtain⟨_,cs,h2⟩:=vD ho' e
 unfold Blk at hB1
 rw [hB1] at h2
 simp only [Option.some.injEq,Obj.cells.injEq] at h2
 exact absurd h2.2.1 (by decide)
theorem yh (base g:Nat) (l:List UInt8) (n:Int) (w:World) (h0:0≤n) (h1:n≤9223372036854775807) (h:pP w base g l) (hl:l.length≤100000000) :
 Calls Tryz.prog 59 #[.pointer (some ⟨g,0,none⟩),.int .i64 n] w (JF base g (l ++ bJ n.toNat) w):=by
 obtain⟨hbg,A,m,c,hB,ho⟩:=h
 have hm:=qm ho
 have y0:w.cell? ⟨g,0,none⟩=some (.slice A m c):=hB.cell 0
 have hgl:=hB.lt
 have hcon:=hid (AN base A m c l n w h0 (by omega) ho (by omega) (by omega))
 have HB:=hid hB
 have HO:=hid ho
 clear hB ho hm
 go_enter Tryz.func59,Tryz.ntmps59
 go_wp2_with fail
 refine Calls.mono hcon.out ?_
 rintro e w1 ⟨A',m',c',rfl,ho',hg'⟩
 obtain⟨hB1,hfin,hkeep⟩:=pP.put hbg HB.out HO.out ho' hg'.grown
 have z0:w1.cell? ⟨g,0,none⟩=some (.slice A m c):=hB1.cell 0
 have zt:w1.frozen? ⟨g,0,none⟩=false:=hB1.thaw 0
 have aS:=hid (And.intro hfin hkeep)
 clear hcon ho' hg' hfin hkeep hB1 y0
 go_wp2
 go_end0
 exact⟨rfl,aS.out.1,aS.out.2⟩
theorem Gf (base g:Nat) (l:List UInt8) (s:ByteArray) (w:World) (hs:s.size≤9223372036854775807) (hT:Tabs w) (h:pP w base g l) (hl:l.length≤100000000) (hbw:base≤w.heap.size) :
 Calls Tryz.prog 69 #[.pointer (some ⟨g,0,none⟩),.string s] w (JF base g (l ++ (tq s).1.data.toList) w):=by
 have hcon:=hid (JE s w hs hT)
 have H:=hid h
 clear h hT
 go_enter Tryz.func69,Tryz.ntmps69
 go_wp2_with fail
 refine Calls.mono hcon.out ?_
 rintro e w0 ⟨rfl,hb0⟩
 obtain⟨hbg,A,m,c,hB,ho⟩:=H.out.below hb0
 have hts:(tq s).1.size≤17:=by
  unfold tq
  split
  · show (0:Nat)≤17; omega
  · split
    · rw [ByteArray.size_append]; show 1+s.size≤17; omega
    · show (0:Nat)≤17; omega
 generalize htt:(tq s).1=t at hts ⊢
 have Htt:=hid htt
 clear htt
 generalize (tq s).2=E
 have hm:=qm ho
 have y0:w0.cell? ⟨g,0,none⟩=some (.slice A m c):=hB.cell 0
 have hgl:=hB.lt
 have HB:=hid hB
 have HO:=hid ho
 have hb0s:=hb0.size
 have Hb0:=hid hb0
 have hmm:m≤100000000:=by omega
 clear hcon hB ho hb0
 have hbw0:base≤w0.heap.size:=by omega
 obtain⟨i0,hi,hz0,hz1,hz2⟩:=info_parts Tryz.infoU8
 have e1:bq l ++ Lib.strCells t=bq (l ++ t.data.toList):=by rw [fM]; rfl
 go_wp2_with (at_builtin; refine Lib.wpList_append_own_string _ rfl _ _ _ _ rfl base 5 i0 Tryz.underlying129 Tryz.underlying9 hi hz0 hz1 hz2 _ m _ rfl HO.out t rfl (by unfold maxLen; omega) (by omega) hbw0 ?_; intro v' w1 ho' hg' _; obtain⟨A',c',rfl⟩:=Gm ho'; rw [e1] at ho'; have hput:=pP.put hbg HB.out HO.out ho' hg'; have z0:w1.cell? ⟨g,0,none⟩=some (.slice A m c):=hput.1.cell 0; have zt:w1.frozen? ⟨g,0,none⟩=false:=hput.1.thaw 0)
 all_goals (go_end0; exact⟨rfl,by rw [Htt.out]; exact hput.2.1,(dB.of_below Hb0.out).trans hput.2.2⟩)
theorem CC (base g:Nat) (l:List UInt8) (n:Int) (w:World) (h0 : -9223372036854775808≤n) (h1:n≤9223372036854775807) (h:pP w base g l) (hl:l.length≤100000000) (hbw:base≤w.heap.size) :
 Calls Tryz.prog 165 #[.pointer (some ⟨g,0,none⟩),.int .i64 n] w (JF base g (l ++ bJ (oN n).toNat) w):=by
 obtain⟨hbg,A,m,c,hB,ho⟩:=h
 have hm:=qm ho
 have y0:w.cell? ⟨g,0,none⟩=some (.slice A m c):=hB.cell 0
 have hgl:=hB.lt
 have hz0:0≤oN n∧oN n<18446744073709551616:=by unfold oN; split <;> omega
 generalize hzz:oN n=z at hz0 ⊢
 have hZ:∀ W,Calls Tryz.prog 261 #[.int .i64 n] W fun e w'=>e = .returned (.int .u64 z)∧W=w':=fun W=>by rw [← hzz]; exact Kv n h0 h1 W
 have hcon:=hid (AN base A m c l z w.drew hz0.1 hz0.2 ho (by omega) hbw)
 have HZ:=hid hZ
 have HB:=hid hB
 have HO:=hid ho
 clear hB ho hm hZ hzz
 go_enter Tryz.func165,Tryz.ntmps165
 go_wp2_with fail
 go_region_with (first
  | (go_at_call 261; refine (HZ.out _).mono ?_; rintro e w' ⟨rfl,rfl⟩)
  | (go_at_call 164; refine (hcon.out).mono ?_; rintro e w1 ⟨A',m',c',rfl,ho',hg'⟩; have hput:=pP.put (w:=w.drew) hbg HB.out HO.out ho' hg'.grown; have z0:w1.cell? ⟨g,0,none⟩=some (.slice A m c):=hput.1.cell 0; have zt:w1.frozen? ⟨g,0,none⟩=false:=hput.1.thaw 0))
 all_goals (go_end0; exact⟨rfl,hput.2.1,(dB.drew w).trans hput.2.2⟩)
end Go.Proofs.YtoeejfhdjmkpcaaGreatDoor
