/- Of the proof of a statement: At, StTop, PlDiff, RowsC, PlFrame, PlDec, PlEncS. -/
import Derived.Deep.QuietTactic
import Derived.BigQuiet
import Derived.Lib.ValidLaws
import Derived.Lib.QuietBelow
import Derived.Test.YtbllgmociapjeaaGreatDoorVHas
import Derived.Test.YtbllgmociapjeaaGreatDoorVSlEq
set_option linter.unusedVariables false
set_option linter.unusedSimpArgs false
set_option maxRecDepth 100000
set_option maxHeartbeats 8000000
/- The walks of JobAt and NodeAt. -/
namespace Go.Proofs.YtbllgmociapjeaaGreatDoor
open Go.Lib (hid)
open Go.RowKit
section
variable {α:Type} {p:α→Bool} {l:List α} {k:Nat} {x:α}
theorem xX (h:l[k]? = some x):l.take (k+1)=l.take k ++ [x]:=by
 obtain⟨hlt,rfl⟩:=List.getElem?_eq_some_iff.1 h
 exact (List.take_append_getElem hlt).symm
theorem vC (h0:(l.take k).find? p=none) (h:l[k]? = some x) (hp:p x=true):l.find? p=some x:=by
 have e:l=l.take k ++ x :: l.drop (k+1):=by rw [← drop_cons h,List.take_append_drop]
 rw [e,List.find?_append,h0,List.find?_cons,hp]; rfl
theorem sH (h0:(l.take k).find? p=none) (h:l[k]? = some x) (hp:p x=false):(l.take (k+1)).find? p=none:=by
 rw [xX h,List.find?_append,h0,List.find?_cons,hp]; rfl
theorem vD (h0:(l.take k).find? p=none) (h:l.length≤k):l.find? p=none:=by rwa [List.take_of_length_le h] at h0
end
theorem qY (s:ByteArray):(s.toList == s.toList)=true:=beq_iff_eq.2 rfl
theorem qZ {s t:ByteArray} (h:s≠t):(s.toList == t.toList)=false:=by
 rw [beq_eq_false_iff_ne,ByteArray.toList_eq,ByteArray.toList_eq]
 exact fun e=>h (ByteArray.ext (Array.toList_inj.1 e))
theorem qT (a b:ByteArray):(a.toList == b.toList)=decide (a=b):=by
 by_cases h:a=b
 · subst h; rw [qY,decide_eq_true rfl]
 · rw [qZ h,decide_eq_false h]
end Go.Proofs.YtbllgmociapjeaaGreatDoor
/- The walks of state.Check and of the law's bad state. -/
namespace Go.Proofs.YtbllgmociapjeaaGreatDoor
open Go.Lib (hid)
open Go.RowKit
theorem lD (st:ah) (x:StA) (w:World) (hS:StAt w w.heap.size st x) (hT:Tabs w) :
 Calls Tryz.prog 58 #[.agg (stC st x)] w fun e w'=>e = .returned (.int .i64 (aE st))∧Below w.heap.size w w':=by
 have hb1:Below w.heap.size w (w.alloc (.cells (stC st x) 26)):=(Below.refl _ _).alloc (Nat.le_refl _) _
 have hC:=hid (E4 st x _ ((hS.below hb1).more hb1.size) (hT.below hb1))
 have Hb1:=hid hb1
 clear hb1 hS hT
 obtain⟨E,hE⟩:∃ E,aE st=E:=⟨_,rfl⟩
 rw [hE]
 have HE:=hid hE
 clear hE
 obtain⟨rev,jobs,nodes,leases⟩:=st
 obtain⟨aj,nj,cj,an,nn,cn,al,nl,cl⟩:=x
 simp only [stC] at *
 go_enter Tryz.func58,Tryz.ntmps58
 go_wp2_with fail
 refine Calls.mono hC.out ?_
 rintro e w1 ⟨hb,hcase⟩
 have Hb:=hid (Hb1.out.trans (hb.mono Hb1.out.size))
 clear hb hC
 rw [HE.out] at hcase
 clear HE
 rcases hcase with ⟨hE,rfl⟩ | ⟨rfl,T,b1,b2,b3,n1,n2,n3,g3,rfl,-,-⟩
 · go_wp2
   refine bodyPost_ret (v:=.int .i64 E) (by simp [results,Tryz.results58,go_sem]) rfl ⟨rfl,Hb.out⟩
 · go_wp2
   refine bodyPost_ret (v:=.int .i64 0) (by simp [results,Tryz.results58,go_sem]) rfl ⟨rfl,Hb.out⟩
end Go.Proofs.YtbllgmociapjeaaGreatDoor
/- What Diff of two states says: plain. -/
namespace Go.Proofs.YtbllgmociapjeaaGreatDoor
open Go.Lib (hid)
noncomputable def newL {α:Type} (a b:List α):List α:=b.filter fun x=>!a.any (eqB x)
def bX {α:Type} (key:α→ByteArray) (a b:List α):List ByteArray:=(a.filter fun x=>!b.any fun y=>decide (key y=key x)).map key
noncomputable def eW (a b:ah):aW:=⟨a.rev,b.rev,newL a.jobs b.jobs,newL a.nodes b.nodes,newL a.leases b.leases,bX aC.name a.jobs b.jobs,bX aA.name a.nodes b.nodes,bX ak.job a.leases b.leases⟩
section
variable {α:Type} {p:α→Bool} {l:List α} {k:Nat} {x:α}
theorem nu (h:l[k]? = some x) (hp:p x=true):(l.take (k+1)).filter p=(l.take k).filter p ++ [x]:=by
 rw [List.take_add_one,h,List.filter_append]; simp [hp]
theorem o7 (h:l[k]? = some x) (hp:p x=false):(l.take (k+1)).filter p=(l.take k).filter p:=by
 rw [List.take_add_one,h,List.filter_append]; simp [hp]
theorem jI (p:α→Bool) (l:List α) (k:Nat):((l.take k).filter p).length≤k:=Nat.le_trans (List.length_filter_le _ _) (by rw [List.length_take]; omega)
theorem filter_all (p:α→Bool) {l:List α} {k:Nat} (h:l.length≤k):(l.take k).filter p=l.filter p:=by rw [List.take_of_length_le h]
end
theorem vS {α:Type} (a b:List α):(newL a b).length≤b.length:=List.length_filter_le _ _
theorem sR {α:Type} (key:α→ByteArray) (a b:List α):(bX key a b).length≤a.length:=by unfold bX; rw [List.length_map]; exact List.length_filter_le _ _
end Go.Proofs.YtbllgmociapjeaaGreatDoor
/- The walk of Rows at leases, each checked alone. -/
namespace Go.Proofs.YtbllgmociapjeaaGreatDoor
open Go.Lib (hid)
open Go.RowKit
theorem nW (n lo hi:Int) (w:World):Calls Tryz.prog 213 #[.int .i64 n,.int .i64 lo,.int .i64 hi] w fun e w'=>e = .returned (.bool (ranged n lo hi))∧w=w':=by
 cases h:ranged n lo hi
 · have h:=gT.1 h
   by_cases h1:lo≤n
   · have e2:decide (n≤hi)=false:=decide_eq_false (by omega)
     clear h
     go_enter Tryz.func213,Tryz.ntmps213
     go_wp2
     go_ret
     exact⟨rfl,rfl⟩
   · have e1:decide (lo≤n)=false:=decide_eq_false h1
     clear h
     go_enter Tryz.func213,Tryz.ntmps213
     go_wp2
     go_ret
     exact⟨rfl,rfl⟩
 · have h:=aL.1 h
   have h1:=h.1
   have e2:decide (n≤hi)=true:=decide_eq_true h.2
   clear h
   go_enter Tryz.func213,Tryz.ntmps213
   go_wp2
   go_ret
   exact⟨rfl,rfl⟩
theorem wR (l:ak) (w:World) (h1:l.job.size≤9223372036854775807) (h2:l.node.size≤9223372036854775807) (hT:Tabs w) :
 Calls Tryz.prog 214 #[.agg (av l).toArray] w fun e w'=>e = .returned (.int .i64 (lsE l))∧Below w.heap.size w w':=by
 obtain⟨E,hE⟩:∃ E,lsE l=E:=⟨_,rfl⟩
 rw [hE]
 have HE:=hid hE
 clear hE
 obtain⟨job,node,till⟩:=l
 unfold av
 simp only at h1 h2 ⊢
 have hb0:Below w.heap.size w (w.alloc (.cells #[.string job,.string node,.int .i64 till] 36)):=(Below.refl _ _).alloc (Nat.le_refl _) _
 have hT0:=hT.below hb0
 have hN:=hid (fI job _ h1 hT0)
 have HT:=hid hT0
 have HB:=hid hb0
 clear hT0 hb0 hT
 go_enter Tryz.func214,Tryz.ntmps214
 go_wp2_with fail
 refine Calls.mono hN.out ?_
 rintro e w1 ⟨rfl,hb1⟩
 have y1:w1.cell? ⟨w.heap.size,1,none⟩=some (.string node):=by rw [(dI hb1).1 _ _ (by simp)]; simp [go_sem]
 have y2:w1.cell? ⟨w.heap.size,2,none⟩=some (.int .i64 till):=by rw [(dI hb1).1 _ _ (by simp)]; simp [go_sem]
 have HB1:=hid (HB.out.trans (hb1.mono HB.out.size))
 have HT1:=hid (HT.out.below hb1)
 have hsz:w.heap.size<w1.heap.size:=by have:=hb1.size; simp at this; omega
 clear hb1 HB HT hN
 cases hn:bF job
 · go_wp2
   go_ret
   exact⟨bg (by rw [← HE.out]; simp [lsE,hn]),HB1.out⟩
 go_wp2_with fail
 refine Calls.mono (fI node w1 h2 HT1.out) ?_
 rintro e w2 ⟨rfl,hb2⟩
 replace y2:=((dI hb2).1 _ _ hsz).trans y2
 have HB2:=hid (HB1.out.trans (hb2.mono HB1.out.size))
 clear y1 hb2 HB1 HT1 hsz
 cases ht:bF node
 · go_wp2
   go_ret
   exact⟨bg (by rw [← HE.out]; simp [lsE,hn,ht]),HB2.out⟩
 go_wp2_with fail
 refine Calls.mono (nW _ _ _ _) ?_
 rintro e w3 ⟨rfl,rfl⟩
 cases hr1:ranged till 0 1099511627776
 · go_wp2
   go_ret
   exact⟨bg (by rw [← HE.out]; simp [lsE,hn,ht,hr1]),HB2.out⟩
 · go_wp2
   go_ret
   exact⟨bg (by rw [← HE.out]; simp [lsE,hn,ht,hr1]),HB2.out⟩
def E5 (xs:List ak):Prop:=∀ x ∈ xs,x.job.size≤9223372036854775807∧x.node.size≤9223372036854775807
def E6 (xs:List ak) (n:Nat) (R:Int) (w:World) (i:Value) (wr:World):Prop:=∃ k:Nat,k≤n∧i = .int .i64 k∧dP lsE ak.job (prevK ak.job xs k) (xs.drop k)=R∧Below w.heap.size w wr
theorem uU (xs:List ak) (A:Option Addr) (n c:Nat) (w:World) (hx:aU w w.heap.size 3 A n (au av xs)) (hl:xs.length=n) (hn:n≤9223372036854775807) (hok:E5 xs) (hT:Tabs w) :
 Calls Tryz.prog 149 #[.slice A n c,.func (.func 150) #[] #[],.func (.func 214) #[] #[]] w fun e w'=>e = .returned (.int .i64 (bT lsE ak.job xs))∧Below w.heap.size w w':=by
 obtain⟨R,hR⟩:∃ R,bT lsE ak.job xs=R:=⟨_,rfl⟩
 rw [hR]
 have HR:=hid hR
 have Hl:=hid hl
 have HT:=hid hT
 have Hok:=hid hok
 clear hl hR hT hok
 go_enter Tryz.func149,Tryz.ntmps149
 go_wp2
 go_loopw [6,7,8,9,12,19,28,35] (fun _ _ _ _ i _ _ _ wr=>E6 xs n R w i wr) (fun _ _ _ _ i _ _ _ _=>n - (intOf i).toNat)
 case atStart=>exact⟨0,Nat.zero_le _,rfl,by rw [← HR.out]; rfl,Below.refl _ _⟩
 case round=>
  obtain⟨k,hk,rfl,hrow,hb⟩:=hrel
  have eM:=hid hrow
  have Hb:=hid hb
  have hsz:=hb.size
  clear hrow
  by_cases hlt:k<n
  · obtain⟨x,hf⟩:∃ x,xs[k]? = some x:=⟨_,List.getElem?_eq_getElem (by rw [Hl.out]; exact hlt)⟩
    obtain⟨b,off,rfl,hbB,hc⟩:=(hx.below hb).dB aG Hl.out hf
    have hso:=hid (Hok.out x (List.mem_of_getElem? hf))
    have Hf:=hid hf
    have hkey:x.job=ak.job x:=rfl
    obtain⟨E,hE⟩:∃ E,lsE x=E:=⟨_,rfl⟩
    have HE:=hid hE
    obtain⟨X,hX⟩:∃ X,X=x:=⟨_,rfl⟩
    have HX:=hid hX
    obtain⟨job,node,till⟩:=x
    obtain⟨c0,c1,c2⟩:=rc3 hc
    clear hc hf hE hX hkey
    have hlb:b<wr.heap.size:=by omega
    have hT1:=hid (HT.out.below (Hb.out.alloc Hb.out.size (.cells #[.string job,.string node,.int .i64 till] 36)))
    have hBa:=hid (Hb.out.alloc Hb.out.size (.cells #[.string job,.string node,.int .i64 till] 36))
    go_wp2_with fail
    refine Calls.mono (wR ⟨job,node,till⟩ _ hso.out.1 hso.out.2 hT1.out) ?_
    rintro e w1 ⟨rfl,hb1⟩
    rw [HE.out]
    have hA0:=(Below.refl wr.heap.size wr).alloc (Nat.le_refl _) (.cells #[.string job,.string node,.int .i64 till] 36)
    have hA1:=hA0.trans (hb1.mono hA0.size)
    have hB1:=hid (hBa.out.trans (hb1.mono hBa.out.size))
    by_cases he:E=0
    · subst he
      have l0:∀ d os,(Sort.grow (redrawn w1 d) os).cell? ⟨wr.heap.size,0,none⟩=some (.string job):=fun d os=>cell_regrown (by rw [(dI hb1).1 _ _ (by simp)]; simp [go_sem]) d os
      have l1:∀ d os,(Sort.grow (redrawn w1 d) os).cell? ⟨wr.heap.size,1,none⟩=some (.string node):=fun d os=>cell_regrown (by rw [(dI hb1).1 _ _ (by simp)]; simp [go_sem]) d os
      have l2:∀ d os,(Sort.grow (redrawn w1 d) os).cell? ⟨wr.heap.size,2,none⟩=some (.int .i64 till):=fun d os=>cell_regrown (by rw [(dI hb1).1 _ _ (by simp)]; simp [go_sem]) d os
      by_cases hk0:k=0
      · subst hk0
        have hst:=hid (jm (key:=ak.job) Hf.out HE.out (.inl rfl))
        clear c0 c1 c2 hb1 hx hA0 hA1
        go_wp2_with fail
        refine wp_region_quiet_below (by kernel_rfl) (by kernel_rfl) ?_
        repeat (go_big_quiet_step (fail))
        refine wpQuiet_nil ?_
        intro _ hw'
        obtain⟨⟨nq,osq⟩,hw''⟩:=hw'
        subst hw''
        have hb2:=hid (hB1.out.trans ((below_regrown w1 nq osq).mono hB1.out.size))
        clear l0 l1 l2
        dsimp only
        generalize Sort.grow (redrawn w1 nq) osq=w2 at hb2 ⊢
        go_wp2
        go_roundw
        case rel=>exact⟨1,by omega,by go_num,by rw [← hst.out]; exact eM.out,hb2.out⟩
        case measure=>simp [intOf]; omega
      · obtain⟨y,hy⟩:∃ y,xs[k - 1]? = some y:=⟨_,List.getElem?_eq_getElem (by rw [Hl.out]; omega)⟩
        obtain⟨b',off',hbo,uh,hp⟩:=(hx.below hb).dB aG Hl.out hy
        obtain⟨rfl,rfl⟩:b=b'∧off=off':=by simpa using hbo
        have Hy:=hid hy
        obtain⟨Y,hY⟩:∃ Y,Y=y:=⟨_,rfl⟩
        obtain⟨qo,GB,GC⟩:=y
        obtain⟨q0,q1,q2⟩:=rc3 hp
        have p0:∀ d os,(Sort.grow (redrawn w1 d) os).cell? ⟨b,off+(k - 1)*3,none⟩=some (.string qo):=fun d os=>cell_regrown (((dI hA1).1 _ _ hlb).trans q0) d os
        have p1:∀ d os,(Sort.grow (redrawn w1 d) os).cell? ⟨b,off+(k - 1)*3+1,none⟩=some (.string GB):=fun d os=>cell_regrown (((dI hA1).1 _ _ hlb).trans q1) d os
        have p2:∀ d os,(Sort.grow (redrawn w1 d) os).cell? ⟨b,off+(k - 1)*3+2,none⟩=some (.int .i64 GC):=fun d os=>cell_regrown (((dI hA1).1 _ _ hlb).trans q2) d os
        clear q0 q1 q2 c0 c1 c2 hp hy hY hb1 hx hA0 hA1
        have hkp:decide ((0:Int)<(k:Int))=true:=decide_eq_true (by omega)
        have hkn:0<k:=by omega
        have hlt2:=hid (dW qo.toList job.toList)
        obtain⟨B,hB⟩:∃ B,Op.bytesLess qo.toList job.toList=B:=⟨_,rfl⟩
        have HL:=hid hB
        cases B
        · have e1:(Op.bytesLess job.toList qo.toList || job.toList == qo.toList)=true:=by rw [← hlt2.out,hB]; rfl
          have hst:=hid (nC (key:=ak.job) Hf.out HE.out hk0 Hy.out HL.out)
          clear hB
          go_wp2_with fail
          refine wp_region_quiet_below (by kernel_rfl) (by kernel_rfl) ?_
          repeat (go_big_quiet_step ((go_at_call 150; exact Calls.regrown_of (eA _ _ _ _))))
          refine wpQuiet_nil ?_
          intro _ hw'
          obtain⟨⟨nq,osq⟩,hw''⟩:=hw'
          subst hw''
          have hb2:=hid (hB1.out.trans ((below_regrown w1 nq osq).mono hB1.out.size))
          clear l0 l1 l2 p0 p1 p2
          dsimp only
          generalize Sort.grow (redrawn w1 nq) osq=w2 at hb2 ⊢
          go_wp2
          go_ret
          exact⟨bg (by rw [← eM.out]; exact hst.out.symm),hb2.out⟩
        · have e1:(Op.bytesLess job.toList qo.toList || job.toList == qo.toList)=false:=by rw [← hlt2.out,hB]; rfl
          have hst:=hid (jm (key:=ak.job) Hf.out HE.out (.inr ⟨_,Hy.out,HL.out⟩))
          clear hB
          go_wp2_with fail
          refine wp_region_quiet_below (by kernel_rfl) (by kernel_rfl) ?_
          repeat (go_big_quiet_step ((go_at_call 150; exact Calls.regrown_of (eA _ _ _ _))))
          refine wpQuiet_nil ?_
          intro _ hw'
          obtain⟨⟨nq,osq⟩,hw''⟩:=hw'
          subst hw''
          have hb2:=hid (hB1.out.trans ((below_regrown w1 nq osq).mono hB1.out.size))
          clear l0 l1 l2 p0 p1 p2
          dsimp only
          generalize Sort.grow (redrawn w1 nq) osq=w2 at hb2 ⊢
          go_wp2
          go_roundw
          case rel=>exact⟨k+1,by omega,by go_num,by rw [← hst.out]; exact eM.out,hb2.out⟩
          case measure=>simp [intOf]; omega
    · have hst:=hid (rE (E:=lsE) (key:=ak.job) Hf.out (by rw [HE.out]; exact he))
      have e1:(E == 0)=false:=beq_eq_false_iff_ne.2 he
      have e2:(E != 0)=true:=bne_iff_ne.2 he
      clear c0 c1 c2 hb1 hx hA0 hA1
      go_wp2
      go_ret
      exact⟨bg (by rw [← eM.out,hst.out]; exact HE.out.symm),hB1.out⟩
  · obtain rfl:k=n:=by omega
    have fin:=hid (show R=0 by rw [← eM.out]; exact rF (by rw [Hl.out]; exact Nat.le_refl _) _)
    clear hb hx
    go_wp2
    go_ret
    exact⟨bg fin.out.symm,Hb.out⟩
end Go.Proofs.YtbllgmociapjeaaGreatDoor
/- Frames: plain. -/
namespace Go.Proofs.YtbllgmociapjeaaGreatDoor
open Go.Lib (hid)
def mJ (l:List UInt8):List UInt8:=[UInt8.ofNat (jA l / 16777216),UInt8.ofNat (jA l / 65536),UInt8.ofNat (jA l / 256),UInt8.ofNat (jA l)]
theorem DX (l:List UInt8):jA l<4294967296:=by unfold jA; omega
def mK (v k:Nat) (p:List UInt8):List UInt8:=[66,75,UInt8.ofNat v,UInt8.ofNat k] ++ aO p.length ++ p
def cR (v k:Nat) (p:List UInt8):List UInt8:=mK v k p ++ mJ (mK v k p)
theorem FV (v k:Nat) (p:List UInt8):(mK v k p).length≤p.length+15:=by
 have:=cH p.length
 simp [mK]; omega
end Go.Proofs.YtbllgmociapjeaaGreatDoor
/- Reading a frame: plain. -/
namespace Go.Proofs.YtbllgmociapjeaaGreatDoor
open Go.Lib (hid)
def aK (s:ByteArray) (i:Nat):Nat:=(s.data.toList.getD i 0).toNat
theorem DU {s:ByteArray} {i:Nat} (h:i<s.size):aK s i=s[i].toNat:=by
 unfold aK
 rw [List.getD_eq_getElem?_getD,List.getElem?_eq_getElem (by simpa using h)]
 rfl
theorem DW (s:ByteArray) (i:Nat):aK s i<256:=(s.data.toList.getD i 0).toNat_lt
def kR (s:ByteArray):Nat:=
 if 0<s.size∧aK s 0≠66 then 4
 else if 1<s.size∧aK s 1≠75 then 4
 else if 2<s.size∧(aK s 2<1∨3<aK s 2) then 1
 else if 3<s.size∧(aK s 3<1∨4<aK s 3) then 1
 else if s.size<4 then 3 else 0
structure jJ (s:ByteArray) (k:Nat):Prop where
 h0:0<k→0<s.size∧aK s 0=66
 h1:1<k→1<s.size∧aK s 1=75
 h2:2<k→2<s.size∧1≤aK s 2∧aK s 2≤3
 h3:3<k→3<s.size∧1≤aK s 3∧aK s 3≤4
theorem jJ.zero (s:ByteArray):jJ s 0:=⟨fun h=>absurd h (by omega),fun h=>absurd h (by omega),fun h=>absurd h (by omega),fun h=>absurd h (by omega)⟩
section
variable {s:ByteArray}
theorem FS (h:0<s.size) (hb:aK s 0≠66):kR s=4:=by unfold kR; rw [if_pos ⟨h,hb⟩]
theorem KF (ht:jJ s 1) (h:1<s.size) (hb:aK s 1≠75):kR s=4:=by
 have:=ht.h0 (by omega)
 unfold kR; rw [if_neg (by omega),if_pos ⟨h,hb⟩]
theorem KG (ht:jJ s 2) (h:2<s.size) (hb:aK s 2<1∨3<aK s 2):kR s=1:=by
 have:=ht.h0 (by omega)
 have:=ht.h1 (by omega)
 unfold kR; rw [if_neg (by omega),if_neg (by omega),if_pos ⟨h,hb⟩]
theorem KH (ht:jJ s 3) (h:3<s.size) (hb:aK s 3<1∨4<aK s 3):kR s=1:=by
 have:=ht.h0 (by omega)
 have:=ht.h1 (by omega)
 have:=ht.h2 (by omega)
 unfold kR; rw [if_neg (by omega),if_neg (by omega),if_neg (by omega),if_pos ⟨h,hb⟩]
theorem BI {k:Nat} (ht:jJ s k) (hk:s.size≤k) (h:s.size<4):kR s=3:=by
 have a0:=ht.h0
 have a1:=ht.h1
 have a2:=ht.h2
 have a3:=ht.h3
 unfold kR
 rw [if_neg (by omega),if_neg (by omega),if_neg (by omega),if_neg (by omega),if_pos h]
theorem IZ (ht:jJ s 4):kR s=0∧4≤s.size:=by
 have a0:=ht.h0 (by omega)
 have a1:=ht.h1 (by omega)
 have a2:=ht.h2 (by omega)
 have a3:=ht.h3 (by omega)
 unfold kR
 rw [if_neg (by omega),if_neg (by omega),if_neg (by omega),if_neg (by omega),if_neg (by omega)]
 exact⟨rfl,by omega⟩
end
structure dD where
 ver:Nat
 kind:Nat
 pay:ByteArray
def dD.zero:dD:=⟨0,0,⟨#[]⟩⟩
def fM (s:ByteArray):dD × Nat × Nat:=
 if kR s=0 then
  match rdNum (s.extract 4 s.size) with
  | (n,k,e)=>
   if e=0 then
    if 6000<n then (.zero,0,2)
    else if s.size<8+k+n then (.zero,0,3)
    else if (s.extract (4+k+n) (8+k+n)).data.toList=mJ (s.extract 0 (4+k+n)).data.toList then (⟨aK s 2,aK s 3,s.extract (4+k) (4+k+n)⟩,8+k+n,0)
    else (.zero,0,5)
   else (.zero,0,e)
 else (.zero,0,kR s)
section
variable {s:ByteArray} {n k e:Nat}
theorem DV {c:Nat} (h:kR s=c) (hc:c≠0):fM s=(.zero,0,c):=by subst h; unfold fM; rw [if_neg hc]
theorem FU (h:kR s=0) (hr:rdNum (s.extract 4 s.size)=(n,k,e)) (he:e≠0):fM s=(.zero,0,e):=by unfold fM; rw [if_pos h,hr]; simp only; rw [if_neg he]
theorem BJ (h:kR s=0) (hr:rdNum (s.extract 4 s.size)=(n,k,0)) (hn:6000<n):fM s=(.zero,0,2):=by unfold fM; rw [if_pos h,hr]; simp only; rw [if_pos trivial,if_pos hn]
theorem BK (h:kR s=0) (hr:rdNum (s.extract 4 s.size)=(n,k,0)) (hn:¬ 6000<n) (hs:s.size<8+k+n):fM s=(.zero,0,3):=by unfold fM; rw [if_pos h,hr]; simp only; rw [if_pos trivial,if_neg hn,if_pos hs]
theorem FT (h:kR s=0) (hr:rdNum (s.extract 4 s.size)=(n,k,0)) (hn:¬ 6000<n) (hs:¬ s.size<8+k+n) (hm:¬ (s.extract (4+k+n) (8+k+n)).data.toList=mJ (s.extract 0 (4+k+n)).data.toList):fM s=(.zero,0,5):=by unfold fM; rw [if_pos h,hr]; simp only; rw [if_pos trivial,if_neg hn,if_neg hs,if_neg hm]
theorem Af (h:kR s=0) (hr:rdNum (s.extract 4 s.size)=(n,k,0)) (hn:¬ 6000<n) (hs:¬ s.size<8+k+n) (hm:(s.extract (4+k+n) (8+k+n)).data.toList=mJ (s.extract 0 (4+k+n)).data.toList):fM s=(⟨aK s 2,aK s 3,s.extract (4+k) (4+k+n)⟩,8+k+n,0):=by unfold fM; rw [if_pos h,hr]; simp only; rw [if_pos trivial,if_neg hn,if_neg hs,if_pos hm]
end
end Go.Proofs.YtbllgmociapjeaaGreatDoor
/- What may be written: plain. -/
namespace Go.Proofs.YtbllgmociapjeaaGreatDoor
open Go.Lib (hid)
open Go.RowKit
theorem C8 {j:aC} (h:fB j=0):ug j:=by
 obtain⟨h1,h2,h3,h4,h5⟩:=gI h
 have:=bO h1
 have:=gy h2
 exact⟨by omega,by omega,by omega,by omega,by omega⟩
theorem Ah {n:aA} (h:dO n=0):oh n:=by
 obtain⟨h1,h2,h3⟩:=iY h
 have:=bO h1
 have:=gy h2
 exact⟨by omega,by omega,by omega⟩
theorem DY {l:ak} (h:lsE l=0):sG l:=by
 obtain⟨h1,h2,h3⟩:=wF h
 have:=bO h1
 have:=bO h2
 exact⟨by omega,by omega,by omega⟩
end Go.Proofs.YtbllgmociapjeaaGreatDoor
