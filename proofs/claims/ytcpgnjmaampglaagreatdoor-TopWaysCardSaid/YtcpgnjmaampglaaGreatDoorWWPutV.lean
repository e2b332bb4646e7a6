/- Of the proof of a statement: ReqEG, PlPre, WPutV. -/
import Derived.Test.YtcpgnjmaampglaaGreatDoorWSvOwn
set_option linter.unusedVariables false
set_option linter.unusedSimpArgs false
set_option maxRecDepth 100000
set_option maxHeartbeats 8000000
/- req.Encode at any request that may be. -/
namespace Go.Proofs.YtcpgnjmaampglaaGreatDoor
open Go.Lib (hid)
open Go.RowKit
def Nz (q:cJ) (L:List UInt8) (w:World) (e:Ending) (w':World):Prop:=e = .returned (.tuple #[.string (BA L),.int .i64 0])∧Below w.heap.size w w'
theorem FJ (q:cJ) (L:List UInt8) (w:World) (T:TypeId) (F:FuncId) (J:Value→World→Prop) (hk:0≤q.kind∧q.kind≤9) (hCk:Qo q) (hT:Tabs w) (h0:kB q=0)
 (hc:∀ a (w:World),(callFunc F a).run Tryz.prog w = .ok (.enter F a) w)
 (HPt:∀ w,Calls Tryz.prog 116 #[gY q] w fun e w'=>∃ v,e = .returned (.iface T v)∧J v w'∧Below w.heap.size w w')
 (HM : ∀ v w, J v w → ∀ w', (method 515 T v "bracken/req.put").run Tryz.prog w' = .ok (F, v) w')
 (MV:∀ base g l v w,J v w→eL w base g l→l.length≤90000000→Calls Tryz.prog F #[v,.pointer (some ⟨g,0,none⟩)] w (fH base g (l ++ L) w)) :
 Calls Tryz.prog 55 #[gY q] w (Nz q (bg q.kind.toNat ++ L) w):=by
 obtain⟨W,hW⟩:∃ W,w.alloc (.cells (eM q) 65)=W:=⟨_,rfl⟩
 have hb:Blk W w.heap.size 65 (eM q):=by rw [← hW]; exact heap_alloc_new w _
 have hbW:Below w.heap.size w W:=by rw [← hW]; exact (Below.refl _ _).alloc (Nat.le_refl _) _
 have hck:=hCk W (hT.below hbW)
 rw [h0] at hck
 obtain⟨c0,c1,c2,c3,c4,c5,c6,c7,c8,c9,c10,c11,c12,c13⟩:=Blk.c14 (hb)
 have hlt:=hb.lt
 have HCk:=hid hck
 have Hb:=hid hb
 have HbW:=hid hbW
 have HT:=hid hT
 have HW:=hid hW
 have Hk:=hid hk
 have OM:=hid HPt
 have HMh:=hid HM
 have Pm:=hid MV
 clear hb hbW hT hW hck hCk h0 hk HPt HM MV
 unfold gY at HCk OM ⊢
 unfold eM at HCk HW OM ⊢
 go_enter Tryz.func55,Tryz.ntmps55
 go_wp2_with fail
 try simp only [HW.out]
 clear HW
 refine Calls.mono HCk.out ?_
 rintro e w1 ⟨rfl,hb1⟩
 have hB1:=HbW.out.trans (hb1.mono HbW.out.size)
 have hQ1:=Hb.out.below hb1 Hb.out.lt
 obtain⟨w2,hw2⟩:∃ w2,w1.alloc (.cells #[.slice none 0 0] 134)=w2:=⟨_,rfl⟩
 have hb2:Below w1.heap.size w1 w2:=by rw [← hw2]; exact (Below.refl _ _).alloc (Nat.le_refl _) _
 have hT2:=HT.out.below (hB1.trans (hb2.mono hB1.size))
 have hlts:=(HT.out.below hB1).lts
 have hwr:eL w2 w1.heap.size w1.heap.size []:=⟨⟨Nat.le_refl _,none,0,0,by rw [← hw2]; exact heap_alloc_new w1 _,World.ownsRow_nil _ _ _ _⟩,hT2,hlts.1,hlts.2,hb2.size⟩
 have hQ2:=hQ1.below hb2 hQ1.lt
 have HN:=hid (mT w1.heap.size w1.heap.size [] q.kind w2 (by have:=Hk.out; omega) hwr (by simp))
 have k0:w1.cell? ⟨w.heap.size,0,none⟩=some (.int .i64 q.kind):=hQ1.cell 0
 have hlt2:=hQ1.lt
 have HB2:=hid (hB1.trans (hb2.mono hB1.size))
 have HQ2:=hid hQ2
 have Hw2:=hid hw2
 have Hsz:=hid hb2.size
 have ON:=hid hQ1.lt
 clear hb1 hB1 hQ1 hb2 hT2 hlts hwr hQ2 hw2 HCk Hb HbW c0 c1 c2 c3 c4 c5 c6 c7 c8 c9 c10 c11 c12 c13 hlt
 go_wp2_with fail
 try simp only [Hw2.out]
 clear Hw2
 refine Calls.mono HN.out ?_
 rintro e w3 ⟨rfl,hwr3,hk3⟩
 have hQ3:Blk w3 w.heap.size 65 (eM q):=hk3.blk HQ2.out (by decide) (Nat.ne_of_lt ON.out)
 obtain⟨d0,d1,d2,d3,d4,d5,d6,d7,d8,d9,d10,d11,d12,d13⟩:=Blk.c14 (hQ3)
 have hlt3:=hQ3.lt
 have HP:=hid (OM.out w3)
 have Hwr3:=hid hwr3
 have Hk3:=hid hk3
 clear hwr3 hk3 hQ3 HN HQ2 k0 hlt2 OM
 go_wp2_with fail
 refine Calls.mono HP.out ?_
 rintro e w4 ⟨v,rfl,hJ,hb4⟩
 have hwr4:=Hwr3.out.below hb4
 have hl4:([] ++ bg (Int.toNat q.kind)).length≤90000000:=by rw [List.nil_append]; have:=dP (Int.toNat q.kind); omega
 have MV:=hid (Pm.out w1.heap.size w1.heap.size _ v w4 hJ hwr4 hl4)
 have hm:=HMh.out v w4 hJ
 have OO:=Hk3.out.below (Nat.le_refl _) Hsz.out
 have HB4:=hid ((HB2.out.trans (OO.mono (Nat.le_of_lt ON.out))).trans (hb4.mono (HB2.out.trans (OO.mono (Nat.le_of_lt ON.out))).size))
 have Hs4:=hid (Nat.le_trans Hsz.out (Nat.le_trans OO.size hb4.size))
 clear hJ hb4 hwr4 hl4 OO HP Hwr3 Hk3 HMh Pm d0 d1 d2 d3 d4 d5 d6 d7 d8 d9 d10 d11 d12 d13 hlt3
 go_wp2_with fail
 refine Calls.mono MV.out ?_
 rintro e w5 ⟨rfl,hwr5,hk5⟩
 have HK5:=hid (HB4.out.trans ((hk5.below (Nat.le_refl _) Hs4.out).mono (Nat.le_of_lt ON.out)))
 obtain⟨_,AA,m,cc,hBW,ho⟩:=hwr5.at_
 have z0:w5.cell? ⟨w1.heap.size,0,none⟩=some (.slice AA m cc):=hBW.cell 0
 have hlw5:=hBW.lt
 have hrun:=cN (P:=Tryz.prog) Tryz.underlying118 Tryz.underlying5 Tryz.underlying9 ho
 clear hwr5 hk5 hBW ho MV hm
 go_wp2
 go_ret2
 exact⟨rfl,HK5.out⟩
theorem MW (s:ByteArray):∀ (f k acc a n:Nat),rdB s f k acc=(a,n,0)→k<n
 | 0,k,acc,a,n,h=>by simp [rdB] at h
 | f+1,k,acc,a,n,h=>by
  rw [rdB] at h
  split at h
  · split at h
    · simp at h
    · split at h
      · simp only [Prod.mk.injEq] at h; omega
      · have:=MW s f (k+1) _ a n h; omega
  · simp at h
theorem IN (s t:ByteArray) {k:Nat} (h:k<s.size) (h':k<(s ++ t).size):(s ++ t)[k]=s[k]:=by
 have e:∀ (u:ByteArray) (hu:k<u.size),u[k]=u.data[k]'hu:=fun _ _=>rfl
 rw [e,e]
 simp only [ByteArray.data_append]
 exact Array.getElem_append_left h
theorem IP (s t:ByteArray):∀ (f k acc a n:Nat),k≤s.size→rdB (s ++ t) f k acc=(a,n,0)→rdB s f k acc=if n≤s.size then (a,n,0) else (0,0,3)
 | 0,k,acc,a,n,_,h=>by simp [rdB] at h
 | f+1,k,acc,a,n,hk,h=>by
  have hgt:=MW _ _ _ _ _ _ h
  have hsz:(s ++ t).size=s.size+t.size:=ByteArray.size_append
  by_cases hs:k<s.size
  · rw [rdB,dif_pos (by omega),IN s t hs (by omega)] at h
    rw [rdB,dif_pos hs]
    split at h
    · simp at h
    · rename_i hb
      rw [if_neg hb]
      split at h
      · rename_i h1
        rw [if_pos h1]
        simp only [Prod.mk.injEq] at h
        obtain⟨rfl,rfl,_⟩:=h
        rw [if_pos (by omega)]
      · rename_i h1
        rw [if_neg h1]
        exact IP s t f (k+1) _ a n (by omega) h
  · rw [rdB,dif_neg hs,if_neg (by omega)]
theorem p9 (s t:ByteArray) {i:Nat} (h:i<s.size):aP (s ++ t) i=aP s i:=by
 have hsz:(s ++ t).size=s.size+t.size:=ByteArray.size_append
 rw [vQ (s:=s ++ t) (by omega),vQ h,IN s t h]
theorem MX (s t:ByteArray) (h:jU (s ++ t)=0):jU s=if s.size<4 then 3 else 0:=by
 have hsz:(s ++ t).size=s.size+t.size:=ByteArray.size_append
 unfold jU at h
 split at h
 · cases h
 rename_i h0
 split at h
 · cases h
 rename_i h1
 split at h
 · cases h
 rename_i h2
 split at h
 · cases h
 rename_i h3
 unfold jU
 rw [if_neg (fun hh=>h0 ⟨by omega,by rw [p9 s t hh.1]; exact hh.2⟩),if_neg (fun hh=>h1 ⟨by omega,by rw [p9 s t hh.1]; exact hh.2⟩),
  if_neg (fun hh=>h2 ⟨by omega,by rw [p9 s t hh.1]; exact hh.2⟩),if_neg (fun hh=>h3 ⟨by omega,by rw [p9 s t hh.1]; exact hh.2⟩)]
theorem OP (s t:ByteArray) {k:Nat} (h:k≤s.size):(s ++ t).extract k (s ++ t).size=s.extract k s.size ++ t:=by
 have hsz:(s ++ t).size=s.size+t.size:=ByteArray.size_append
 apply ByteArray.ext
 rw [ByteArray.data_extract,ByteArray.data_append,ByteArray.data_append,ByteArray.data_extract]
 apply Array.ext'
 have e1:s.data.toList.length=s.size:=by simp
 have e2:t.data.toList.length=t.size:=by simp
 simp only [Array.toList_extract,Array.toList_append,List.extract_eq_take_drop]
 rw [List.drop_append_of_le_length (by omega),List.take_of_length_le (by rw [List.length_append,List.length_drop]; omega),List.take_of_length_le (by rw [List.length_drop]; omega)]
theorem MY {s t:ByteArray} {f:bL} {n:Nat} (h:eK (s ++ t)=(f,n,0)) (hn:s.size<n):eK s=(.zero,0,3):=by
 have hsz:(s ++ t).size=s.size+t.size:=ByteArray.size_append
 unfold eK at h
 by_cases hd:jU (s ++ t)=0
 · rw [if_pos hd] at h
   have hp:=MX s t hd
   unfold eK
   by_cases h4:s.size<4
   · rw [hp,if_pos h4,if_neg (by decide)]
   · rw [hp,if_neg h4,if_pos rfl]
     rw [OP s t (by omega)] at h
     obtain⟨a,k,x,hr⟩:∃ a k x,rdNum (s.extract 4 s.size ++ t)=(a,k,x):=⟨_,_,_,rfl⟩
     rw [hr] at h
     dsimp only at h
     by_cases hx:x=0
     · subst hx
       rw [if_pos rfl] at h
       have hq:=IP (s.extract 4 s.size) t 10 0 0 a k (Nat.zero_le _) hr
       have he:(s.extract 4 s.size).size=s.size - 4:=by rw [ByteArray.size_extract]; omega
       have hrd:rdNum (s.extract 4 s.size)=if k≤(s.extract 4 s.size).size then (a,k,0) else (0,0,3):=hq
       rw [hrd]
       split at h
       · cases h
       rename_i h6
       split at h
       · cases h
       rename_i h8
       split at h
       · simp only [Prod.mk.injEq] at h
         by_cases hk:k≤(s.extract 4 s.size).size
         · rw [if_pos hk]
           dsimp only
           rw [if_pos rfl,if_neg h6,if_pos (by omega)]
         · rw [if_neg hk]
           dsimp only
           rw [if_neg (by decide)]
       · cases h
     · rw [if_neg hx] at h
       simp only [Prod.mk.injEq] at h
       exact absurd h.2.2 hx
 · rw [if_neg hd] at h
   simp only [Prod.mk.injEq] at h
   exact absurd h.2.2 hd
theorem JA {s t:ByteArray} {f:bL} {n:Nat} (h:eK (s ++ t)=(f,n,0)) (hn:s.size<n):Frs s [] 0 3:=.stop (MY h hn) (by decide)
theorem OQ (base g p q:Nat) (v:Int) (l:List UInt8) (x:aB) (w:World) (hx:xQ x) (h:eL w base g l) (hl:l.length≤90000000) (hp:Blk w p 132 #[.pointer (some ⟨g,0,none⟩)]) (hq:Blk w q 3 #[.int .i64 v]) :
 Calls Tryz.prog 64 #[.agg (aH x).toArray,.pointer (some ⟨p,0,none⟩),.pointer (some ⟨q,0,none⟩)] w (fH base g (l ++ eC x v) w):=by
 have Hx:=hid hx
 obtain⟨name,prio,need,tries,tag⟩:=x
 generalize hK:l ++ eC _ v=K
 have HK:=hid hK
 unfold aH
 have H0:=hid (WGo.start h 59 #[.string name,.int .i64 prio,.int .i64 need,.int .i64 tries,.string tag] (by decide))
 have y0:w.cell? ⟨p,0,none⟩=some (.pointer (some ⟨g,0,none⟩)):=hp.cell 0
 have hpl:=hp.lt
 have y1:w.cell? ⟨q,0,none⟩=some (.int .i64 v):=hq.cell 0
 have hql:=hq.lt
 clear h hx hp hq hK
 go_enter Tryz.func64,Tryz.ntmps64
 go_wp2_with fail
 refine Calls.mono (L9 base g _ ⟨name,prio,need,tries,tag⟩ v _ Hx.out H0.out.ok (by have:=H0.out.len; omega)) ?_
 rintro e w1 ⟨rfl,ok1,k1⟩
 rw [HK.out] at ok1
 have hkk:=H0.out.keep.trans k1
 go_wp2
 go_end0
 exact⟨rfl,ok1,hkk⟩
theorem MZ (base g p q:Nat) (v:Int) (l:List UInt8) (x:av) (w:World) (hx:sB x) (h:eL w base g l) (hl:l.length≤90000000) (hp:Blk w p 132 #[.pointer (some ⟨g,0,none⟩)]) (hq:Blk w q 3 #[.int .i64 v]) :
 Calls Tryz.prog 67 #[.agg (aI x).toArray,.pointer (some ⟨p,0,none⟩),.pointer (some ⟨q,0,none⟩)] w (fH base g (l ++ cZ x v) w):=by
 have Hx:=hid hx
 obtain⟨name,room,zone⟩:=x
 generalize hK:l ++ cZ _ v=K
 have HK:=hid hK
 unfold aI
 have H0:=hid (WGo.start h 61 #[.string name,.int .i64 room,.string zone] (by decide))
 have y0:w.cell? ⟨p,0,none⟩=some (.pointer (some ⟨g,0,none⟩)):=hp.cell 0
 have hpl:=hp.lt
 have y1:w.cell? ⟨q,0,none⟩=some (.int .i64 v):=hq.cell 0
 have hql:=hq.lt
 clear h hx hp hq hK
 go_enter Tryz.func67,Tryz.ntmps67
 go_wp2_with fail
 refine Calls.mono (JQ base g _ ⟨name,room,zone⟩ v _ Hx.out H0.out.ok (by have:=H0.out.len; omega)) ?_
 rintro e w1 ⟨rfl,ok1,k1⟩
 rw [HK.out] at ok1
 have hkk:=H0.out.keep.trans k1
 go_wp2
 go_end0
 exact⟨rfl,ok1,hkk⟩
theorem p8 :
 (∀ (base g p q:Nat) (v:Int) (l:List UInt8) (xs:List aB) (A:Option Addr) (n c:Nat) (w:World) (hx:aQ w base 5 A n (au aH xs)) (hl:xs.length=n) (hn:n≤1000000) (hw:∀ x ∈ xs,xQ x) (h:eL w base g l) (hll:l.length≤1000000) (hp:Blk w p 132 #[.pointer (some ⟨g,0,none⟩)]) (hpg:p≠g) (hq:Blk w q 3 #[.int .i64 v]) (hqg:q≠g),Calls Tryz.prog 63 #[.pointer (some ⟨g,0,none⟩),.slice A n c,.func (.func 64) #[] #[.pointer (some ⟨p,0,none⟩),.pointer (some ⟨q,0,none⟩)]] w (fH base g (l ++ fM (fun x=>eC x v) xs) w)) ∧
 (∀ (base g p q:Nat) (v:Int) (l:List UInt8) (xs:List av) (A:Option Addr) (n c:Nat) (w:World) (hx:aQ w base 3 A n (au aI xs)) (hl:xs.length=n) (hn:n≤1000000) (hw:∀ x ∈ xs,sB x) (h:eL w base g l) (hll:l.length≤1000000) (hp:Blk w p 132 #[.pointer (some ⟨g,0,none⟩)]) (hpg:p≠g) (hq:Blk w q 3 #[.int .i64 v]) (hqg:q≠g),Calls Tryz.prog 66 #[.pointer (some ⟨g,0,none⟩),.slice A n c,.func (.func 67) #[] #[.pointer (some ⟨p,0,none⟩),.pointer (some ⟨q,0,none⟩)]] w (fH base g (l ++ fM (fun x=>cZ x v) xs) w)):=by
 refine⟨@fun base g p q v l xs A n c w hx hl hn hw h hll hp hpg hq hqg=>(fun(jM0:Unit)=>?_) (),@fun base g p q v l xs A n c w hx hl hn hw h hll hp hpg hq hqg=>(fun(jM1:Unit)=>?_) ()⟩<;>(
 first
  |(
   guard_hyp jM0
   have nA:∀ k,((xs.take k).flatMap (fun x=>eC x v)).length≤85*n:=fun k=>by
    have h1:=lS (enc:=fun x=>eC x v) (fun x=>oI _ v) (xs.take k)
    have h2:(xs.take k).length≤n:=by rw [List.length_take]; omega
    omega)
  |(
   guard_hyp jM1
   have nA:∀ k,((xs.take k).flatMap (fun x=>cZ x v)).length≤85*n:=fun k=>by
    have h1:=lS (enc:=fun x=>cZ x v) (fun x=>oJ _ v) (xs.take k)
    have h2:(xs.take k).length≤n:=by rw [List.length_take]; omega
    omega)
 have hnl:=dD n
 first|(guard_hyp jM0;have Hlen:=hid (show ∀ k,(l ++ bg n ++ (xs.take k).flatMap (fun x=>eC x v)).length≤90000000 from fun k=>by have:=nA k; simp only [List.length_append]; omega))|have Hlen:=hid (show ∀ k,(l ++ bg n ++ (xs.take k).flatMap (fun x=>cZ x v)).length≤90000000 from fun k=>by have:=nA k; simp only [List.length_append]; omega)
 first|(guard_hyp jM0;have bJ:=hid (show l ++ fM (fun x=>eC x v) xs=l ++ bg n ++ (xs.take n).flatMap (fun x=>eC x v) from by unfold fM; rw [← hl,List.take_length,List.append_assoc]))|have bJ:=hid (show l ++ fM (fun x=>cZ x v) xs=l ++ bg n ++ (xs.take n).flatMap (fun x=>cZ x v) from by unfold fM; rw [← hl,List.take_length,List.append_assoc])
 have HN:=hid (mT base g l (n:Int) w (by omega) h (by omega))
 have Hw:=hid hw
 have Hl:=hid hl
 have Hx:=hid hx
 have Ho:=hid h
 have Hp:=hid hp
 have Hq:=hid hq
 clear hw hl hx h nA hnl hp hq
 first|(guard_hyp jM0;go_enter Tryz.func63,Tryz.ntmps63)|go_enter Tryz.func66,Tryz.ntmps66
 go_wp2_with fail
 refine Calls.mono HN.out ?_
 rintro e w0 ⟨rfl,ok0,k0⟩
 rw [show ((n:Int)).toNat=n from by omega] at ok0
 have Ok0:=hid ok0
 have K0:=hid k0
 clear ok0 k0
 go_wp2
 first|(guard_hyp jM0;go_loopw [7,14] (fun _ i wr=>rO (fun x=>eC x v) xs n base g l w i wr) (fun _ i _=>n - (intOf i).toNat))|go_loopw [7,14] (fun _ i wr=>rO (fun x=>cZ x v) xs n base g l w i wr) (fun _ i _=>n - (intOf i).toNat)
 case atStart=>exact⟨0,Nat.zero_le _,rfl,by simpa using Ok0.out,K0.out⟩
 case round=>
  obtain⟨k,hk,rfl,hok,hkp⟩:=hrel
  have Hok:=hid hok
  have Hkp:=hid hkp
  have hsz:=hok.size
  have hB:=Ho.out.keep hkp
  clear hok hkp
  by_cases hlt:k<n
  · obtain⟨x,hf⟩:∃ x,xs[k]? = some x:=⟨_,List.getElem?_eq_getElem (by rw [Hl.out]; exact hlt)⟩
    first|(guard_hyp jM0;obtain⟨b,off,rfl,hbB,hc⟩:=(Hx.out.below hB).dF aN Hl.out hf)|obtain⟨b,off,rfl,hbB,hc⟩:=(Hx.out.below hB).dF bF Hl.out hf
    have hso:=hid (Hw.out x (List.mem_of_getElem? hf))
    first|(guard_hyp jM0;have Hst:=hid (mL (fun x=>eC x v) hf))|have Hst:=hid (mL (fun x=>cZ x v) hf)
    obtain⟨X,hX⟩:∃ X,X=x:=⟨_,rfl⟩
    have HX:=hid hX
    first
     |(
      guard_hyp jM0
      obtain⟨name,prio,need,tries,tag⟩:=x
      obtain⟨c0,c1,c2,c3,c4⟩:=rc5 hc)
     |(
      guard_hyp jM1
      obtain⟨name,room,zone⟩:=x
      obtain⟨c0,c1,c2⟩:=rc3 hc)
    clear hc hf hX hB
    have hlb:b<wr.heap.size:=by omega
    first
     |(
      guard_hyp jM0
      have hba:Below wr.heap.size wr (wr.alloc (.cells #[.string name,.int .i64 prio,.int .i64 need,.int .i64 tries,.string tag] 59)):=(Below.refl _ _).alloc (Nat.le_refl _) _)
     |(
      guard_hyp jM1
      have hba:Below wr.heap.size wr (wr.alloc (.cells #[.string name,.int .i64 room,.string zone] 61)):=(Below.refl _ _).alloc (Nat.le_refl _) _)
    have Hba:=hid hba
    have Ha:=hid (Hok.out.below hba)
    have Hkl:=hid (Hlen.out k)
    first
     |(
      guard_hyp jM0
      have Hpa:=hid ((Hkp.out.blk Hp.out (by decide) (by intro e; subst e; exact hpg rfl)).alloc (.cells #[.string name,.int .i64 prio,.int .i64 need,.int .i64 tries,.string tag] 59))
      have Hqa:=hid ((Hkp.out.blk Hq.out (by decide) (by intro e; subst e; exact hqg rfl)).alloc (.cells #[.string name,.int .i64 prio,.int .i64 need,.int .i64 tries,.string tag] 59)))
     |(
      guard_hyp jM1
      have Hpa:=hid ((Hkp.out.blk Hp.out (by decide) (by intro e; subst e; exact hpg rfl)).alloc (.cells #[.string name,.int .i64 room,.string zone] 61))
      have Hqa:=hid ((Hkp.out.blk Hq.out (by decide) (by intro e; subst e; exact hqg rfl)).alloc (.cells #[.string name,.int .i64 room,.string zone] 61)))
    clear hba
    go_wp2_with fail
    first
     |(
      guard_hyp jM0
      refine Calls.mono (OQ base g p q v _ ⟨name,prio,need,tries,tag⟩ _ hso.out Ha.out Hkl.out Hpa.out Hqa.out) ?_)
     |(
      guard_hyp jM1
      refine Calls.mono (MZ base g p q v _ ⟨name,room,zone⟩ _ hso.out Ha.out Hkl.out Hpa.out Hqa.out) ?_)
    rintro e w1 ⟨rfl,ok1,k1⟩
    have Hk1:=hid (Hkp.out.trans ((cM.of_below Hba.out).trans k1))
    first|(guard_hyp jM0;have Ok1:=hid (show eL w1 base g (l ++ bg n ++ (xs.take (k+1)).flatMap (fun x=>eC x v)) from by rw [Hst.out,← List.append_assoc]; exact ok1))|have Ok1:=hid (show eL w1 base g (l ++ bg n ++ (xs.take (k+1)).flatMap (fun x=>cZ x v)) from by rw [Hst.out,← List.append_assoc]; exact ok1)
    clear ok1 k1
    go_wp2
    go_roundw
    case rel=>exact⟨k+1,by omega,by go_num,Ok1.out,Hk1.out⟩
    case measure=>simp [intOf]; omega
  · obtain rfl:k=n:=by omega
    go_wp2
    go_end0
    exact⟨rfl,by rw [bJ.out]; exact Hok.out,Hkp.out⟩)
end Go.Proofs.YtcpgnjmaampglaaGreatDoor
