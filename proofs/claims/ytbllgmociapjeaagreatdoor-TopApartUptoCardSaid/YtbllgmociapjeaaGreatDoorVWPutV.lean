/- Of the proof of a statement: PlBack, WPutV. -/
import Derived.Test.YtbllgmociapjeaaGreatDoorVFrmEncP
set_option linter.unusedVariables false
set_option linter.unusedSimpArgs false
set_option maxRecDepth 100000
set_option maxHeartbeats 8000000
/- What is written is read: plain. -/
namespace Go.Proofs.YtbllgmociapjeaaGreatDoor
open Go.Lib (hid)
open Go.Lib (validD)
theorem Dr {s:ByteArray} {i:Nat} {c:UInt8} {r:List UInt8} (h:s.data.toList.drop i=c :: r):∃ h:i<s.size,s[i]=c∧s.data.toList.drop (i+1)=r:=by
 have hl:i<s.data.toList.length:=by
  have:=congrArg List.length h
  rw [List.length_drop,List.length_cons] at this
  omega
 rw [List.drop_eq_getElem_cons hl] at h
 injection h with h1 h2
 rw [oJ] at hl
 exact⟨hl,by rw [← h1]; simp [ByteArray.getElem_eq_getElem_data],h2⟩
theorem Bj (s:ByteArray) (r:List UInt8):∀ (f i acc n:Nat),f+i=10→(i=0∨0<n)→n*128 ^ i<18446744073709551616→∀ g,n<128 ^ (g+1)→s.data.toList.drop i=mV g n ++ r→rdB s f i acc=(acc+n*128 ^ i,i+(mV g n).length,0)
 | 0,i,acc,n,hf,h0,hn,g,hg,hd=>by
  exfalso
  have:i=10:=by omega
  subst this
  rcases h0 with h0 | h0
  · omega
  · have:1*128 ^ 10≤n*128 ^ 10:=Nat.mul_le_mul_right _ h0
    omega
 | f+1,i,acc,n,hf,h0,hn,g,hg,hd=>by
  by_cases h1:n<128
  · rw [jM h1] at hd ⊢
    obtain⟨hi,hc,_⟩:=Dr hd
    have hcn:s[i].toNat=n:=by rw [hc,UInt8.toNat_ofNat']; omega
    have h9:i=9→n≤1:=by
     intro e
     subst e
     rcases Nat.lt_or_ge 1 n with h2 | h2
     · have:2*128 ^ 9≤n*128 ^ 9:=Nat.mul_le_mul_right _ h2
       omega
     · exact h2
    rw [rdB,dif_pos hi,hcn,if_neg (by omega),if_pos h1,Nat.mod_eq_of_lt h1]
    rfl
  · obtain⟨g',rfl⟩:∃ g',g=g'+1:=by
     cases g with
     | zero=>exact absurd (by simpa using hg) h1
     | succ g'=>exact⟨g',rfl⟩
    have e:mV (g'+1) n=UInt8.ofNat (n % 128+128) :: mV g' (n / 128):=by rw [mV,if_neg h1]
    rw [e] at hd ⊢
    obtain⟨hi,hc,hd'⟩:=Dr hd
    have hcn:s[i].toNat=n % 128+128:=by rw [hc,UInt8.toNat_ofNat']; omega
    have h9:i≠9:=by
     rintro rfl
     have:128*128 ^ 9≤n*128 ^ 9:=Nat.mul_le_mul_right _ (by omega)
     omega
    have hdiv:n / 128*128 ^ (i+1)+n % 128*128 ^ i=n*128 ^ i:=by
     have:=Nat.div_add_mod n 128
     rw [Nat.pow_succ,Nat.mul_comm (128 ^ i) 128,← Nat.mul_assoc,← Nat.add_mul,Nat.mul_comm (n / 128) 128,this]
    rw [rdB,dif_pos hi,hcn,if_neg (by omega),if_neg (by omega),Bj s r f (i+1) _ (n / 128) (by omega) (.inr (by omega)) (by omega) g' (by
     rw [Nat.pow_succ] at hg
     exact Nat.div_lt_of_lt_mul (by rw [Nat.mul_comm]; exact hg)) hd']
    have e2:(n % 128+128) % 128=n % 128:=by omega
    rw [e2,List.length_cons]
    refine Prod.ext ?_ (Prod.ext ?_ rfl)
    · show acc+n % 128*128 ^ i+n / 128*128 ^ (i+1)=acc+n*128 ^ i
      omega
    · show i+1+(mV g' (n / 128)).length=i+((mV g' (n / 128)).length+1)
      omega
theorem qz (n:Nat) (hn:n<18446744073709551616) (r:List UInt8):rdNum (BA (aO n ++ r))=(n,(aO n).length,0):=by
 have:=Bj (BA (aO n ++ r)) r 10 0 0 n rfl (.inl rfl) (by simpa using hn) 10 (by omega) rfl
 rw [show mV 10 n=aO n from rfl] at this
 simpa [rdNum] using this
theorem jP (n:Nat) (hn:n≤4611686018427387904) (r:List UInt8):eT (BA (aO n ++ r)) = .ok n (BA r):=by
 rw [ze (qz n (by omega) r) (by omega),vP,List.drop_left]
theorem J7 {s:ByteArray} (h:iy s=true):dN s=aO s.size ++ s.data.toList:=by
 unfold iy at h
 simp only [Bool.and_eq_true,decide_eq_true_eq] at h
 unfold dN rN
 rw [if_neg (by omega),if_pos h.2,qA (by omega)]
 simp [ByteArray.data_append]
theorem Cg (a b c:List UInt8):(BA (a ++ (b ++ c))).extract a.length (a.length+b.length)=BA b:=by
 rw [← zi ((BA (a ++ (b ++ c))).extract a.length (a.length+b.length))]
 congr 1
 rw [ByteArray.data_extract,Array.toList_extract,List.extract_eq_take_drop,iM,List.drop_left,Nat.add_sub_cancel_left,List.take_left]
theorem gD {s:ByteArray} (h:iy s=true) (r:List UInt8):cV (BA (dN s ++ r)) = .ok s (BA r):=by
 have h':=h
 unfold iy at h'
 simp only [Bool.and_eq_true,decide_eq_true_eq] at h'
 rw [J7 h,List.append_assoc]
 have hr:=qz s.size (by omega) (s.data.toList ++ r)
 have hm:=Cg (aO s.size) s.data.toList r
 rw [oJ] at hm
 have hx:(BA (aO s.size ++ (s.data.toList ++ r))).extract (aO s.size).length ((aO s.size).length+s.size)=s:=hm
 rw [wA (zf hr (by omega) (by rw [fY,List.length_append,List.length_append,oJ]; omega) (by rw [hx]; exact h'.2)),hx,vP]
 congr 2
 rw [← List.append_assoc,show (aO s.size).length+s.size=(aO s.size ++ s.data.toList).length by rw [List.length_append,oJ],List.drop_left]
theorem J8 (n:Int):qx (mT n)=n:=by
 unfold mT qx
 split
 · rw [if_pos (by omega)]; omega
 · rw [if_neg (by omega)]; omega
theorem lX {s:ByteArray} (h:bF s=true):iy s=true:=by
 unfold bF at h
 simp only [Bool.and_eq_true] at h
 exact h.2
theorem EI {x:aC} (h:fB x=0) (r:List UInt8):AV 3 (BA (eG x 3 ++ r)) = .ok x (BA r):=by
 obtain⟨h1,h2,h3,h4,h5⟩:=gI h
 have e:eG x 3 ++ r=dN x.name ++ (aO (mT x.prio).toNat ++ (aO x.need.toNat ++ (aO x.tries.toNat ++ (dN x.tag ++ r)))):=by simp [eG]
 have hz0:0≤mT x.prio∧mT x.prio≤2000:=by unfold mT; split <;> omega
 rw [e]
 unfold AV
 rw [gD (lX h1),RR.bind_ok,jP _ (by omega),RR.bind_ok,jP _ (by omega),RR.bind_ok,if_pos (by decide),jP _ (by omega),RR.bind_ok,if_pos (by decide),gD h2,RR.bind_ok]
 rw [Int.toNat_of_nonneg hz0.1,J8,Int.toNat_of_nonneg h4.1,Int.toNat_of_nonneg h5.1]
theorem CO {x:aA} (h:dO x=0) (r:List UInt8):tV 3 (BA (cN x 3 ++ r)) = .ok x (BA r):=by
 obtain⟨h1,h2,h3⟩:=iY h
 have e:cN x 3 ++ r=dN x.name ++ (aO x.room.toNat ++ (dN x.zone ++ r)):=by simp [cN]
 rw [e]
 unfold tV
 rw [gD (lX h1),RR.bind_ok,jP _ (by omega),RR.bind_ok,if_pos (by decide),gD h2,RR.bind_ok,Int.toNat_of_nonneg h3.1]
theorem Ba {x:ak} (h:lsE x=0) (r:List UInt8):oH (BA (dL x ++ r)) = .ok x (BA r):=by
 obtain⟨h1,h2,h3⟩:=wF h
 have e:dL x ++ r=dN x.job ++ (dN x.node ++ (aO x.till.toNat ++ r)):=by simp [dL]
 rw [e]
 unfold oH
 rw [gD (lX h1),RR.bind_ok,gD (lX h2),RR.bind_ok,jP _ (by omega),RR.bind_ok,Int.toNat_of_nonneg h3.1]
end Go.Proofs.YtbllgmociapjeaaGreatDoor
/- The walks of Put with the closures of wire.Encode: at any version. -/
namespace Go.Proofs.YtbllgmociapjeaaGreatDoor
open Go.Lib (hid)
open Go.RowKit
theorem J9 (base g p q:Nat) (v:Int) (l:List UInt8) (x:aC) (w:World) (hx:ug x) (h:dQ w base g l) (hl:l.length≤90000000) (hp:Blk w p 126 #[.pointer (some ⟨g,0,none⟩)]) (hq:Blk w q 3 #[.int .i64 v]) :
 Calls Tryz.prog 211 #[.agg (aI x).toArray,.pointer (some ⟨p,0,none⟩),.pointer (some ⟨q,0,none⟩)] w (dY base g (l ++ eG x v) w):=by
 have Hx:=hid hx
 obtain⟨name,prio,need,tries,tag⟩:=x
 generalize hK:l ++ eG _ v=K
 have HK:=hid hK
 unfold aI
 have H0:=hid (WGo.start h 32 #[.string name,.int .i64 prio,.int .i64 need,.int .i64 tries,.string tag] (by decide))
 have y0:w.cell? ⟨p,0,none⟩=some (.pointer (some ⟨g,0,none⟩)):=hp.cell 0
 have hpl:=hp.lt
 have y1:w.cell? ⟨q,0,none⟩=some (.int .i64 v):=hq.cell 0
 have hql:=hq.lt
 clear h hx hp hq hK
 go_enter Tryz.func211,Tryz.ntmps211
 go_wp2_with fail
 refine Calls.mono (IF base g _ ⟨name,prio,need,tries,tag⟩ v _ Hx.out H0.out.ok (by have:=H0.out.len; omega)) ?_
 rintro e w1 ⟨rfl,ok1,k1⟩
 rw [HK.out] at ok1
 have hkk:=H0.out.keep.trans k1
 go_wp2
 go_end0
 exact⟨rfl,ok1,hkk⟩
theorem IG (base g p q:Nat) (v:Int) (l:List UInt8) (x:aA) (w:World) (hx:oh x) (h:dQ w base g l) (hl:l.length≤90000000) (hp:Blk w p 126 #[.pointer (some ⟨g,0,none⟩)]) (hq:Blk w q 3 #[.int .i64 v]) :
 Calls Tryz.prog 212 #[.agg (aB x).toArray,.pointer (some ⟨p,0,none⟩),.pointer (some ⟨q,0,none⟩)] w (dY base g (l ++ cN x v) w):=by
 have Hx:=hid hx
 obtain⟨name,room,zone⟩:=x
 generalize hK:l ++ cN _ v=K
 have HK:=hid hK
 unfold aB
 have H0:=hid (WGo.start h 34 #[.string name,.int .i64 room,.string zone] (by decide))
 have y0:w.cell? ⟨p,0,none⟩=some (.pointer (some ⟨g,0,none⟩)):=hp.cell 0
 have hpl:=hp.lt
 have y1:w.cell? ⟨q,0,none⟩=some (.int .i64 v):=hq.cell 0
 have hql:=hq.lt
 clear h hx hp hq hK
 go_enter Tryz.func212,Tryz.ntmps212
 go_wp2_with fail
 refine Calls.mono (Ff base g _ ⟨name,room,zone⟩ v _ Hx.out H0.out.ok (by have:=H0.out.len; omega)) ?_
 rintro e w1 ⟨rfl,ok1,k1⟩
 rw [HK.out] at ok1
 have hkk:=H0.out.keep.trans k1
 go_wp2
 go_end0
 exact⟨rfl,ok1,hkk⟩
theorem Bc (base g p q:Nat) (v:Int) (l:List UInt8) (xs:List aC) (A:Option Addr) (n c:Nat) (w:World) (hx:aU w base 5 A n (au aI xs)) (hl:xs.length=n) (hn:n≤1000000) (hw:∀ x ∈ xs,ug x) (h:dQ w base g l) (hll:l.length≤1000000) (hp:Blk w p 126 #[.pointer (some ⟨g,0,none⟩)]) (hpg:p≠g) (hq:Blk w q 3 #[.int .i64 v]) (hqg:q≠g) :
 Calls Tryz.prog 174 #[.pointer (some ⟨g,0,none⟩),.slice A n c,.func (.func 211) #[] #[.pointer (some ⟨p,0,none⟩),.pointer (some ⟨q,0,none⟩)]] w (dY base g (l ++ fV (fun x=>eG x v) xs) w):=by
 have kC:∀ k,((xs.take k).flatMap (fun x=>eG x v)).length≤85*n:=fun k=>by
  have h1:=kD (enc:=fun x=>eG x v) (fun x=>lA _ v) (xs.take k)
  have h2:(xs.take k).length≤n:=by rw [List.length_take]; omega
  omega
 have hnl:=cJ n
 have Hlen:=hid (show ∀ k,(l ++ aO n ++ (xs.take k).flatMap (fun x=>eG x v)).length≤90000000 from fun k=>by have:=kC k; simp only [List.length_append]; omega)
 have bI:=hid (show l ++ fV (fun x=>eG x v) xs=l ++ aO n ++ (xs.take n).flatMap (fun x=>eG x v) from by unfold fV; rw [← hl,List.take_length,List.append_assoc])
 have HN:=hid (jq base g l (n:Int) w (by omega) h (by omega))
 have Hw:=hid hw
 have Hl:=hid hl
 have Hx:=hid hx
 have Ho:=hid h
 have Hp:=hid hp
 have Hq:=hid hq
 clear hw hl hx h kC hnl hp hq
 go_enter Tryz.func174,Tryz.ntmps174
 go_wp2_with fail
 refine Calls.mono HN.out ?_
 rintro e w0 ⟨rfl,ok0,k0⟩
 rw [show ((n:Int)).toNat=n from by omega] at ok0
 have Ok0:=hid ok0
 have K0:=hid k0
 clear ok0 k0
 go_wp2
 go_loopw [7,14] (fun _ i wr=>pH (fun x=>eG x v) xs n base g l w i wr) (fun _ i _=>n - (intOf i).toNat)
 case atStart=>exact⟨0,Nat.zero_le _,rfl,by simpa using Ok0.out,K0.out⟩
 case round=>
  obtain⟨k,hk,rfl,hok,hkp⟩:=hrel
  have Hok:=hid hok
  have Hkp:=hid hkp
  have hsz:=hok.size
  have hB:=Ho.out.keep hkp
  clear hok hkp
  by_cases hlt:k<n
  · obtain⟨x,hf⟩:∃ x,xs[k]? = some x:=⟨_,List.getElem?_eq_getElem (by rw [Hl.out]; exact hlt)⟩
    obtain⟨b,off,rfl,hbB,hc⟩:=(Hx.out.below hB).dB aV Hl.out hf
    have hso:=hid (Hw.out x (List.mem_of_getElem? hf))
    have Hst:=hid (kZ (fun x=>eG x v) hf)
    obtain⟨X,hX⟩:∃ X,X=x:=⟨_,rfl⟩
    have HX:=hid hX
    obtain⟨name,prio,need,tries,tag⟩:=x
    obtain⟨c0,c1,c2,c3,c4⟩:=rc5 hc
    clear hc hf hX hB
    have hlb:b<wr.heap.size:=by omega
    have hba:Below wr.heap.size wr (wr.alloc (.cells #[.string name,.int .i64 prio,.int .i64 need,.int .i64 tries,.string tag] 32)):=(Below.refl _ _).alloc (Nat.le_refl _) _
    have Hba:=hid hba
    have Ha:=hid (Hok.out.below hba)
    have Hkl:=hid (Hlen.out k)
    have Hpa:=hid ((Hkp.out.blk Hp.out (by decide) (by intro e; subst e; exact hpg rfl)).alloc (.cells #[.string name,.int .i64 prio,.int .i64 need,.int .i64 tries,.string tag] 32))
    have Hqa:=hid ((Hkp.out.blk Hq.out (by decide) (by intro e; subst e; exact hqg rfl)).alloc (.cells #[.string name,.int .i64 prio,.int .i64 need,.int .i64 tries,.string tag] 32))
    clear hba
    go_wp2_with fail
    refine Calls.mono (J9 base g p q v _ ⟨name,prio,need,tries,tag⟩ _ hso.out Ha.out Hkl.out Hpa.out Hqa.out) ?_
    rintro e w1 ⟨rfl,ok1,k1⟩
    have Hk1:=hid (Hkp.out.trans ((cD.of_below Hba.out).trans k1))
    have Ok1:=hid (show dQ w1 base g (l ++ aO n ++ (xs.take (k+1)).flatMap (fun x=>eG x v)) from by rw [Hst.out,← List.append_assoc]; exact ok1)
    clear ok1 k1
    go_wp2
    go_roundw
    case rel=>exact⟨k+1,by omega,by go_num,Ok1.out,Hk1.out⟩
    case measure=>simp [intOf]; omega
  · obtain rfl:k=n:=by omega
    go_wp2
    go_end0
    exact⟨rfl,by rw [bI.out]; exact Hok.out,Hkp.out⟩
theorem yB (base g p q:Nat) (v:Int) (l:List UInt8) (xs:List aA) (A:Option Addr) (n c:Nat) (w:World) (hx:aU w base 3 A n (au aB xs)) (hl:xs.length=n) (hn:n≤1000000) (hw:∀ x ∈ xs,oh x) (h:dQ w base g l) (hll:l.length≤1000000) (hp:Blk w p 126 #[.pointer (some ⟨g,0,none⟩)]) (hpg:p≠g) (hq:Blk w q 3 #[.int .i64 v]) (hqg:q≠g) :
 Calls Tryz.prog 177 #[.pointer (some ⟨g,0,none⟩),.slice A n c,.func (.func 212) #[] #[.pointer (some ⟨p,0,none⟩),.pointer (some ⟨q,0,none⟩)]] w (dY base g (l ++ fV (fun x=>cN x v) xs) w):=by
 have kC:∀ k,((xs.take k).flatMap (fun x=>cN x v)).length≤85*n:=fun k=>by
  have h1:=kD (enc:=fun x=>cN x v) (fun x=>jF _ v) (xs.take k)
  have h2:(xs.take k).length≤n:=by rw [List.length_take]; omega
  omega
 have hnl:=cJ n
 have Hlen:=hid (show ∀ k,(l ++ aO n ++ (xs.take k).flatMap (fun x=>cN x v)).length≤90000000 from fun k=>by have:=kC k; simp only [List.length_append]; omega)
 have bI:=hid (show l ++ fV (fun x=>cN x v) xs=l ++ aO n ++ (xs.take n).flatMap (fun x=>cN x v) from by unfold fV; rw [← hl,List.take_length,List.append_assoc])
 have HN:=hid (jq base g l (n:Int) w (by omega) h (by omega))
 have Hw:=hid hw
 have Hl:=hid hl
 have Hx:=hid hx
 have Ho:=hid h
 have Hp:=hid hp
 have Hq:=hid hq
 clear hw hl hx h kC hnl hp hq
 go_enter Tryz.func177,Tryz.ntmps177
 go_wp2_with fail
 refine Calls.mono HN.out ?_
 rintro e w0 ⟨rfl,ok0,k0⟩
 rw [show ((n:Int)).toNat=n from by omega] at ok0
 have Ok0:=hid ok0
 have K0:=hid k0
 clear ok0 k0
 go_wp2
 go_loopw [7,14] (fun _ i wr=>pH (fun x=>cN x v) xs n base g l w i wr) (fun _ i _=>n - (intOf i).toNat)
 case atStart=>exact⟨0,Nat.zero_le _,rfl,by simpa using Ok0.out,K0.out⟩
 case round=>
  obtain⟨k,hk,rfl,hok,hkp⟩:=hrel
  have Hok:=hid hok
  have Hkp:=hid hkp
  have hsz:=hok.size
  have hB:=Ho.out.keep hkp
  clear hok hkp
  by_cases hlt:k<n
  · obtain⟨x,hf⟩:∃ x,xs[k]? = some x:=⟨_,List.getElem?_eq_getElem (by rw [Hl.out]; exact hlt)⟩
    obtain⟨b,off,rfl,hbB,hc⟩:=(Hx.out.below hB).dB aJ Hl.out hf
    have hso:=hid (Hw.out x (List.mem_of_getElem? hf))
    have Hst:=hid (kZ (fun x=>cN x v) hf)
    obtain⟨X,hX⟩:∃ X,X=x:=⟨_,rfl⟩
    have HX:=hid hX
    obtain⟨name,room,zone⟩:=x
    obtain⟨c0,c1,c2⟩:=rc3 hc
    clear hc hf hX hB
    have hlb:b<wr.heap.size:=by omega
    have hba:Below wr.heap.size wr (wr.alloc (.cells #[.string name,.int .i64 room,.string zone] 34)):=(Below.refl _ _).alloc (Nat.le_refl _) _
    have Hba:=hid hba
    have Ha:=hid (Hok.out.below hba)
    have Hkl:=hid (Hlen.out k)
    have Hpa:=hid ((Hkp.out.blk Hp.out (by decide) (by intro e; subst e; exact hpg rfl)).alloc (.cells #[.string name,.int .i64 room,.string zone] 34))
    have Hqa:=hid ((Hkp.out.blk Hq.out (by decide) (by intro e; subst e; exact hqg rfl)).alloc (.cells #[.string name,.int .i64 room,.string zone] 34))
    clear hba
    go_wp2_with fail
    refine Calls.mono (IG base g p q v _ ⟨name,room,zone⟩ _ hso.out Ha.out Hkl.out Hpa.out Hqa.out) ?_
    rintro e w1 ⟨rfl,ok1,k1⟩
    have Hk1:=hid (Hkp.out.trans ((cD.of_below Hba.out).trans k1))
    have Ok1:=hid (show dQ w1 base g (l ++ aO n ++ (xs.take (k+1)).flatMap (fun x=>cN x v)) from by rw [Hst.out,← List.append_assoc]; exact ok1)
    clear ok1 k1
    go_wp2
    go_roundw
    case rel=>exact⟨k+1,by omega,by go_num,Ok1.out,Hk1.out⟩
    case measure=>simp [intOf]; omega
  · obtain rfl:k=n:=by omega
    go_wp2
    go_end0
    exact⟨rfl,by rw [bI.out]; exact Hok.out,Hkp.out⟩
end Go.Proofs.YtbllgmociapjeaaGreatDoor
