/- Of the proof of a statement: WPutD, RPhQ. -/
import Derived.Test.YtbllgmociapjeaaGreatDoorVGone
import Derived.Test.YtbllgmociapjeaaGreatDoorVRPh
set_option linter.unusedVariables false
set_option linter.unusedSimpArgs false
set_option maxRecDepth 100000
set_option maxHeartbeats 8000000
/- The walks of Put with the closures of delta.Encode, and of texts. -/
namespace Go.Proofs.YtbllgmociapjeaaGreatDoor
open Go.Lib (hid)
open Go.RowKit
theorem K9 (base g p:Nat) (l:List UInt8) (x:aC) (w:World) (hx:ug x) (h:dQ w base g l) (hl:l.length≤90000000) (hp:Blk w p 126 #[.pointer (some ⟨g,0,none⟩)]) :
 Calls Tryz.prog 175 #[.agg (aI x).toArray,.pointer (some ⟨p,0,none⟩)] w (dY base g (l ++ eG x 3) w):=by
 have Hx:=hid hx
 obtain⟨name,prio,need,tries,tag⟩:=x
 generalize hK:l ++ eG _ 3=K
 have HK:=hid hK
 unfold aI
 have H0:=hid (WGo.start h 32 #[.string name,.int .i64 prio,.int .i64 need,.int .i64 tries,.string tag] (by decide))
 have y0:w.cell? ⟨p,0,none⟩=some (.pointer (some ⟨g,0,none⟩)):=hp.cell 0
 have hpl:=hp.lt
 clear h hx hp hK
 go_enter Tryz.func175,Tryz.ntmps175
 go_wp2_with fail
 refine Calls.mono (Ct base g _ ⟨name,prio,need,tries,tag⟩ 3 _ (by decide) (by decide) Hx.out H0.out.ok (by have:=H0.out.len; omega)) ?_
 rintro e w1 ⟨rfl,ok1,k1⟩
 rw [HK.out] at ok1
 have hkk:=H0.out.keep.trans k1
 go_wp2
 go_end0
 exact⟨rfl,ok1,hkk⟩
theorem JD (base g p:Nat) (l:List UInt8) (x:aA) (w:World) (hx:oh x) (h:dQ w base g l) (hl:l.length≤90000000) (hp:Blk w p 126 #[.pointer (some ⟨g,0,none⟩)]) :
 Calls Tryz.prog 178 #[.agg (aB x).toArray,.pointer (some ⟨p,0,none⟩)] w (dY base g (l ++ cN x 3) w):=by
 have Hx:=hid hx
 obtain⟨name,room,zone⟩:=x
 generalize hK:l ++ cN _ 3=K
 have HK:=hid hK
 unfold aB
 have H0:=hid (WGo.start h 34 #[.string name,.int .i64 room,.string zone] (by decide))
 have y0:w.cell? ⟨p,0,none⟩=some (.pointer (some ⟨g,0,none⟩)):=hp.cell 0
 have hpl:=hp.lt
 clear h hx hp hK
 go_enter Tryz.func178,Tryz.ntmps178
 go_wp2_with fail
 refine Calls.mono (za base g _ ⟨name,room,zone⟩ 3 _ (by decide) Hx.out H0.out.ok (by have:=H0.out.len; omega)) ?_
 rintro e w1 ⟨rfl,ok1,k1⟩
 rw [HK.out] at ok1
 have hkk:=H0.out.keep.trans k1
 go_wp2
 go_end0
 exact⟨rfl,ok1,hkk⟩
theorem II (base g p:Nat) (l:List UInt8) (xs:List aC) (A:Option Addr) (n c:Nat) (w:World) (hx:aU w base 5 A n (au aI xs)) (hl:xs.length=n) (hn:n≤1000000) (hw:∀ x ∈ xs,ug x) (h:dQ w base g l) (hll:l.length≤1000000) (hp:Blk w p 126 #[.pointer (some ⟨g,0,none⟩)]) (hpg:p≠g) :
 Calls Tryz.prog 174 #[.pointer (some ⟨g,0,none⟩),.slice A n c,.func (.func 175) #[] #[.pointer (some ⟨p,0,none⟩)]] w (dY base g (l ++ fV (fun x=>eG x 3) xs) w):=by
 have kC:∀ k,((xs.take k).flatMap (fun x=>eG x 3)).length≤85*n:=fun k=>by
  have h1:=kD (enc:=fun x=>eG x 3) (fun x=>lA _ 3) (xs.take k)
  have h2:(xs.take k).length≤n:=by rw [List.length_take]; omega
  omega
 have hnl:=cJ n
 have Hlen:=hid (show ∀ k,(l ++ aO n ++ (xs.take k).flatMap (fun x=>eG x 3)).length≤90000000 from fun k=>by have:=kC k; simp only [List.length_append]; omega)
 have bI:=hid (show l ++ fV (fun x=>eG x 3) xs=l ++ aO n ++ (xs.take n).flatMap (fun x=>eG x 3) from by unfold fV; rw [← hl,List.take_length,List.append_assoc])
 have HN:=hid (jq base g l (n:Int) w (by omega) h (by omega))
 have Hw:=hid hw
 have Hl:=hid hl
 have Hx:=hid hx
 have Ho:=hid h
 have Hp:=hid hp
 clear hw hl hx h kC hnl hp
 go_enter Tryz.func174,Tryz.ntmps174
 go_wp2_with fail
 refine Calls.mono HN.out ?_
 rintro e w0 ⟨rfl,ok0,k0⟩
 rw [show ((n:Int)).toNat=n from by omega] at ok0
 have Ok0:=hid ok0
 have K0:=hid k0
 clear ok0 k0
 go_wp2
 go_loopw [7,14] (fun _ i wr=>pH (fun x=>eG x 3) xs n base g l w i wr) (fun _ i _=>n - (intOf i).toNat)
 case atStart=>exact⟨0,Nat.zero_le _,rfl,by simpa using Ok0.out,K0.out⟩
 case round=>
  obtain⟨k,hk,rfl,hok,hkp⟩:=hrel
  have Hok:=hid hok
  have Hkp:=hid hkp
  have hsz:=hok.size
  have hB:=Ho.out.keep hkp
  clear hok hkp
  by_cases hlt:k<n
  · obtain⟨x,hf⟩:∃ x,xs[k]? = some x:=⟨_,List.getElem?_eq_getElem (by rw [Hl.out]; exact hlt)⟩
    obtain⟨b,off,rfl,hbB,hc⟩:=(Hx.out.below hB).dB aV Hl.out hf
    have hso:=hid (Hw.out x (List.mem_of_getElem? hf))
    have Hst:=hid (kZ (fun x=>eG x 3) hf)
    obtain⟨X,hX⟩:∃ X,X=x:=⟨_,rfl⟩
    have HX:=hid hX
    obtain⟨name,prio,need,tries,tag⟩:=x
    obtain⟨c0,c1,c2,c3,c4⟩:=rc5 hc
    clear hc hf hX hB
    have hlb:b<wr.heap.size:=by omega
    have hba:Below wr.heap.size wr (wr.alloc (.cells #[.string name,.int .i64 prio,.int .i64 need,.int .i64 tries,.string tag] 32)):=(Below.refl _ _).alloc (Nat.le_refl _) _
    have Hba:=hid hba
    have Ha:=hid (Hok.out.below hba)
    have Hkl:=hid (Hlen.out k)
    have Hpa:=hid ((Hkp.out.blk Hp.out (by decide) (by intro e; subst e; exact hpg rfl)).alloc (.cells #[.string name,.int .i64 prio,.int .i64 need,.int .i64 tries,.string tag] 32))
    clear hba
    go_wp2_with fail
    refine Calls.mono (K9 base g p _ ⟨name,prio,need,tries,tag⟩ _ hso.out Ha.out Hkl.out Hpa.out) ?_
    rintro e w1 ⟨rfl,ok1,k1⟩
    have Hk1:=hid (Hkp.out.trans ((cD.of_below Hba.out).trans k1))
    have Ok1:=hid (show dQ w1 base g (l ++ aO n ++ (xs.take (k+1)).flatMap (fun x=>eG x 3)) from by rw [Hst.out,← List.append_assoc]; exact ok1)
    clear ok1 k1
    go_wp2
    go_roundw
    case rel=>exact⟨k+1,by omega,by go_num,Ok1.out,Hk1.out⟩
    case measure=>simp [intOf]; omega
  · obtain rfl:k=n:=by omega
    go_wp2
    go_end0
    exact⟨rfl,by rw [bI.out]; exact Hok.out,Hkp.out⟩
theorem Fh (base g p:Nat) (l:List UInt8) (xs:List aA) (A:Option Addr) (n c:Nat) (w:World) (hx:aU w base 3 A n (au aB xs)) (hl:xs.length=n) (hn:n≤1000000) (hw:∀ x ∈ xs,oh x) (h:dQ w base g l) (hll:l.length≤1000000) (hp:Blk w p 126 #[.pointer (some ⟨g,0,none⟩)]) (hpg:p≠g) :
 Calls Tryz.prog 177 #[.pointer (some ⟨g,0,none⟩),.slice A n c,.func (.func 178) #[] #[.pointer (some ⟨p,0,none⟩)]] w (dY base g (l ++ fV (fun x=>cN x 3) xs) w):=by
 have kC:∀ k,((xs.take k).flatMap (fun x=>cN x 3)).length≤85*n:=fun k=>by
  have h1:=kD (enc:=fun x=>cN x 3) (fun x=>jF _ 3) (xs.take k)
  have h2:(xs.take k).length≤n:=by rw [List.length_take]; omega
  omega
 have hnl:=cJ n
 have Hlen:=hid (show ∀ k,(l ++ aO n ++ (xs.take k).flatMap (fun x=>cN x 3)).length≤90000000 from fun k=>by have:=kC k; simp only [List.length_append]; omega)
 have bI:=hid (show l ++ fV (fun x=>cN x 3) xs=l ++ aO n ++ (xs.take n).flatMap (fun x=>cN x 3) from by unfold fV; rw [← hl,List.take_length,List.append_assoc])
 have HN:=hid (jq base g l (n:Int) w (by omega) h (by omega))
 have Hw:=hid hw
 have Hl:=hid hl
 have Hx:=hid hx
 have Ho:=hid h
 have Hp:=hid hp
 clear hw hl hx h kC hnl hp
 go_enter Tryz.func177,Tryz.ntmps177
 go_wp2_with fail
 refine Calls.mono HN.out ?_
 rintro e w0 ⟨rfl,ok0,k0⟩
 rw [show ((n:Int)).toNat=n from by omega] at ok0
 have Ok0:=hid ok0
 have K0:=hid k0
 clear ok0 k0
 go_wp2
 go_loopw [7,14] (fun _ i wr=>pH (fun x=>cN x 3) xs n base g l w i wr) (fun _ i _=>n - (intOf i).toNat)
 case atStart=>exact⟨0,Nat.zero_le _,rfl,by simpa using Ok0.out,K0.out⟩
 case round=>
  obtain⟨k,hk,rfl,hok,hkp⟩:=hrel
  have Hok:=hid hok
  have Hkp:=hid hkp
  have hsz:=hok.size
  have hB:=Ho.out.keep hkp
  clear hok hkp
  by_cases hlt:k<n
  · obtain⟨x,hf⟩:∃ x,xs[k]? = some x:=⟨_,List.getElem?_eq_getElem (by rw [Hl.out]; exact hlt)⟩
    obtain⟨b,off,rfl,hbB,hc⟩:=(Hx.out.below hB).dB aJ Hl.out hf
    have hso:=hid (Hw.out x (List.mem_of_getElem? hf))
    have Hst:=hid (kZ (fun x=>cN x 3) hf)
    obtain⟨X,hX⟩:∃ X,X=x:=⟨_,rfl⟩
    have HX:=hid hX
    obtain⟨name,room,zone⟩:=x
    obtain⟨c0,c1,c2⟩:=rc3 hc
    clear hc hf hX hB
    have hlb:b<wr.heap.size:=by omega
    have hba:Below wr.heap.size wr (wr.alloc (.cells #[.string name,.int .i64 room,.string zone] 34)):=(Below.refl _ _).alloc (Nat.le_refl _) _
    have Hba:=hid hba
    have Ha:=hid (Hok.out.below hba)
    have Hkl:=hid (Hlen.out k)
    have Hpa:=hid ((Hkp.out.blk Hp.out (by decide) (by intro e; subst e; exact hpg rfl)).alloc (.cells #[.string name,.int .i64 room,.string zone] 34))
    clear hba
    go_wp2_with fail
    refine Calls.mono (JD base g p _ ⟨name,room,zone⟩ _ hso.out Ha.out Hkl.out Hpa.out) ?_
    rintro e w1 ⟨rfl,ok1,k1⟩
    have Hk1:=hid (Hkp.out.trans ((cD.of_below Hba.out).trans k1))
    have Ok1:=hid (show dQ w1 base g (l ++ aO n ++ (xs.take (k+1)).flatMap (fun x=>cN x 3)) from by rw [Hst.out,← List.append_assoc]; exact ok1)
    clear ok1 k1
    go_wp2
    go_roundw
    case rel=>exact⟨k+1,by omega,by go_num,Ok1.out,Hk1.out⟩
    case measure=>simp [intOf]; omega
  · obtain rfl:k=n:=by omega
    go_wp2
    go_end0
    exact⟨rfl,by rw [bI.out]; exact Hok.out,Hkp.out⟩
theorem pS (base g p:Nat) (l:List UInt8) (xs:List ByteArray) (A:Option Addr) (n c:Nat) (w:World) (hx:aU w base 1 A n (au mD xs)) (hl:xs.length=n) (hn:n≤1000000) (hw:∀ x ∈ xs,x.size≤9223372036854775807) (h:dQ w base g l) (hll:l.length≤1000000) :
 Calls Tryz.prog 182 #[.pointer (some ⟨g,0,none⟩),.slice A n c,.func (.func 183) #[.pointer (some ⟨g,0,none⟩)] #[]] w (dY base g (l ++ fV dN xs) w):=by
 have kC:∀ k,((xs.take k).flatMap dN).length≤85*n:=fun k=>by
  have h1:=kD (enc:=dN) (by have:=cU; intro x; have:=this x; omega) (xs.take k)
  have h2:(xs.take k).length≤n:=by rw [List.length_take]; omega
  omega
 have hnl:=cJ n
 have Hlen:=hid (show ∀ k,(l ++ aO n ++ (xs.take k).flatMap dN).length≤90000000 from fun k=>by have:=kC k; simp only [List.length_append]; omega)
 have bI:=hid (show l ++ fV dN xs=l ++ aO n ++ (xs.take n).flatMap dN from by unfold fV; rw [← hl,List.take_length,List.append_assoc])
 have HN:=hid (jq base g l (n:Int) w (by omega) h (by omega))
 have Hw:=hid hw
 have Hl:=hid hl
 have Hx:=hid hx
 have Ho:=hid h
 clear hw hl hx h kC hnl
 go_enter Tryz.func182,Tryz.ntmps182
 go_wp2_with fail
 refine Calls.mono HN.out ?_
 rintro e w0 ⟨rfl,ok0,k0⟩
 rw [show ((n:Int)).toNat=n from by omega] at ok0
 have Ok0:=hid ok0
 have K0:=hid k0
 clear ok0 k0
 go_wp2
 go_loopw [7,14] (fun _ i wr=>pH dN xs n base g l w i wr) (fun _ i _=>n - (intOf i).toNat)
 case atStart=>exact⟨0,Nat.zero_le _,rfl,by simpa using Ok0.out,K0.out⟩
 case round=>
  obtain⟨k,hk,rfl,hok,hkp⟩:=hrel
  have Hok:=hid hok
  have Hkp:=hid hkp
  have hsz:=hok.size
  have hB:=Ho.out.keep hkp
  clear hok hkp
  by_cases hlt:k<n
  · obtain⟨x,hf⟩:∃ x,xs[k]? = some x:=⟨_,List.getElem?_eq_getElem (by rw [Hl.out]; exact hlt)⟩
    obtain⟨b,off,rfl,hbB,hc⟩:=(Hx.out.below hB).dB fQ Hl.out hf
    have hso:=hid (Hw.out x (List.mem_of_getElem? hf))
    have Hst:=hid (kZ dN hf)
    have c0:wr.cell? ⟨b,off+k*1,none⟩=some (.string x):=hc 0 _ rfl
    rw [Nat.mul_one] at c0
    clear hc hf hB
    have hlb:b<wr.heap.size:=by omega
    have Ha:=hid Hok.out
    have Hkl:=hid (Hlen.out k)
    go_wp2_with fail
    refine Calls.mono (lU base g _ x _ hso.out Ha.out (by have:=Hkl.out; omega)) ?_
    rintro e w1 ⟨rfl,ok1,k1⟩
    have Hk1:=hid (Hkp.out.trans k1)
    have Ok1:=hid (show dQ w1 base g (l ++ aO n ++ (xs.take (k+1)).flatMap dN) from by rw [Hst.out,← List.append_assoc]; exact ok1)
    clear ok1 k1
    go_wp2
    go_roundw
    case rel=>exact⟨k+1,by omega,by go_num,Ok1.out,Hk1.out⟩
    case measure=>simp [intOf]; omega
  · obtain rfl:k=n:=by omega
    go_wp2
    go_end0
    exact⟨rfl,by rw [bI.out]; exact Hok.out,Hkp.out⟩
end Go.Proofs.YtbllgmociapjeaaGreatDoor
/- The law by phases, with guarded operations. -/
namespace Go.Proofs.YtbllgmociapjeaaGreatDoor
open Go.Lib (hid)
open Go.RowKit
section
variable {Γ:Type} {P:Program} {ops:Array Oper} {V:Γ→Nat→Value→Prop} {a0:Act} {S:List Nat} {Ph:Nat→Γ→World→Prop}
def Cu (ops:Array Oper) (n:Nat):Bool:=
 (List.range ops.size).all fun i=>match ops[i]? with
  | some o=>(match o.dst with | some t=>decide (t<n) && (List.range i).all (fun j=>match ops[j]? with | some p=>p.dst != some t | none=>true) | none=>true) && o.after.all (fun e=>!Region.binds .any e || decide (e.on<i))
  | none=>true
theorem mW {n:Nat} (h:Cu ops n=true) {i:Nat} {o:Oper} (ho:ops[i]? = some o) :
 (∀ t,o.dst=some t→t<n∧∀ (j:Nat) (p:Oper),ops[j]? = some p→j<i→p.dst≠some t)∧∀ e ∈ o.after,Region.binds .any e=true→e.on<i:=by
 unfold Cu at h
 rw [List.all_eq_true] at h
 have hi:i<ops.size:=(Array.getElem?_eq_some_iff.1 ho).1
 have h1:=h i (List.mem_range.2 hi)
 rw [ho] at h1
 simp only [Bool.and_eq_true] at h1
 obtain⟨h1,h2⟩:=h1
 refine⟨fun t ht=>?_,fun e he hb=>?_⟩
 · rw [ht] at h1
   simp only [Bool.and_eq_true,decide_eq_true_eq] at h1
   refine⟨h1.1,fun j p hp hj=>?_⟩
   have h3:=List.all_eq_true.1 h1.2 j (List.mem_range.2 hj)
   rw [hp] at h3
   simpa using h3
 · have:=(Array.all_eq_true_iff_forall_mem.1 h2) e he
   rw [hb] at this
   simpa using this
theorem kE {n:Nat} (hB:Cu ops n=true) {listed:Array Bool} (hs:listed.size=ops.size) (hr:Region.ready .any ops listed=[]):∀ i,i<ops.size→listed.getD i false=true:=by
 intro i
 induction i using Nat.strongRecOn with
 | _ i ih=>
  intro hi
  have ho:ops[i]? = some ops[i]:=Array.getElem?_eq_getElem hi
  by_cases hl:listed.getD i false=true
  · exact hl
  · exfalso
    have hm:i ∈ Region.ready .any ops listed:=mem_ready.2 ⟨by
     have hx:listed[i]? = some listed[i]:=Array.getElem?_eq_getElem (by omega)
     rw [Array.getD_eq_getD_getElem?,hx] at hl ⊢
     simpa using hl,_,ho,fun e he hb=>?_⟩
    · rw [hr] at hm; cases hm
    · have hlt:=(mW hB ho).2 e he hb
      exact ih e.on hlt (by omega)
theorem rI.LQ {n:Nat} (hB:Cu ops n=true) (hn:a0.tmps.size=n) {listed:Array Bool} {a:Act} {w:World} (hs:listed.size=ops.size)
 {γ γ':Γ} (h:rI ops V S Ph a0 γ listed a w) {i:Nat} {o:Oper} (ho:ops[i]? = some o) (hw:∀ j,waitsFor o j=true→listed.getD j false=true) {u:Value} {w':World} (hgg:∀ j v,j≠i→V γ j v→V γ' j v) (hu:V γ' i u) (hp:∃ p,GS S (listed.setIfInBounds i true) p∧Ph p γ' w') :
 rI ops V S Ph a0 γ' (listed.setIfInBounds i true) (a.put o.dst u) w':=by
 have hi:i<ops.size:=(Array.getElem?_eq_some_iff.1 ho).1
 have hput:∀ t,o.dst≠some t→(a.put o.dst u).tmps[t]? = a.tmps[t]?:=by
  intro t ht
  unfold Act.put
  cases hd:o.dst with
  | none=>rfl
  | some d=>
   have hne:d≠t:=fun e=>ht (by rw [hd,e])
   simp [Array.getElem?_setIfInBounds,hne]
 refine⟨hp,?_,?_,fun t ht=>?_,fun j p t hp hl ht=>?_,fun j p m hp hl hm=>?_⟩
 · unfold Act.put; split <;> simp [h.size]
 · unfold Act.put; split <;> simp [h.defers]
 · rw [hput t (fun hd=>by
    have:=ht i o ho hd
    rw [gF (by omega),if_pos rfl] at this; cases this)]
   exact h.keep t fun j p hp hd=>by
    have:=ht j p hp hd
    rw [gF (by omega)] at this
    split at this
    · cases this
    · exact this
 · rw [gF (by omega)] at hl
   by_cases hij:i=j
   · subst hij
     rw [ho] at hp; injection hp with hp; subst hp
     have hlt:=((mW hB ho).1 t ht).1
     refine⟨u,?_,hu⟩
     unfold Act.put
     rw [ht]
     simp only [Array.getElem?_setIfInBounds]
     rw [if_pos trivial,if_pos (by rw [h.size,hn]; exact hlt)]
   · rw [if_neg hij] at hl
     obtain⟨u',h1,h2⟩:=h.done j p t hp hl ht
     refine⟨u',?_,hgg _ _ (fun e=>hij e.symm) h2⟩
     rw [hput t ?_]; exact h1
     intro e
     rcases Nat.lt_or_gt_of_ne hij with hlt | hlt
     · exact ((mW hB hp).1 t ht).2 i o ho hlt e
     · exact ((mW hB ho).1 t e).2 j p hp hlt ht
 · rw [gF (by omega)] at hl ⊢
   by_cases him:i=m
   · rw [if_pos him]
   · rw [if_neg him]
     by_cases hij:i=j
     · subst hij
       rw [ho] at hp; injection hp with hp; subst hp
       exact hw m hm
     · rw [if_neg hij] at hl
       exact h.closed j p m hp hl hm
def nF (P:Program) (ops:Array Oper) (o:Oper) (a:Act) (w:World) (K:Act→World→Prop) (Q:Exit→Act→World→Prop):Prop:=
 if Region.wanted o (yielded ops a.tmps)=true then o.wp P a w K Q else K (a.put o.dst undef) w
theorem tU {P:Program} {ops:Array Oper} {o:Oper} {a:Act} {w:World} {K K':Act→World→Prop} {Q:Exit→Act→World→Prop} (h:∀ a w,K a w→K' a w) (hh:nF P ops o a w K Q) :
 (if Region.wanted o (yielded ops a.tmps)=true then o.wp P a w K' Q∨(o.asks P a w∧LetsOut Q) else K' (a.put o.dst undef) w):=by
 unfold nF at hh
 split at hh
 · rename_i hw
   rw [if_pos hw]
   exact .inl (Oper.wp_mono h hh)
 · rename_i hw
   rw [if_neg hw]
   exact h _ _ hh
def wm {Γ:Type} (P:Program) (ops:Array Oper) (V:Γ→Nat→Value→Prop) (S:List Nat) (Ph:Nat→Γ→World→Prop) (a0:Act) (Q:Exit→Act→World→Prop) (i:Nat) (o:Oper):Prop:=
 ((∃ k,S[k]? = some i∧∀ γ a w,Ph k γ w→Knows ops (V γ) a0 i o a→nF P ops o a w (fun a' w'=>∃ u γ',a'=a.put o.dst u∧(∀ j v,j≠i→V γ j v→V γ' j v)∧V γ' i u∧Ph (k+1) γ' w') Q) ∨
  (i ∉ S∧∃ lo hi,loB S o lo=true∧hiB ops S i hi=true∧∀ p γ a w,lo≤p→p≤hi→Ph p γ w→Knows ops (V γ) a0 i o a→nF P ops o a w (fun a' w'=>∃ u γ',a'=a.put o.dst u∧(∀ j v,j≠i→V γ j v→V γ' j v)∧V γ' i u∧Ph p γ' w') Q))
theorem sW {n:Nat} {Q:Exit→Act→World→Prop} (hB:Cu ops n=true) (hC:chainB ops S=true) (hn:a0.tmps.size=n)
 (hop:∀ (i:Nat) (o:Oper),ops[i]? = some o→wm P ops V S Ph a0 Q i o)
 (hQ:∀ γ a w,(∀ listed,(∀ i,i<ops.size→listed.getD i false=true)→rI ops V S Ph a0 γ listed a w)→Q .normal a w) :
 ∀ (fuel:Nat) (γ:Γ) (listed:Array Bool) (a:Act) (w:World),listed.size=ops.size→(listed.toList.filter (! ·)).length≤fuel→rI ops V S Ph a0 γ listed a w→wpAny P .any ops Q fuel listed a w:=by
 have vY:∀ {γ:Γ} {listed:Array Bool} {a:Act} {w:World},rI ops V S Ph a0 γ listed a w→(∀ i,i<ops.size→listed.getD i false=true)→∀ l':Array Bool,(∀ i,i<ops.size→l'.getD i false=true)→rI ops V S Ph a0 γ l' a w:=by
  intro γ listed a w h hl l' hl'
  refine⟨?_,h.size,h.defers,fun t ht=>h.keep t fun i o ho hd=>absurd (ht i o ho hd) (by rw [hl' i (Array.getElem?_eq_some_iff.1 ho).1]; simp),fun i o t ho _ ht=>h.done i o t ho (hl i (Array.getElem?_eq_some_iff.1 ho).1) ht,fun i o j ho _ hj=>?_⟩
  · obtain⟨p,⟨hp1,hp2⟩,hp3⟩:=h.at_
    refine⟨p,⟨hp1,fun k i hk=>?_⟩,hp3⟩
    have hi:=(fJ hC hk).1
    rw [← hp2 k i hk,hl i hi,hl' i hi]
  · refine hl' j ?_
    have hj':=hj
    unfold waitsFor at hj
    obtain⟨e,he,h2⟩:=Array.any_eq_true'.1 hj
    simp only [Bool.and_eq_true,beq_iff_eq] at h2
    have:=(mW hB ho).2 e he h2.2
    have hi:=(Array.getElem?_eq_some_iff.1 ho).1
    omega
 intro fuel
 induction fuel with
 | zero=>
  intro γ listed a w hs hf h
  have hr:Region.ready .any ops listed=[]:=by
   cases hr:Region.ready .any ops listed with
   | nil=>rfl
   | cons i r=>
    exfalso
    have hm:i ∈ Region.ready .any ops listed:=by rw [hr]; exact List.mem_cons_self
    obtain⟨h1,o,ho,_⟩:=mem_ready.1 hm
    have hi:i<ops.size:=(Array.getElem?_eq_some_iff.1 ho).1
    have hx:listed[i]? = some listed[i]:=Array.getElem?_eq_getElem (by omega)
    rw [Array.getD_eq_getD_getElem?,hx] at h1
    have h2:false ∈ listed.toList.filter (! ·):=List.mem_filter.2 ⟨by rw [← show listed[i]=false from by simpa using h1]; exact Array.getElem_mem_toList (by omega),rfl⟩
    have:=List.length_pos_of_mem h2
    omega
  exact⟨hr,hQ γ a w (vY h (kE hB hs hr))⟩
 | succ fuel ih=>
  intro γ listed a w hs hf h
  refine⟨fun hr=>hQ γ a w (vY h (kE hB hs hr)),fun i hi=>?_⟩
  obtain⟨h1,o,ho,hall⟩:=mem_ready.1 hi
  have hil:i<ops.size:=(Array.getElem?_eq_some_iff.1 ho).1
  have yZ:i<listed.size:=by omega
  have hno:listed.getD i false=false:=by
   have hx:listed[i]? = some listed[i]:=Array.getElem?_eq_getElem yZ
   rw [Array.getD_eq_getD_getElem?,hx] at h1 ⊢
   simpa using h1
  have rK:∀ j,waitsFor o j=true→listed.getD j false=true:=by
   intro j hj
   unfold waitsFor at hj
   obtain⟨e,he,h2⟩:=Array.any_eq_true'.1 hj
   simp only [Bool.and_eq_true,beq_iff_eq] at h2
   obtain⟨h2,h3⟩:=h2
   subst h2
   exact hall e he h3
  have AS:Knows ops (V γ) a0 i o a:=⟨fun t v hv hn=>by rw [h.keep t (xZ hn hno h.closed)]; exact hv,fun j p t hp ht hj=>h.done j p t hp (rK j hj) ht,h.defers⟩
  obtain⟨p,⟨hp1,hp2⟩,hp3⟩:=h.at_
  have hk:=hop i o ho
  unfold wpOp
  rw [ho]
  dsimp only
  have next:∀ u γ' w',(∀ j v,j≠i→V γ j v→V γ' j v)→V γ' i u→(∃ p,GS S (listed.setIfInBounds i true) p∧Ph p γ' w')→wpAny P .any ops Q fuel (listed.setIfInBounds i true) (a.put o.dst u) w':=by
   intro u γ' w' hgg hu hp
   refine ih _ _ _ _ (by simpa using hs) ?_ (h.LQ hB hn hs ho rK hgg hu hp)
   have hx:listed[i]? = some listed[i]:=Array.getElem?_eq_getElem yZ
   have h2:listed.toList[i]? = some false:=by
    rw [Array.getElem?_toList,hx]
    rw [Array.getD_eq_getD_getElem?,hx] at hno
    simpa using hno
   have h3:=count_set listed.toList i h2
   simp only [Array.toList_setIfInBounds]
   omega
  rcases hk with ⟨k,hk,hw⟩ | ⟨hns,lo,hi',hlo,hhi,hw⟩
  · have hkp:p=k:=by
     have e1:=hp2 k i hk
     rw [hno] at e1
     have h1:¬ k<p:=by
      intro hlt; rw [decide_eq_true hlt] at e1; cases e1
     rcases (fJ hC hk).2.1 with h0 | ⟨o',j,ho',hj,hwj⟩
     · omega
     · rw [ho] at ho'; injection ho' with ho'; subst ho'
       have e2:=hp2 (k - 1) j hj
       rw [rK j hwj] at e2
       have h2:k - 1<p:=of_decide_eq_true e2.symm
       omega
    subst hkp
    refine tU (fun a' w' hh=>?_) (hw γ a w hp3 AS)
    obtain⟨u,γ',rfl,hgg,hu,hph⟩:=hh
    refine next u γ' w' hgg hu ⟨p+1,⟨(List.getElem?_eq_some_iff.1 hk).1,fun m j hm=>?_⟩,hph⟩
    rw [gF yZ]
    by_cases hij:i=j
    · rw [if_pos hij]
      subst hij
      have hmp:m=p:=by
       rcases Nat.lt_trichotomy m p with hlt | heq | hgt
       · exact absurd rfl ((fJ hC hk).2.2 m i hlt hm)
       · exact heq
       · exact absurd rfl ((fJ hC hm).2.2 p i hgt hk)
      rw [decide_eq_true (by omega)]
    · rw [if_neg hij,hp2 m j hm]
      have hne:m≠p:=fun e=>by subst e; rw [hk] at hm; injection hm with hm; exact hij hm
      by_cases hlt:m<p
      · rw [decide_eq_true hlt,decide_eq_true (by omega)]
      · rw [decide_eq_false hlt,decide_eq_false (by omega)]
  · have hl:lo≤p:=by
     unfold loB at hlo
     simp only [Bool.or_eq_true,Bool.and_eq_true,beq_iff_eq,decide_eq_true_eq] at hlo
     rcases hlo with h0 | ⟨h0,h2⟩
     · omega
     · rcases Nat.eq_zero_or_pos lo with h3 | h3
       · omega
       · have hj:S[lo - 1]? = some S[lo - 1]:=List.getElem?_eq_getElem (by omega)
         rw [show S.getD (lo - 1) 0=S[lo - 1] by rw [List.getD_eq_getElem?_getD,hj]; rfl] at h2
         have e:=hp2 _ _ hj
         rw [rK _ h2] at e
         have:=of_decide_eq_true e.symm
         omega
    have hh':p≤hi':=by
     unfold hiB at hhi
     simp only [Bool.or_eq_true,Bool.and_eq_true,beq_iff_eq,decide_eq_true_eq] at hhi
     rcases hhi with h0 | ⟨h0,h2⟩
     · omega
     · have hj:S[hi']? = some S[hi']:=List.getElem?_eq_getElem h0
       rw [show S.getD hi' 0=S[hi'] by rw [List.getD_eq_getElem?_getD,hj]; rfl] at h2
       cases hoj:ops[S[hi']]? with
       | none=>rw [hoj] at h2; cases h2
       | some o'=>
        rw [hoj] at h2
        have e:=hp2 _ _ hj
        by_cases hlt:hi'<p
        · rw [decide_eq_true hlt] at e
          have:=h.closed _ o' i hoj e h2
          rw [hno] at this; cases this
        · omega
    refine tU (fun a' w' hh=>?_) (hw p γ a w hl hh' hp3 AS)
    obtain⟨u,γ',rfl,hgg,hu,hph⟩:=hh
    refine next u γ' w' hgg hu ⟨p,⟨hp1,fun m j hm=>?_⟩,hph⟩
    rw [gF yZ,if_neg (fun e=>hns (by subst e; exact List.mem_of_getElem? hm))]
    exact hp2 m j hm
theorem okQ {Q:Exit→Act→World→Prop} {i:Nat} {o:Oper} (lo hi:Nat) (h:∀ p γ a w,lo≤p→p≤hi→Ph p γ w→Knows ops (V γ) a0 i o a→o.wp P a w (fun a' w'=>∃ u γ',a'=a.put o.dst u∧(∀ j v,j≠i→V γ j v→V γ' j v)∧V γ' i u∧Ph p γ' w') Q)
 (h0:i ∉ S:=by decide) (h1:loB S o lo=true:=by decide +kernel) (h2:hiB ops S i hi=true:=by decide +kernel) (hg:o.guard=none:=by rfl):wm P ops V S Ph a0 Q i o:=
 .inr ⟨h0,lo,hi,h1,h2,fun p γ a w hl hh hp hk=>by
  unfold nF Region.wanted
  rw [hg,if_pos rfl]
  exact h p γ a w hl hh hp hk⟩
theorem ok1 {Q:Exit→Act→World→Prop} {i:Nat} {o:Oper} (lo hi j t:Nat) {p:Oper} {v u:Value} (h1:ops[j]? = some p) (h2:p.dst=some t) (hv:∀ γ x,V γ j x→x=v) (hu:∀ γ,V γ i u)
 (he:∀ (a:Act) (w:World) (K:Act→World→Prop),a.tmps[t]? = some v→K (a.put o.dst u) w→o.wp P a w K Q:=by intro a w K h hk; simp [go_sem,Oper.wp,execOp,Act.eval,h]; exact hk)
 (h0:i ∉ S:=by decide) (hl:loB S o lo=true:=by decide +kernel) (hh:hiB ops S i hi=true:=by decide +kernel) (h3:waitsFor o j=true:=by decide +kernel) (hg:o.guard=none:=by rfl):wm P ops V S Ph a0 Q i o:=
 okQ lo hi (fun p γ a w _ _ hp hk=>he a w _ (by obtain⟨x,hx,hV⟩:=hk.g j t h1 h2 h3; rw [hx,hv γ x hV]) ⟨u,γ,rfl,fun _ _ _ h=>h,hu γ,hp⟩) h0 hl hh hg
theorem ok0 {Q:Exit→Act→World→Prop} {i:Nat} {o:Oper} (lo hi t:Nat) {v u:Value} (h1:a0.tmps[t]? = some v) (hu:∀ γ,V γ i u)
 (he:∀ (a:Act) (w:World) (K:Act→World→Prop),a.tmps[t]? = some v→K (a.put o.dst u) w→o.wp P a w K Q:=by intro a w K h hk; simp [go_sem,Oper.wp,execOp,Act.eval,h]; exact hk)
 (h0:i ∉ S:=by decide) (hl:loB S o lo=true:=by decide +kernel) (hh:hiB ops S i hi=true:=by decide +kernel) (h3:rJ ops i t=true:=by decide +kernel) (hg:o.guard=none:=by rfl):wm P ops V S Ph a0 Q i o:=
 okQ lo hi (fun p γ a w _ _ hp hk=>he a w _ (hk.k t h1 h3) ⟨u,γ,rfl,fun _ _ _ h=>h,hu γ,hp⟩) h0 hl hh hg
def wo {Γ:Type} (P:Program) (ops:Array Oper) (V:Γ→Nat→Value→Prop) (S:List Nat) (Ph:Nat→Γ→World→Prop) (a0:Act) (Q:Exit→Act→World→Prop):Nat→List Oper→Prop
 | _,[]=>True
 | i,o :: l=>wm P ops V S Ph a0 Q i o∧wo P ops V S Ph a0 Q (i+1) l
theorem wo.all {Q:Exit→Act→World→Prop}:∀ {l:List Oper} {k:Nat},wo P ops V S Ph a0 Q k l→∀ (i:Nat) (o:Oper),l[i]? = some o→wm P ops V S Ph a0 Q (k+i) o
 | [],_,_,i,o,h=>by simp at h
 | x :: l,k,hh,0,o,h=>by
  have e:x=o:=by simpa using h
  subst e; exact hh.1
 | x :: l,k,hh,i+1,o,h=>by
  have:=hh.2.all i o (by simpa using h)
  rwa [show k+(i+1)=k+1+i from by omega]
theorem rL {id:Nat} {n:Nat} {l:List Oper} {w0:World} {Q:Exit→Act→World→Prop} (hm:P.follows .mixedOrders=true) (V:Γ→Nat→Value→Prop) (S:List Nat) (Ph:Nat→Γ→World→Prop) (γ0:Γ) (hB:Cu l.toArray n=true) (hC:chainB l.toArray S=true) (hn:a0.tmps.size=n)
 (h0:Ph 0 γ0 w0.drew) (hop:wo P l.toArray V S Ph a0 Q 0 l) (hQ:∀ γ a w,vZ l.toArray V S Ph a0 γ a w→Q .normal a w):(Code.region id l.toArray true).wp P Q a0 w0:=by
 refine wp_region_any hm (sW hB hC hn (fun i o ho=>by
  have:=hop.all i o (by simpa using ho)
  rwa [Nat.zero_add] at this) (fun γ a w h=>hQ γ a w ?_) l.toArray.size γ0 (Array.replicate l.toArray.size false) a0 _ (by simp) ?_ ?_)
 · have hh:=h (Array.replicate l.toArray.size true) (fun i hi=>by rw [Array.getD_eq_getD_getElem?,Array.getElem?_replicate,if_pos hi]; rfl)
   obtain⟨p,⟨hp1,hp2⟩,hp3⟩:=hh.at_
   have hpl:p=S.length:=by
    rcases Nat.eq_zero_or_pos S.length with h0 | h0
    · omega
    · have hk:S[S.length - 1]? = some S[S.length - 1]:=List.getElem?_eq_getElem (by omega)
      have e:=hp2 _ _ hk
      rw [Array.getD_eq_getD_getElem?,Array.getElem?_replicate,if_pos (fJ hC hk).1] at e
      have:=of_decide_eq_true e.symm
      omega
   subst hpl
   exact⟨hp3,hh.size,hh.defers,fun t ht=>hh.keep t fun i o ho hd=>absurd hd (ht i o ho),fun i o t ho ht=>hh.done i o t ho (by rw [Array.getD_eq_getD_getElem?,Array.getElem?_replicate,if_pos (Array.getElem?_eq_some_iff.1 ho).1]; rfl) ht⟩
 · exact Nat.le_trans (List.length_filter_le _ _) (by simp)
 · have hf:∀ i,(Array.replicate l.toArray.size false).getD i false=false:=by
    intro i
    rw [Array.getD_eq_getD_getElem?,Array.getElem?_replicate]
    split <;> rfl
   exact⟨⟨0,⟨Nat.zero_le _,fun k i _=>by rw [hf]; rfl⟩,h0⟩,rfl,rfl,fun _ _=>rfl,fun i o t ho hl _=>(by rw [hf] at hl; cases hl),fun i o j ho hl _=>(by rw [hf] at hl; cases hl)⟩
theorem rq {id:Nat} {l:List Oper} {w0:World} {Q:Exit→Act→World→Prop} (n:Nat) (V:Γ→Nat→Value→Prop) (S:List Nat) (Ph:Nat→Γ→World→Prop) (γ0:Γ)
 (h0:Ph 0 γ0 w0.drew) (hop:wo P l.toArray V S Ph a0 Q 0 l) (hQ:∀ γ a w,vZ l.toArray V S Ph a0 γ a w→Q .normal a w) (hm:P.follows .mixedOrders=true:=by kernel_rfl) (hB:Cu l.toArray n=true:=by decide +kernel) (hC:chainB l.toArray S=true:=by decide +kernel) (hn:a0.tmps.size=n:=by rfl):(Code.region id l.toArray true).wp P Q a0 w0:=
 rL hm V S Ph γ0 hB hC hn h0 hop hQ
end
theorem bA {P:Program} {ops:Array Oper} {o:Oper} {a:Act} {w:World} {K:Act→World→Prop} {Q:Exit→Act→World→Prop} (h:o.guard=none) (ht:o.wp P a w K Q):nF P ops o a w K Q:=by
 unfold nF Region.wanted
 rw [h,if_pos rfl]
 exact ht
end Go.Proofs.YtbllgmociapjeaaGreatDoor
