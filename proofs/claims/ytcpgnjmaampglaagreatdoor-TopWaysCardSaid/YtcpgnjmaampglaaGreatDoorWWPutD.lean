/- Of the proof of a statement: WPutD, Fits. -/
import Derived.Test.YtcpgnjmaampglaaGreatDoorWGone
import Derived.Test.YtcpgnjmaampglaaGreatDoorWInsert
set_option linter.unusedVariables false
set_option linter.unusedSimpArgs false
set_option maxRecDepth 100000
set_option maxHeartbeats 8000000
/- The walks of Put with the closures of delta.Encode, and of texts. -/
namespace Go.Proofs.YtcpgnjmaampglaaGreatDoor
open Go.Lib (hid)
open Go.RowKit
theorem Qu (base g p:Nat) (l:List UInt8) (x:aB) (w:World) (hx:xQ x) (h:eL w base g l) (hl:l.length≤90000000) (hp:Blk w p 132 #[.pointer (some ⟨g,0,none⟩)]) :
 Calls Tryz.prog 208 #[.agg (aH x).toArray,.pointer (some ⟨p,0,none⟩)] w (fH base g (l ++ eC x 3) w):=by
 have Hx:=hid hx
 obtain⟨name,prio,need,tries,tag⟩:=x
 generalize hK:l ++ eC _ 3=K
 have HK:=hid hK
 unfold aH
 have H0:=hid (WGo.start h 59 #[.string name,.int .i64 prio,.int .i64 need,.int .i64 tries,.string tag] (by decide))
 have y0:w.cell? ⟨p,0,none⟩=some (.pointer (some ⟨g,0,none⟩)):=hp.cell 0
 have hpl:=hp.lt
 clear h hx hp hK
 go_enter Tryz.func208,Tryz.ntmps208
 go_wp2_with fail
 refine Calls.mono (FI base g _ ⟨name,prio,need,tries,tag⟩ 3 _ (by decide) (by decide) Hx.out H0.out.ok (by have:=H0.out.len; omega)) ?_
 rintro e w1 ⟨rfl,ok1,k1⟩
 rw [HK.out] at ok1
 have hkk:=H0.out.keep.trans k1
 go_wp2
 go_end0
 exact⟨rfl,ok1,hkk⟩
theorem OL (base g p:Nat) (l:List UInt8) (x:av) (w:World) (hx:sB x) (h:eL w base g l) (hl:l.length≤90000000) (hp:Blk w p 132 #[.pointer (some ⟨g,0,none⟩)]) :
 Calls Tryz.prog 209 #[.agg (aI x).toArray,.pointer (some ⟨p,0,none⟩)] w (fH base g (l ++ cZ x 3) w):=by
 have Hx:=hid hx
 obtain⟨name,room,zone⟩:=x
 generalize hK:l ++ cZ _ 3=K
 have HK:=hid hK
 unfold aI
 have H0:=hid (WGo.start h 61 #[.string name,.int .i64 room,.string zone] (by decide))
 have y0:w.cell? ⟨p,0,none⟩=some (.pointer (some ⟨g,0,none⟩)):=hp.cell 0
 have hpl:=hp.lt
 clear h hx hp hK
 go_enter Tryz.func209,Tryz.ntmps209
 go_wp2_with fail
 refine Calls.mono (IA base g _ ⟨name,room,zone⟩ 3 _ (by decide) Hx.out H0.out.ok (by have:=H0.out.len; omega)) ?_
 rintro e w1 ⟨rfl,ok1,k1⟩
 rw [HK.out] at ok1
 have hkk:=H0.out.keep.trans k1
 go_wp2
 go_end0
 exact⟨rfl,ok1,hkk⟩
theorem oH :
 (∀ (base g p:Nat) (l:List UInt8) (xs:List aB) (A:Option Addr) (n c:Nat) (w:World) (hx:aQ w base 5 A n (au aH xs)) (hl:xs.length=n) (hn:n≤1000000) (hw:∀ x ∈ xs,xQ x) (h:eL w base g l) (hll:l.length≤1000000) (hp:Blk w p 132 #[.pointer (some ⟨g,0,none⟩)]) (hpg:p≠g),Calls Tryz.prog 63 #[.pointer (some ⟨g,0,none⟩),.slice A n c,.func (.func 208) #[] #[.pointer (some ⟨p,0,none⟩)]] w (fH base g (l ++ fM (fun x=>eC x 3) xs) w)) ∧
 (∀ (base g p:Nat) (l:List UInt8) (xs:List av) (A:Option Addr) (n c:Nat) (w:World) (hx:aQ w base 3 A n (au aI xs)) (hl:xs.length=n) (hn:n≤1000000) (hw:∀ x ∈ xs,sB x) (h:eL w base g l) (hll:l.length≤1000000) (hp:Blk w p 132 #[.pointer (some ⟨g,0,none⟩)]) (hpg:p≠g),Calls Tryz.prog 66 #[.pointer (some ⟨g,0,none⟩),.slice A n c,.func (.func 209) #[] #[.pointer (some ⟨p,0,none⟩)]] w (fH base g (l ++ fM (fun x=>cZ x 3) xs) w)) ∧
 (∀ (base g p:Nat) (l:List UInt8) (xs:List ByteArray) (A:Option Addr) (n c:Nat) (w:World) (hx:aQ w base 1 A n (au mN xs)) (hl:xs.length=n) (hn:n≤1000000) (hw:∀ x ∈ xs,x.size≤9223372036854775807) (h:eL w base g l) (hll:l.length≤1000000),Calls Tryz.prog 210 #[.pointer (some ⟨g,0,none⟩),.slice A n c,.func (.func 123) #[.pointer (some ⟨g,0,none⟩)] #[]] w (fH base g (l ++ fM gA xs) w)):=by
 refine⟨@fun base g p l xs A n c w hx hl hn hw h hll hp hpg=>(fun(jM0 jM3:Unit)=>?_) () (),@fun base g p l xs A n c w hx hl hn hw h hll hp hpg=>(fun(jM1 jM3:Unit)=>?_) () (),@fun base g p l xs A n c w hx hl hn hw h hll=>(fun(jM2:Unit)=>?_) ()⟩<;>(
 first
  |(
   guard_hyp jM0
   have nA:∀ k,((xs.take k).flatMap (fun x=>eC x 3)).length≤85*n:=fun k=>by
    have h1:=lS (enc:=fun x=>eC x 3) (fun x=>oI _ 3) (xs.take k)
    have h2:(xs.take k).length≤n:=by rw [List.length_take]; omega
    omega)
  |(
   guard_hyp jM1
   have nA:∀ k,((xs.take k).flatMap (fun x=>cZ x 3)).length≤85*n:=fun k=>by
    have h1:=lS (enc:=fun x=>cZ x 3) (fun x=>oJ _ 3) (xs.take k)
    have h2:(xs.take k).length≤n:=by rw [List.length_take]; omega
    omega)
  |(
   guard_hyp jM2
   have nA:∀ k,((xs.take k).flatMap gA).length≤85*n:=fun k=>by
    have h1:=lS (enc:=gA) (by have:=eJ; intro x; have:=this x; omega) (xs.take k)
    have h2:(xs.take k).length≤n:=by rw [List.length_take]; omega
    omega)
 have hnl:=dD n
 first
  |(
   guard_hyp jM0
   have Hlen:=hid (show ∀ k,(l ++ bg n ++ (xs.take k).flatMap (fun x=>eC x 3)).length≤90000000 from fun k=>by have:=nA k; simp only [List.length_append]; omega)
   have bJ:=hid (show l ++ fM (fun x=>eC x 3) xs=l ++ bg n ++ (xs.take n).flatMap (fun x=>eC x 3) from by unfold fM; rw [← hl,List.take_length,List.append_assoc]))
  |(
   guard_hyp jM1
   have Hlen:=hid (show ∀ k,(l ++ bg n ++ (xs.take k).flatMap (fun x=>cZ x 3)).length≤90000000 from fun k=>by have:=nA k; simp only [List.length_append]; omega)
   have bJ:=hid (show l ++ fM (fun x=>cZ x 3) xs=l ++ bg n ++ (xs.take n).flatMap (fun x=>cZ x 3) from by unfold fM; rw [← hl,List.take_length,List.append_assoc]))
  |(
   guard_hyp jM2
   have Hlen:=hid (show ∀ k,(l ++ bg n ++ (xs.take k).flatMap gA).length≤90000000 from fun k=>by have:=nA k; simp only [List.length_append]; omega)
   have bJ:=hid (show l ++ fM gA xs=l ++ bg n ++ (xs.take n).flatMap gA from by unfold fM; rw [← hl,List.take_length,List.append_assoc]))
 have HN:=hid (mT base g l (n:Int) w (by omega) h (by omega))
 have Hw:=hid hw
 have Hl:=hid hl
 have Hx:=hid hx
 have Ho:=hid h
 first
  |(
   guard_hyp jM3
   have Hp:=hid hp
   clear hw hl hx h nA hnl hp)
  |(
   guard_hyp jM2
   clear hw hl hx h nA hnl)
 first|(guard_hyp jM0;go_enter Tryz.func63,Tryz.ntmps63)|(guard_hyp jM1;go_enter Tryz.func66,Tryz.ntmps66)|go_enter Tryz.func210,Tryz.ntmps210
 go_wp2_with fail
 refine Calls.mono HN.out ?_
 rintro e w0 ⟨rfl,ok0,k0⟩
 rw [show ((n:Int)).toNat=n from by omega] at ok0
 have Ok0:=hid ok0
 have K0:=hid k0
 clear ok0 k0
 go_wp2
 first
  |(
   guard_hyp jM0
   go_loopw [7,14] (fun _ i wr=>rO (fun x=>eC x 3) xs n base g l w i wr) (fun _ i _=>n - (intOf i).toNat))
  |(
   guard_hyp jM1
   go_loopw [7,14] (fun _ i wr=>rO (fun x=>cZ x 3) xs n base g l w i wr) (fun _ i _=>n - (intOf i).toNat))
  |(
   guard_hyp jM2
   go_loopw [7,14] (fun _ i wr=>rO gA xs n base g l w i wr) (fun _ i _=>n - (intOf i).toNat))
 case atStart=>exact⟨0,Nat.zero_le _,rfl,by simpa using Ok0.out,K0.out⟩
 case round=>
  obtain⟨k,hk,rfl,hok,hkp⟩:=hrel
  have Hok:=hid hok
  have Hkp:=hid hkp
  have hsz:=hok.size
  have hB:=Ho.out.keep hkp
  clear hok hkp
  by_cases hlt:k<n
  · obtain⟨x,hf⟩:∃ x,xs[k]? = some x:=⟨_,List.getElem?_eq_getElem (by rw [Hl.out]; exact hlt)⟩
    first|(guard_hyp jM0;obtain⟨b,off,rfl,hbB,hc⟩:=(Hx.out.below hB).dF aN Hl.out hf)|(guard_hyp jM1;obtain⟨b,off,rfl,hbB,hc⟩:=(Hx.out.below hB).dF bF Hl.out hf)|obtain⟨b,off,rfl,hbB,hc⟩:=(Hx.out.below hB).dF jQ Hl.out hf
    have hso:=hid (Hw.out x (List.mem_of_getElem? hf))
    first
     |(
      guard_hyp jM0
      have Hst:=hid (mL (fun x=>eC x 3) hf)
      obtain⟨X,hX⟩:∃ X,X=x:=⟨_,rfl⟩
      have HX:=hid hX
      obtain⟨name,prio,need,tries,tag⟩:=x
      obtain⟨c0,c1,c2,c3,c4⟩:=rc5 hc
      clear hc hf hX hB)
     |(
      guard_hyp jM1
      have Hst:=hid (mL (fun x=>cZ x 3) hf)
      obtain⟨X,hX⟩:∃ X,X=x:=⟨_,rfl⟩
      have HX:=hid hX
      obtain⟨name,room,zone⟩:=x
      obtain⟨c0,c1,c2⟩:=rc3 hc
      clear hc hf hX hB)
     |(
      guard_hyp jM2
      have Hst:=hid (mL gA hf)
      have c0:wr.cell? ⟨b,off+k*1,none⟩=some (.string x):=hc 0 _ rfl
      rw [Nat.mul_one] at c0
      clear hc hf hB)
    have hlb:b<wr.heap.size:=by omega
    first
     |(
      guard_hyp jM0
      have hba:Below wr.heap.size wr (wr.alloc (.cells #[.string name,.int .i64 prio,.int .i64 need,.int .i64 tries,.string tag] 59)):=(Below.refl _ _).alloc (Nat.le_refl _) _)
     |(
      guard_hyp jM1
      have hba:Below wr.heap.size wr (wr.alloc (.cells #[.string name,.int .i64 room,.string zone] 61)):=(Below.refl _ _).alloc (Nat.le_refl _) _)
     |skip
    first|(guard_hyp jM2;have Ha:=hid Hok.out)|have Hba:=hid hba
    first|(guard_hyp jM2;have Hkl:=hid (Hlen.out k))|have Ha:=hid (Hok.out.below hba)
    first
     |(
      guard_hyp jM2
      go_wp2_with fail
      refine Calls.mono (oh base g _ x _ hso.out Ha.out (by have:=Hkl.out; omega)) ?_
      rintro e w1 ⟨rfl,ok1,k1⟩)
     |skip
    first|(guard_hyp jM2;have Hk1:=hid (Hkp.out.trans k1))|have Hkl:=hid (Hlen.out k)
    first
     |(
      guard_hyp jM0
      have Hpa:=hid ((Hkp.out.blk Hp.out (by decide) (by intro e; subst e; exact hpg rfl)).alloc (.cells #[.string name,.int .i64 prio,.int .i64 need,.int .i64 tries,.string tag] 59))
      clear hba
      go_wp2_with fail
      refine Calls.mono (Qu base g p _ ⟨name,prio,need,tries,tag⟩ _ hso.out Ha.out Hkl.out Hpa.out) ?_
      rintro e w1 ⟨rfl,ok1,k1⟩
      have Hk1:=hid (Hkp.out.trans ((cM.of_below Hba.out).trans k1))
      have Ok1:=hid (show eL w1 base g (l ++ bg n ++ (xs.take (k+1)).flatMap (fun x=>eC x 3)) from by rw [Hst.out,← List.append_assoc]; exact ok1))
     |(
      guard_hyp jM1
      have Hpa:=hid ((Hkp.out.blk Hp.out (by decide) (by intro e; subst e; exact hpg rfl)).alloc (.cells #[.string name,.int .i64 room,.string zone] 61))
      clear hba
      go_wp2_with fail
      refine Calls.mono (OL base g p _ ⟨name,room,zone⟩ _ hso.out Ha.out Hkl.out Hpa.out) ?_
      rintro e w1 ⟨rfl,ok1,k1⟩
      have Hk1:=hid (Hkp.out.trans ((cM.of_below Hba.out).trans k1))
      have Ok1:=hid (show eL w1 base g (l ++ bg n ++ (xs.take (k+1)).flatMap (fun x=>cZ x 3)) from by rw [Hst.out,← List.append_assoc]; exact ok1))
     |(
      guard_hyp jM2
      have Ok1:=hid (show eL w1 base g (l ++ bg n ++ (xs.take (k+1)).flatMap gA) from by rw [Hst.out,← List.append_assoc]; exact ok1))
    clear ok1 k1
    go_wp2
    go_roundw
    case rel=>exact⟨k+1,by omega,by go_num,Ok1.out,Hk1.out⟩
    case measure=>simp [intOf]; omega
  · obtain rfl:k=n:=by omega
    go_wp2
    go_end0
    exact⟨rfl,by rw [bJ.out]; exact Hok.out,Hkp.out⟩)
def okJ (v:Int) (j:aB):Bool:=(decide (2<v) || decide (j.tag.size=0)) && (decide (1<v) || decide (j.tries=0))
def okN (v:Int) (n:av):Bool:=decide (1<v) || decide (n.zone.size=0)
def o7 (st:ah) (v:Int):Bool:=(decide (v=3) || decide (st.rev=0)) && st.jobs.all (okJ v) && st.nodes.all (okN v)
def AL (st:ah) (v:Int):Bool × Int:=if ay st≠0 then (false,ay st) else if ranged v 1 3=false then (false,1) else (o7 st v,0)
def Dk (st:ah) (v:Int) (w:World) (e:Ending) (w':World):Prop:=e = .returned (.tuple #[.bool (AL st v).1,.int .i64 (AL st v).2])∧Below w.heap.size w w'
theorem Dk.mk' {st:ah} {v:Int} {w w':World} {a:Bool} {b:Int} (h:AL st v=(a,b)) (hb:Below w.heap.size w w'):Dk st v w (.returned (.tuple #[.bool a,.int .i64 b])) w':=⟨by rw [h],hb⟩
theorem Fj {α:Type} {p:α→Bool} {l:List α} {k:Nat} {x:α} (h:l[k]? = some x):(l.take (k+1)).all p=((l.take k).all p && p x):=by
 rw [BU h,List.all_append]; simp
def Rj (st:ah) (x:StA) (v:Int) (b0:Bool) (w:World) (n:Nat) (f i:Value) (wr:World):Prop:=
 ∃ k:Nat,k≤n∧i = .int .i64 k∧f = .bool (b0 && (st.jobs.take k).all (okJ v))∧Below w.heap.size w wr∧Blk wr w.heap.size 26 (stC st x)
def Rk (st:ah) (x:StA) (v:Int) (b0:Bool) (w:World) (n:Nat) (f i:Value) (wr:World):Prop:=
 ∃ k:Nat,k≤n∧i = .int .i64 k∧f = .bool (b0 && (st.nodes.take k).all (okN v))∧Below w.heap.size w wr∧Blk wr w.heap.size 26 (stC st x)
theorem MR {v:Int} {j:aB} {a b p q:Bool} (ht:decide (j.tag.size=0)=a) (hr:decide (j.tries=0)=b) (h1:decide (1<v)=p) (h2:decide (2<v)=q):okJ v j=((q || a) && (p || b)):=by unfold okJ; rw [ht,hr,h1,h2]
theorem MS {v:Int} {n:av} {a p:Bool} (ht:decide (n.zone.size=0)=a) (h1:decide (1<v)=p):okN v n=(p || a):=by unfold okN; rw [ht,h1]
theorem MT {v:Int} (h:ranged v 1 3=true):v=1∨v=2∨v=3:=by have:=aZ.1 h; omega
theorem MP (st:ah) (x:StA) (v:Int) (w:World) (hS:StAt w w.heap.size st x) (hT:Tabs w) :
 Calls Tryz.prog 61 #[.agg (stC st x),.int .i64 v] w (Dk st v w):=by
 have HS:=hid hS
 have hb1:Below w.heap.size w (w.alloc (.cells (stC st x) 26)):=(Below.refl _ _).alloc (Nat.le_refl _) _
 have hB1:Blk (w.alloc (.cells (stC st x) 26)) w.heap.size 26 (stC st x):=heap_alloc_new w _
 have hC:=hid (fq st x _ ((hS.below hb1).more hb1.size) (hT.below hb1))
 have Hb1:=hid hb1
 have HB1:=hid hB1
 have hfin:=hid (fun a b (h:AL st v=(a,b)) w'=>Dk.mk' (w:=w) (w':=w') h)
 have hval:AL st v=if ay st≠0 then (false,ay st) else if ranged v 1 3=false then (false,1) else (o7 st v,0):=rfl
 have MU:=hid hval
 clear hb1 hB1 hS hT hval
 obtain⟨rev,jobs,nodes,leases⟩:=st
 obtain⟨aj,nj,cj,an,nn,cn,al,nl,cl⟩:=x
 simp only [stC] at *
 go_enter Tryz.func61,Tryz.ntmps61
 go_wp2_with fail
 refine Calls.mono hC.out ?_
 rintro e w1 ⟨rfl,hb⟩
 have Hb:=hid (Hb1.out.trans (hb.mono Hb1.out.size))
 have HB:=hid (HB1.out.below hb HB1.out.lt)
 clear hb hC HB1
 obtain⟨E,hE⟩:∃ E,ay ⟨rev,jobs,nodes,leases⟩=E:=⟨_,rfl⟩
 rw [hE] at MU ⊢
 by_cases he:E=0
 rotate_left
 · have hend:=hid (hfin.out false E (by rw [MU.out,if_pos he]) _ Hb.out)
   have e1:(E == 0)=false:=beq_eq_false_iff_ne.2 he
   have e2:(E != 0)=true:=bne_iff_ne.2 he
   go_wp2
   go_ret2
   exact hend.out
 subst he
 go_wp2_with fail
 refine Calls.mono (iP _ _ _ _) ?_
 rintro e w2 ⟨rfl,rfl⟩
 cases hr:ranged v 1 3
 · have hend:=hid (hfin.out false 1 (by rw [MU.out,if_neg (by simp),if_pos hr]) _ Hb.out)
   go_wp2
   go_ret2
   exact hend.out
 have MQ:=hid (show AL ⟨rev,jobs,nodes,leases⟩ v=(o7 ⟨rev,jobs,nodes,leases⟩ v,0) by rw [MU.out,if_neg (by simp),if_neg (by rw [hr]; simp)])
 have hlj:=HS.out.lj
 have hln:=HS.out.ln
 have hbj:=HS.out.bj
 have hbn:=HS.out.bn
 simp only at hlj hln hbj hbn
 obtain⟨y0,y1⟩:=Blk.c2 (HB.out)
 obtain⟨b0,hb0⟩:∃ b0,(decide (v=3) || decide (rev=0))=b0:=⟨_,rfl⟩
 have HFE:=hid (show o7 ⟨rev,jobs,nodes,leases⟩ v=(b0 && jobs.all (okJ v) && nodes.all (okN v)) by unfold o7; rw [← hb0])
 have hv3:=MT hr
 clear hr MU hE
 have Rl:=hid (fun f w' (h:f=o7 ⟨rev,jobs,nodes,leases⟩ v)=>hfin.out f 0 (by rw [MQ.out,h]) w')
 clear hfin MQ
 have hd:(decide (1<v)=false∧decide (2<v)=false∧(v == 3)=false)∨(decide (1<v)=true∧decide (2<v)=false∧(v == 3)=false)∨(decide (1<v)=true∧decide (2<v)=true∧(v == 3)=true):=by
  rcases hv3 with rfl | rfl | rfl
  · exact .inl ⟨rfl,rfl,rfl⟩
  · exact .inr (.inl ⟨rfl,rfl,rfl⟩)
  · exact .inr (.inr ⟨rfl,rfl,rfl⟩)
 have hb3:(v == 3)=decide (v=3):=by by_cases h:v=3 <;> simp [h]
 have hr0:(rev == 0)=decide (rev=0):=by by_cases h:rev=0 <;> simp [h]
 rw [← hb3,← hr0] at hb0
 clear hb3 hr0 hv3
 obtain⟨z,hz⟩:∃ z,(rev == 0)=z:=⟨_,rfl⟩
 rw [hz] at hb0
 rcases hd with ⟨d1,d2,d3⟩ | ⟨d1,d2,d3⟩ | ⟨d1,d2,d3⟩
 all_goals rw [d3] at hb0
 all_goals cases z
 all_goals simp only [Bool.or_true,Bool.or_false,Bool.true_or,Bool.false_or] at hb0
 all_goals have HB0:=hid hb0
 all_goals clear hb0
 all_goals go_wp2
 all_goals clear y0 y1 hz d3
 all_goals (
  go_loopw [7,9,30] (fun f _ i wr=>Rj ⟨rev,jobs,nodes,leases⟩ ⟨aj,nj,cj,an,nn,cn,al,nl,cl⟩ v b0 w nj f i wr) (fun _ _ i _=>nj - (intOf i).toNat)
  case atStart=>exact⟨0,Nat.zero_le _,rfl,by rw [← HB0.out]; simp,Hb.out,HB.out⟩
  case round=>
   clear Hb HB
   obtain⟨k,hk,rfl,rfl,hb,hB⟩:=hrel
   have Hb:=hid hb
   have HB:=hid hB
   have hsz:=hb.size
   by_cases hlt:k<nj
   · obtain⟨y,hf⟩:∃ y,jobs[k]? = some y:=⟨_,List.getElem?_eq_getElem (by omega)⟩
     obtain⟨b,off,hao,hbB,hc⟩:=(HS.out.j.below hb).dF aN hlj hf
     have hstep:=hid (Fj (p:=okJ v) hf)
     simp only at hao
     subst hao
     obtain⟨name,prio,need,tries,tag⟩:=y
     obtain⟨c0,c1,c2,c3,c4⟩:=rc5 hc
     have hlb:b<wr.heap.size:=by omega
     have hba:=hid (Hb.out.alloc Hb.out.size (.cells #[.string name,.int .i64 prio,.int .i64 need,.int .i64 tries,.string tag] 59))
     have hBa:=hid (HB.out.alloc (.cells #[.string name,.int .i64 prio,.int .i64 need,.int .i64 tries,.string tag] 59))
     clear hc hf hb hB
     obtain⟨B,hBB⟩:∃ B,(b0 && (jobs.take k).all (okJ v))=B:=⟨_,rfl⟩
     have HBB:=hid hBB
     simp only [hBB]
     clear hBB
     by_cases htag:tag.size=0
     · have G8:=hid (fun (b:Bool) (h:decide (tries=0)=b)=>MR (j:=⟨name,prio,need,tries,tag⟩) (decide_eq_true htag) h d1 d2)
       obtain rfl:=qY htag
       by_cases htr:tries=0
       · have e2:(tries == 0)=true:=beq_iff_eq.2 htr
         have AN:=hid (G8.out true (decide_eq_true htr))
         subst htr
         clear G8
         cases B
         all_goals go_wp2
         all_goals go_roundw
         all_goals (first
          | exact⟨k+1,by omega,by go_num,by rw [hstep.out,← Bool.and_assoc,HBB.out,AN.out]; rfl,hba.out,hBa.out⟩
          | (simp [intOf]; omega))
       · have e2:(tries == 0)=false:=beq_eq_false_iff_ne.2 htr
         have AN:=hid (G8.out false (decide_eq_false htr))
         cases B
         all_goals go_wp2
         all_goals go_roundw
         all_goals (first
          | exact⟨k+1,by omega,by go_num,by rw [hstep.out,← Bool.and_assoc,HBB.out,AN.out]; rfl,hba.out,hBa.out⟩
          | (simp [intOf]; omega))
     · have G8:=hid (fun (b:Bool) (h:decide (tries=0)=b)=>MR (j:=⟨name,prio,need,tries,tag⟩) (decide_eq_false htag) h d1 d2)
       have e1:=kZ htag
       have e1':=o9 htag
       by_cases htr:tries=0
       · have e2:(tries == 0)=true:=beq_iff_eq.2 htr
         have AN:=hid (G8.out true (decide_eq_true htr))
         subst htr
         clear G8
         cases B
         all_goals go_wp2
         all_goals go_roundw
         all_goals (first
          | exact⟨k+1,by omega,by go_num,by rw [hstep.out,← Bool.and_assoc,HBB.out,AN.out]; rfl,hba.out,hBa.out⟩
          | (simp [intOf]; omega))
       · have e2:(tries == 0)=false:=beq_eq_false_iff_ne.2 htr
         have AN:=hid (G8.out false (decide_eq_false htr))
         cases B
         all_goals go_wp2
         all_goals go_roundw
         all_goals (first
          | exact⟨k+1,by omega,by go_num,by rw [hstep.out,← Bool.and_assoc,HBB.out,AN.out]; rfl,hba.out,hBa.out⟩
          | (simp [intOf]; omega))
   · have htk:jobs.take k=jobs:=List.take_of_length_le (by omega)
     obtain⟨b1,hb1⟩:∃ b1,(b0 && jobs.all (okJ v))=b1:=⟨_,rfl⟩
     have HB1:=hid hb1
     have y2:wr.cell? ⟨w.heap.size,2,none⟩=some (.slice an nn cn):=HB.out.cell 2
     simp only [htk,hb1]
     clear hb1 htk hb hB
     go_wp2
     clear y2
     go_loopw [7,11,57] (fun f _ i wr=>Rk ⟨rev,jobs,nodes,leases⟩ ⟨aj,nj,cj,an,nn,cn,al,nl,cl⟩ v b1 w nn f i wr) (fun _ _ i _=>nn - (intOf i).toNat)
     case atStart=>exact⟨0,Nat.zero_le _,rfl,by simp,Hb.out,HB.out⟩
     case round=>
      clear Hb HB
      obtain⟨q,hq,rfl,rfl,hb,hB⟩:=hrel
      have Hb:=hid hb
      have HB:=hid hB
      have hsz:=hb.size
      by_cases hltq:q<nn
      · obtain⟨y,hf⟩:∃ y,nodes[q]? = some y:=⟨_,List.getElem?_eq_getElem (by omega)⟩
        obtain⟨b,off,hao,hbB,hc⟩:=(HS.out.n.below hb).dF bF hln hf
        have hstep:=hid (Fj (p:=okN v) hf)
        simp only at hao
        subst hao
        obtain⟨name,room,zone⟩:=y
        obtain⟨c0,c1,c2⟩:=rc3 hc
        have hlb:b<wr.heap.size:=by omega
        have hba:=hid (Hb.out.alloc Hb.out.size (.cells #[.string name,.int .i64 room,.string zone] 61))
        have hBa:=hid (HB.out.alloc (.cells #[.string name,.int .i64 room,.string zone] 61))
        clear hc hf hb hB
        obtain⟨B,hBB⟩:∃ B,(b1 && (nodes.take q).all (okN v))=B:=⟨_,rfl⟩
        have HBB:=hid hBB
        simp only [hBB]
        clear hBB
        by_cases htag:zone.size=0
        · have AN:=hid (MS (n:=⟨name,room,zone⟩) (decide_eq_true htag) d1)
          obtain rfl:=qY htag
          cases B
          all_goals go_wp2
          all_goals go_roundw
          all_goals (first
           | exact⟨q+1,by omega,by go_num,by rw [hstep.out,← Bool.and_assoc,HBB.out,AN.out]; rfl,hba.out,hBa.out⟩
           | (simp [intOf]; omega))
        · have AN:=hid (MS (n:=⟨name,room,zone⟩) (decide_eq_false htag) d1)
          have e1:=kZ htag
          have e1':=o9 htag
          cases B
          all_goals go_wp2
          all_goals go_roundw
          all_goals (first
           | exact⟨q+1,by omega,by go_num,by rw [hstep.out,← Bool.and_assoc,HBB.out,AN.out]; rfl,hba.out,hBa.out⟩
           | (simp [intOf]; omega))
      · have htk:nodes.take q=nodes:=List.take_of_length_le (by omega)
        have hend:=hid (Rl.out (b1 && nodes.all (okN v)) wr (by rw [HFE.out,HB1.out]) Hb.out)
        simp only [htk]
        clear htk hb hB
        go_wp2
        go_ret2
        exact hend.out)
end Go.Proofs.YtcpgnjmaampglaaGreatDoor
