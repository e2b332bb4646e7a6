/- Of the proof of a statement: ReqDG. -/
import Derived.Test.YtbllgmociapjeaaGreatDoorVSdE
set_option linter.unusedVariables false
set_option linter.unusedSimpArgs false
set_option maxRecDepth 100000
set_option maxHeartbeats 8000000
/- req.Decode at the bytes of any request. -/
namespace Go.Proofs.YtbllgmociapjeaaGreatDoor
open Go.Lib (hid)
open Go.RowKit
theorem gC (h:aF) (k:Nat) (hk:k≤9) (L:List UInt8) (hL:L.length≤900) (w:World) (T:TypeId) (F:FuncId) (J0 J1:Nat→Value→World→Prop) (hT:Tabs w)
 (hn:∀ v (w:World),(binOp .eql 130 (.iface T v) .nilIface).run Tryz.prog w = .ok (.bool false) w)
 (hc:∀ a (w:World),(callFunc F a).run Tryz.prog w = .ok (.enter F a) w)
 (HPt:∀ w,Calls Tryz.prog 56 #[bH (eI k)] w fun e w'=>∃ v,e = .returned (.iface T v)∧J0 w.heap.size v w'∧Below w.heap.size w w')
 (HM : ∀ B v w, J0 B v w → ∀ w', (method 424 T v "bracken/req.take").run Tryz.prog w' = .ok (F, v) w')
 (HTk:∀ B v w g,J0 B v w→g<B→fu w g (.ok () (BA L))→Calls Tryz.prog F #[v,.pointer (some ⟨g,0,none⟩)] w fun e w'=>e = .returned (.tuple #[])∧J1 g v w'∧fu w' g (.ok () (BA []))∧Below g w w')
 (hJ1:∀ g v w w',J1 g v w→w.grownBy w' (some g)→J1 g v w')
 (HWh:∀ g v w,J1 g v w→Calls Tryz.prog 86 #[.int .i64 (k:Int),.iface T v] w fun e w'=>e = .returned (bH h)∧Below w.heap.size w w')
 (HCk:∀ w',Below w.heap.size w w'→Calls Tryz.prog 54 #[bH h] w' (cF 0 w')) :
 Calls Tryz.prog 62 #[.string (BA (aO k ++ L))] w (eK h 0 w):=by
 obtain⟨b,hb⟩:∃ b,BA (aO k ++ L)=b:=⟨_,rfl⟩
 have hn1:eT b = .ok k (BA L):=by rw [← hb]; exact jP k (by omega) _
 have hbs:b.size≤1000:=by
  have h1:=cH k
  rw [← hb,fY,List.length_append]; omega
 rw [hb]
 clear hb
 obtain⟨W,hW⟩:∃ W,(w.alloc (.cells #[.int .i64 0,.string ⟨#[]⟩,.int .i64 0,.int .i64 0,.int .i64 0,.string ⟨#[]⟩,.string ⟨#[]⟩,.int .i64 0,.string ⟨#[]⟩,.string ⟨#[]⟩,.string ⟨#[]⟩,.int .i64 0,.string ⟨#[]⟩,.int .i64 0] 38)).alloc (.cells #[.string b,.int .i64 0] 193)=W:=⟨_,rfl⟩
 have hb0:Below w.heap.size w (w.alloc (.cells #[.int .i64 0,.string ⟨#[]⟩,.int .i64 0,.int .i64 0,.int .i64 0,.string ⟨#[]⟩,.string ⟨#[]⟩,.int .i64 0,.string ⟨#[]⟩,.string ⟨#[]⟩,.string ⟨#[]⟩,.int .i64 0,.string ⟨#[]⟩,.int .i64 0] 38)):=(Below.refl _ _).alloc (Nat.le_refl _) _
 have hbW:Below w.heap.size w W:=by rw [← hW]; exact hb0.alloc hb0.size _
 have hR:Blk W w.heap.size 38 #[.int .i64 0,.string ⟨#[]⟩,.int .i64 0,.int .i64 0,.int .i64 0,.string ⟨#[]⟩,.string ⟨#[]⟩,.int .i64 0,.string ⟨#[]⟩,.string ⟨#[]⟩,.string ⟨#[]⟩,.int .i64 0,.string ⟨#[]⟩,.int .i64 0]:=by rw [← hW]; exact Blk.alloc (show Blk _ _ _ _ from heap_alloc_new w _) _
 obtain⟨g,hg⟩:∃ g,w.heap.size+1=g:=⟨_,rfl⟩
 have hrx:nM W g b 0:=by
  rw [← hW,← hg]
  have h:=heap_alloc_new (w.alloc (.cells #[.int .i64 0,.string ⟨#[]⟩,.int .i64 0,.int .i64 0,.int .i64 0,.string ⟨#[]⟩,.string ⟨#[]⟩,.int .i64 0,.string ⟨#[]⟩,.string ⟨#[]⟩,.string ⟨#[]⟩,.int .i64 0,.string ⟨#[]⟩,.int .i64 0] 38)) (.cells #[.string b,.int .i64 0] 193)
  rwa [show (w.alloc (.cells #[.int .i64 0,.string ⟨#[]⟩,.int .i64 0,.int .i64 0,.int .i64 0,.string ⟨#[]⟩,.string ⟨#[]⟩,.int .i64 0,.string ⟨#[]⟩,.string ⟨#[]⟩,.string ⟨#[]⟩,.int .i64 0,.string ⟨#[]⟩,.int .i64 0] 38)).heap.size=w.heap.size+1 by simp] at h
 have hlts:=hT.lts
 have hok:fu W g (.ok () b):=⟨hrx,by show b.size≤9223372036854775807; omega,hT.below hbW,by omega,by omega⟩
 have HN:=hid (mY g (.ok () b) W hok)
 have HR:=hid hR
 have HbW:=hid hbW
 have HW:=hid (show (w.alloc (.cells #[.int .i64 0,.string ⟨#[]⟩,.int .i64 0,.int .i64 0,.int .i64 0,.string ⟨#[]⟩,.string ⟨#[]⟩,.int .i64 0,.string ⟨#[]⟩,.string ⟨#[]⟩,.string ⟨#[]⟩,.int .i64 0,.string ⟨#[]⟩,.int .i64 0] 38)).alloc (.cells #[.string b,.int .i64 0] 193)=W from hW)
 have Hg:=hid hg
 have Hn1:=hid hn1
 have HPt:=hid HPt
 have HMh:=hid HM
 have HTk:=hid HTk
 have HJ1:=hid hJ1
 have HW0:=hid HWh
 have HCk:=hid HCk
 have hlR:=hR.lt
 have hlg:=hok.at_.lt
 have hRg:w.heap.size<g:=by omega
 have hgR:w.heap.size<g:=by omega
 clear hb0 hbW hR hrx hlts hok hT hW hg hn1 HM hJ1 HWh
 go_enter Tryz.func62,Tryz.ntmps62
 go_wp2_with fail
 simp only [HW.out,Hg.out]
 clear HW
 refine Calls.mono HN.out ?_
 rintro e w2 ⟨a,rfl,hv,hok,hg2⟩
 have e1:((RR.ok () b).bind fun _ s=>eT s) = .ok k (BA L):=Hn1.out
 rw [e1] at hv hok
 have hv:a=k:=hv
 subst hv
 have hok:fu w2 g (.ok () (BA L)):=hok
 have y1:w2.cell? ⟨g,1,none⟩=some (.int .i64 0):=Blk.cell (show nM w2 g _ 0 from hok.at_) 1
 have hlg2:=hok.at_.lt
 have hR2:=aD hg2 HR.out (Nat.ne_of_lt hRg)
 have HP:=hid (show Calls Tryz.prog 56 #[.agg #[.int .i64 (a:Int),.string ⟨#[]⟩,.int .i64 0,.int .i64 0,.int .i64 0,.string ⟨#[]⟩,.string ⟨#[]⟩,.int .i64 0,.string ⟨#[]⟩,.string ⟨#[]⟩,.string ⟨#[]⟩,.int .i64 0,.string ⟨#[]⟩,.int .i64 0]] w2 _ from HPt.out w2)
 have Hok:=hid hok
 have HR2:=hid hR2
 have Hb2:=hid (dR HbW.out hg2 (Nat.le_of_lt hRg))
 clear hok hg2 hR2 HN HR HbW e1 Hn1 HPt
 go_wp2_with fail
 refine Calls.mono HP.out ?_
 rintro e w3 ⟨v,rfl,hJ0,hb3⟩
 have Lf:fu w3 g (.ok () (BA L)):=Hok.out.next (σ':=.ok () (BA L)) (Blk.below (show nM w2 g _ 0 from Hok.out.at_) hb3 Hok.out.at_.lt) Hok.out.good (fK _ hb3)
 have HTk1:=hid (HTk.out w2.heap.size v w3 g hJ0 Hok.out.at_.lt Lf)
 have hm:=HMh.out w2.heap.size v w3 hJ0
 have HR3:=hid (HR2.out.below hb3 HR2.out.lt)
 have Hb3:=hid (Hb2.out.trans (hb3.mono Hb2.out.size))
 have hlg3:=Lf.at_.lt
 clear hJ0 hb3 Lf HP Hok HR2 Hb2 y1 HTk HMh
 go_wp2_with fail
 refine Calls.mono HTk1.out ?_
 rintro e w4 ⟨rfl,hp4,JR,t4⟩
 have HR4:=hid (HR3.out.below t4 hRg)
 have Hb4:=hid (Hb3.out.trans (t4.mono (Nat.le_of_lt hRg)))
 have HEn:=hid (LA g (.ok () (BA [])) w4 JR.at_ JR.good)
 have Hp4:=hid hp4
 have hlg4:=JR.at_.lt
 clear hp4 JR t4 HTk1 HR3 Hb3 hm
 go_wp2_with fail
 refine Calls.mono HEn.out ?_
 rintro e w5 ⟨rfl,hg5⟩
 have HR5:=hid (aD hg5 HR4.out (Nat.ne_of_lt hRg))
 have Hb5:=hid (dR Hb4.out hg5 (Nat.le_of_lt hRg))
 have HWh:=hid (HW0.out g v w5 (HJ1.out g v w4 w5 Hp4.out hg5))
 rw [show ((Fv (.ok () (BA [])):Nat):Int)=0 from rfl]
 clear hg5 HEn HR4 Hb4 Hp4 HJ1 HW0
 go_wp2_with fail
 refine Calls.mono HWh.out ?_
 rintro e w6 ⟨rfl,hb6⟩
 have HR6:=hid (HR5.out.below hb6 HR5.out.lt)
 have Hb6:=hid (Hb5.out.trans (hb6.mono Hb5.out.size))
 obtain⟨w7,hw7⟩:∃ w7,w6.alloc (.cells #[.int .i64 h.kind,.string h.job.name,.int .i64 h.job.prio,.int .i64 h.job.need,.int .i64 h.job.tries,.string h.job.tag,.string h.node.name,.int .i64 h.node.room,.string h.node.zone,.string h.lease.job,.string h.lease.node,.int .i64 h.lease.till,.string h.name,.int .i64 h.n] 38)=w7:=⟨_,rfl⟩
 have hb7:Below w6.heap.size w6 w7:=by rw [← hw7]; exact (Below.refl _ _).alloc (Nat.le_refl _) _
 have hq7:Blk w7 w6.heap.size 38 #[.int .i64 h.kind,.string h.job.name,.int .i64 h.job.prio,.int .i64 h.job.need,.int .i64 h.job.tries,.string h.job.tag,.string h.node.name,.int .i64 h.node.room,.string h.node.zone,.string h.lease.job,.string h.lease.node,.int .i64 h.lease.till,.string h.name,.int .i64 h.n]:=by rw [← hw7]; exact heap_alloc_new w6 _
 have HC:=hid (show Calls Tryz.prog 54 #[.agg #[.int .i64 h.kind,.string h.job.name,.int .i64 h.job.prio,.int .i64 h.job.need,.int .i64 h.job.tries,.string h.job.tag,.string h.node.name,.int .i64 h.node.room,.string h.node.zone,.string h.lease.job,.string h.lease.node,.int .i64 h.lease.till,.string h.name,.int .i64 h.n]] w7 (cF 0 w7) from HCk.out w7 (Hb6.out.trans (hb7.mono Hb6.out.size)))
 obtain⟨d0,d1,d2,d3,d4,d5,d6,d7,d8,d9,d10,d11,d12,d13⟩:=Blk.c14 (hq7)
 have Hw7:=hid hw7
 have HQ7:=hid hq7
 have hlq7:=hq7.lt
 have HR7:=hid (HR6.out.below hb7 HR6.out.lt)
 have Hb7:=hid (Hb6.out.trans (hb7.mono Hb6.out.size))
 have hRlt:w.heap.size<w6.heap.size:=HR6.out.lt
 clear hb6 hw7 hb7 hq7 HCk HWh HR5 Hb5 HR6 Hb6
 unfold bH
 unfold aN
 go_wp2_with fail
 simp only [Hw7.out]
 clear Hw7
 refine Calls.mono HC.out ?_
 rintro e w8 ⟨rfl,hb8⟩
 have hR8:=HR7.out.below hb8 HR7.out.lt
 have hq8:=HQ7.out.below hb8 HQ7.out.lt
 have hB8:=Hb7.out.trans (hb8.mono Hb7.out.size)
 obtain⟨e0,e1,e2,e3,e4,e5,e6,e7,e8,e9,e10,e11,e12,e13⟩:=Blk.c14 (hq8)
 obtain⟨r0,r1,r2,r3,r4,r5,r6,r7,r8,r9,r10,r11,r12,r13⟩:=Blk.c14 (show Blk w8 (w.heap.size) _ #[.int .i64 0,.string ⟨#[]⟩,.int .i64 0,.int .i64 0,.int .i64 0,.string ⟨#[]⟩,.string ⟨#[]⟩,.int .i64 0,.string ⟨#[]⟩,.string ⟨#[]⟩,.string ⟨#[]⟩,.int .i64 0,.string ⟨#[]⟩,.int .i64 0] from hR8)
 obtain⟨z0,z1,z2,z3,z4,z5,z6,z7,z8,z9,z10,z11,z12,z13⟩:=Blk.z14 (hR8)
 have hlq8:=hq8.lt
 have hlR8:=hR8.lt
 have HR8:=hid (show Blk w8 w.heap.size 38 (aN (eI 0)) from hR8)
 have HB8:=hid hB8
 clear hb8 hR8 hq8 hB8 HC HQ7 HR7 Hb7 hn hc d0 d1 d2 d3 d4 d5 d6 d7 d8 d9 d10 d11 d12 d13
 go_wp2
 have hf:=wH h HR8.out
 have hB:=HB8.out.trans (rO w8 w.heap.size h)
 obtain⟨wf,hwf⟩:∃ wf,sY w8 w.heap.size h=wf:=⟨_,rfl⟩
 rw [hwf] at hf hB
 unfold sY at hwf
 simp only [hwf]
 clear hwf HR8 HB8 e0 r0 z0 e1 r1 z1 e2 r2 z2 e3 r3 z3 e4 r4 z4 e5 r5 z5 e6 r6 z6 e7 r7 z7 e8 r8 z8 e9 r9 z9 e10 r10 z10 e11 r11 z11 e12 r12 z12 e13 r13 z13 hlq8 hlR8
 obtain⟨y0,y1,y2,y3,y4,y5,y6,y7,y8,y9,y10,y11,y12,y13⟩:=Blk.c14 (hf)
 have bI:=hid hB
 clear hf hB
 refine bodyPost_ret (v:=.tuple #[.agg #[.int .i64 h.kind,.string h.job.name,.int .i64 h.job.prio,.int .i64 h.job.need,.int .i64 h.job.tries,.string h.job.tag,.string h.node.name,.int .i64 h.node.room,.string h.node.zone,.string h.lease.job,.string h.lease.node,.int .i64 h.lease.till,.string h.name,.int .i64 h.n],.int .i64 0]) (by simp [results,Tryz.results62,go_sem, *]) rfl ?_
 exact⟨rfl,bI.out⟩
theorem EH (g P:Nat) (x:aC) (b:ByteArray) (w:World) (hp:Blk w P 171 #[.string ⟨#[]⟩,.int .i64 0,.int .i64 0,.int .i64 0,.string ⟨#[]⟩]) (h:fu w g (.ok () b)) (hx:((fun s=>AV 3 s) b) = .ok x (BA [])) (hgP:g<P) :
 Calls Tryz.prog 273 #[.pointer (some ⟨P,0,none⟩),.pointer (some ⟨g,0,none⟩)] w fun e w'=>e = .returned (.tuple #[])∧(g<P∧Blk w' P 171 #[.string x.name,.int .i64 x.prio,.int .i64 x.need,.int .i64 x.tries,.string x.tag])∧fu w' g (.ok () (BA []))∧Below g w w':=by
 obtain⟨σ,hσ⟩:∃ σ,(RR.ok () b:RR Unit)=σ:=⟨_,rfl⟩
 have hx:(σ.bind fun _ s=>AV 3 s) = .ok x (BA []):=by rw [← hσ]; exact hx
 rw [hσ] at h
 have HJ:=hid (JK g σ 3 w (by decide) (by decide) h)
 have Hx:=hid hx
 have HP:=hid hp
 have hlP:=hp.lt
 have hlg:=h.at_.lt
 clear hp h hx hσ
 go_enter Tryz.func273,Tryz.ntmps273
 go_wp2_with fail
 refine Calls.mono HJ.out ?_
 rintro e w1 ⟨a,rfl,hv,hok,hg⟩
 rw [Hx.out] at hv hok
 have hv:a=x:=hv
 subst hv
 have hok:fu w1 g (.ok () (BA [])):=hok
 have hp1:=aD hg HP.out (Nat.ne_of_gt hgP)
 have z0:w1.frozen? ⟨P,0,none⟩=false:=hp1.thaw 0
 have z1:w1.frozen? ⟨P,1,none⟩=false:=hp1.thaw 1
 have z2:w1.frozen? ⟨P,2,none⟩=false:=hp1.thaw 2
 have z3:w1.frozen? ⟨P,3,none⟩=false:=hp1.thaw 3
 have z4:w1.frozen? ⟨P,4,none⟩=false:=hp1.thaw 4
 obtain⟨c0,c1,c2,c3,c4⟩:=Blk.c5 (hp1)
 have JS:=hp1.lt
 have ht:Two w (((((w1.setCell ⟨P,0,none⟩ (.string a.name)).setCell ⟨P,1,none⟩ (.int .i64 a.prio)).setCell ⟨P,2,none⟩ (.int .i64 a.need)).setCell ⟨P,3,none⟩ (.int .i64 a.tries)).setCell ⟨P,4,none⟩ (.string a.tag)) g P:=((Two.refl w g P).fst hg).snd (aQ (aQ (aQ (aQ (aQ (cX w1 P) 0 (.string a.name)) 1 (.int .i64 a.prio)) 2 (.int .i64 a.need)) 3 (.int .i64 a.tries)) 4 (.string a.tag))
 have bI:=hid (show (g<P∧Blk (((((w1.setCell ⟨P,0,none⟩ (.string a.name)).setCell ⟨P,1,none⟩ (.int .i64 a.prio)).setCell ⟨P,2,none⟩ (.int .i64 a.need)).setCell ⟨P,3,none⟩ (.int .i64 a.tries)).setCell ⟨P,4,none⟩ (.string a.tag)) P 171 #[.string a.name,.int .i64 a.prio,.int .i64 a.need,.int .i64 a.tries,.string a.tag])∧fu (((((w1.setCell ⟨P,0,none⟩ (.string a.name)).setCell ⟨P,1,none⟩ (.int .i64 a.prio)).setCell ⟨P,2,none⟩ (.int .i64 a.need)).setCell ⟨P,3,none⟩ (.int .i64 a.tries)).setCell ⟨P,4,none⟩ (.string a.tag)) g (.ok () (BA []))∧Below g w (((((w1.setCell ⟨P,0,none⟩ (.string a.name)).setCell ⟨P,1,none⟩ (.int .i64 a.prio)).setCell ⟨P,2,none⟩ (.int .i64 a.need)).setCell ⟨P,3,none⟩ (.int .i64 a.tries)).setCell ⟨P,4,none⟩ (.string a.tag)) from ⟨⟨hgP,Blk.eq (((((hp1.set 0 (.string a.name)).set 1 (.int .i64 a.prio)).set 2 (.int .i64 a.need)).set 3 (.int .i64 a.tries)).set 4 (.string a.tag)) rfl⟩,(((((hok.set P 0 (.string a.name) hgP).set P 1 (.int .i64 a.prio) hgP).set P 2 (.int .i64 a.need) hgP).set P 3 (.int .i64 a.tries) hgP).set P 4 (.string a.tag) hgP),⟨ht.os,ht.tape,ht.output,ht.size,fun k hk=>ht.block k (by omega) (by omega) (by omega)⟩⟩)
 clear hok hp1 hg HJ Hx HP ht
 simp only [aI]
 go_wp2
 go_end0
 exact⟨rfl,bI.out⟩
theorem CN (g P:Nat) (x:aA) (b:ByteArray) (w:World) (hp:Blk w P 174 #[.string ⟨#[]⟩,.int .i64 0,.string ⟨#[]⟩]) (h:fu w g (.ok () b)) (hx:((fun s=>tV 3 s) b) = .ok x (BA [])) (hgP:g<P) :
 Calls Tryz.prog 282 #[.pointer (some ⟨P,0,none⟩),.pointer (some ⟨g,0,none⟩)] w fun e w'=>e = .returned (.tuple #[])∧(g<P∧Blk w' P 174 #[.string x.name,.int .i64 x.room,.string x.zone])∧fu w' g (.ok () (BA []))∧Below g w w':=by
 obtain⟨σ,hσ⟩:∃ σ,(RR.ok () b:RR Unit)=σ:=⟨_,rfl⟩
 have hx:(σ.bind fun _ s=>tV 3 s) = .ok x (BA []):=by rw [← hσ]; exact hx
 rw [hσ] at h
 have HJ:=hid (Ib g σ 3 w (by decide) h)
 have Hx:=hid hx
 have HP:=hid hp
 have hlP:=hp.lt
 have hlg:=h.at_.lt
 clear hp h hx hσ
 go_enter Tryz.func282,Tryz.ntmps282
 go_wp2_with fail
 refine Calls.mono HJ.out ?_
 rintro e w1 ⟨a,rfl,hv,hok,hg⟩
 rw [Hx.out] at hv hok
 have hv:a=x:=hv
 subst hv
 have hok:fu w1 g (.ok () (BA [])):=hok
 have hp1:=aD hg HP.out (Nat.ne_of_gt hgP)
 have z0:w1.frozen? ⟨P,0,none⟩=false:=hp1.thaw 0
 have z1:w1.frozen? ⟨P,1,none⟩=false:=hp1.thaw 1
 have z2:w1.frozen? ⟨P,2,none⟩=false:=hp1.thaw 2
 have c0:w1.cell? ⟨P,0,none⟩=some (.string ⟨#[]⟩):=hp1.cell 0
 have c1:w1.cell? ⟨P,1,none⟩=some (.int .i64 0):=hp1.cell 1
 have c2:w1.cell? ⟨P,2,none⟩=some (.string ⟨#[]⟩):=hp1.cell 2
 have JS:=hp1.lt
 have ht:Two w (((w1.setCell ⟨P,0,none⟩ (.string a.name)).setCell ⟨P,1,none⟩ (.int .i64 a.room)).setCell ⟨P,2,none⟩ (.string a.zone)) g P:=((Two.refl w g P).fst hg).snd (aQ (aQ (aQ (cX w1 P) 0 (.string a.name)) 1 (.int .i64 a.room)) 2 (.string a.zone))
 have bI:=hid (show (g<P∧Blk (((w1.setCell ⟨P,0,none⟩ (.string a.name)).setCell ⟨P,1,none⟩ (.int .i64 a.room)).setCell ⟨P,2,none⟩ (.string a.zone)) P 174 #[.string a.name,.int .i64 a.room,.string a.zone])∧fu (((w1.setCell ⟨P,0,none⟩ (.string a.name)).setCell ⟨P,1,none⟩ (.int .i64 a.room)).setCell ⟨P,2,none⟩ (.string a.zone)) g (.ok () (BA []))∧Below g w (((w1.setCell ⟨P,0,none⟩ (.string a.name)).setCell ⟨P,1,none⟩ (.int .i64 a.room)).setCell ⟨P,2,none⟩ (.string a.zone)) from ⟨⟨hgP,Blk.eq (((hp1.set 0 (.string a.name)).set 1 (.int .i64 a.room)).set 2 (.string a.zone)) rfl⟩,(((hok.set P 0 (.string a.name) hgP).set P 1 (.int .i64 a.room) hgP).set P 2 (.string a.zone) hgP),⟨ht.os,ht.tape,ht.output,ht.size,fun k hk=>ht.block k (by omega) (by omega) (by omega)⟩⟩)
 clear hok hp1 hg HJ Hx HP ht
 simp only [aB]
 go_wp2
 go_end0
 exact⟨rfl,bI.out⟩
theorem A9 (g P:Nat) (x:ak) (b:ByteArray) (w:World) (hp:Blk w P 177 #[.string ⟨#[]⟩,.string ⟨#[]⟩,.int .i64 0]) (h:fu w g (.ok () b)) (hx:((fun s=>oH s) b) = .ok x (BA [])) (hgP:g<P) :
 Calls Tryz.prog 287 #[.pointer (some ⟨P,0,none⟩),.pointer (some ⟨g,0,none⟩)] w fun e w'=>e = .returned (.tuple #[])∧(g<P∧Blk w' P 177 #[.string x.job,.string x.node,.int .i64 x.till])∧fu w' g (.ok () (BA []))∧Below g w w':=by
 obtain⟨σ,hσ⟩:∃ σ,(RR.ok () b:RR Unit)=σ:=⟨_,rfl⟩
 have hx:(σ.bind fun _ s=>oH s) = .ok x (BA []):=by rw [← hσ]; exact hx
 rw [hσ] at h
 have HJ:=hid (JL g σ w h)
 have Hx:=hid hx
 have HP:=hid hp
 have hlP:=hp.lt
 have hlg:=h.at_.lt
 clear hp h hx hσ
 go_enter Tryz.func287,Tryz.ntmps287
 go_wp2_with fail
 refine Calls.mono HJ.out ?_
 rintro e w1 ⟨a,rfl,hv,hok,hg⟩
 rw [Hx.out] at hv hok
 have hv:a=x:=hv
 subst hv
 have hok:fu w1 g (.ok () (BA [])):=hok
 have hp1:=aD hg HP.out (Nat.ne_of_gt hgP)
 have z0:w1.frozen? ⟨P,0,none⟩=false:=hp1.thaw 0
 have z1:w1.frozen? ⟨P,1,none⟩=false:=hp1.thaw 1
 have z2:w1.frozen? ⟨P,2,none⟩=false:=hp1.thaw 2
 have c0:w1.cell? ⟨P,0,none⟩=some (.string ⟨#[]⟩):=hp1.cell 0
 have c1:w1.cell? ⟨P,1,none⟩=some (.string ⟨#[]⟩):=hp1.cell 1
 have c2:w1.cell? ⟨P,2,none⟩=some (.int .i64 0):=hp1.cell 2
 have JS:=hp1.lt
 have ht:Two w (((w1.setCell ⟨P,0,none⟩ (.string a.job)).setCell ⟨P,1,none⟩ (.string a.node)).setCell ⟨P,2,none⟩ (.int .i64 a.till)) g P:=((Two.refl w g P).fst hg).snd (aQ (aQ (aQ (cX w1 P) 0 (.string a.job)) 1 (.string a.node)) 2 (.int .i64 a.till))
 have bI:=hid (show (g<P∧Blk (((w1.setCell ⟨P,0,none⟩ (.string a.job)).setCell ⟨P,1,none⟩ (.string a.node)).setCell ⟨P,2,none⟩ (.int .i64 a.till)) P 177 #[.string a.job,.string a.node,.int .i64 a.till])∧fu (((w1.setCell ⟨P,0,none⟩ (.string a.job)).setCell ⟨P,1,none⟩ (.string a.node)).setCell ⟨P,2,none⟩ (.int .i64 a.till)) g (.ok () (BA []))∧Below g w (((w1.setCell ⟨P,0,none⟩ (.string a.job)).setCell ⟨P,1,none⟩ (.string a.node)).setCell ⟨P,2,none⟩ (.int .i64 a.till)) from ⟨⟨hgP,Blk.eq (((hp1.set 0 (.string a.job)).set 1 (.string a.node)).set 2 (.int .i64 a.till)) rfl⟩,(((hok.set P 0 (.string a.job) hgP).set P 1 (.string a.node) hgP).set P 2 (.int .i64 a.till) hgP),⟨ht.os,ht.tape,ht.output,ht.size,fun k hk=>ht.block k (by omega) (by omega) (by omega)⟩⟩)
 clear hok hp1 hg HJ Hx HP ht
 simp only [av]
 go_wp2
 go_end0
 exact⟨rfl,bI.out⟩
theorem qD (g P:Nat) (x:ByteArray) (b:ByteArray) (w:World) (hp:Blk w P 178 #[.string ⟨#[]⟩]) (h:fu w g (.ok () b)) (hx:((fun s=>cV s) b) = .ok x (BA [])) (hgP:g<P) :
 Calls Tryz.prog 292 #[.pointer (some ⟨P,0,none⟩),.pointer (some ⟨g,0,none⟩)] w fun e w'=>e = .returned (.tuple #[])∧(g<P∧Blk w' P 178 #[.string x])∧fu w' g (.ok () (BA []))∧Below g w w':=by
 obtain⟨σ,hσ⟩:∃ σ,(RR.ok () b:RR Unit)=σ:=⟨_,rfl⟩
 have hx:(σ.bind fun _ s=>cV s) = .ok x (BA []):=by rw [← hσ]; exact hx
 rw [hσ] at h
 have HJ:=hid (qC g σ w h)
 have Hx:=hid hx
 have HP:=hid hp
 have hlP:=hp.lt
 have hlg:=h.at_.lt
 clear hp h hx hσ
 go_enter Tryz.func292,Tryz.ntmps292
 go_wp2_with fail
 refine Calls.mono HJ.out ?_
 rintro e w1 ⟨a,rfl,hv,hok,hg⟩
 rw [Hx.out] at hv hok
 have hv:a=x:=hv
 subst hv
 have hok:fu w1 g (.ok () (BA [])):=hok
 have hp1:=aD hg HP.out (Nat.ne_of_gt hgP)
 have z0:w1.frozen? ⟨P,0,none⟩=false:=hp1.thaw 0
 have c0:w1.cell? ⟨P,0,none⟩=some (.string ⟨#[]⟩):=hp1.cell 0
 have JS:=hp1.lt
 have ht:Two w (w1.setCell ⟨P,0,none⟩ (.string a)) g P:=((Two.refl w g P).fst hg).snd (aQ (cX w1 P) 0 (.string a))
 have bI:=hid (show (g<P∧Blk (w1.setCell ⟨P,0,none⟩ (.string a)) P 178 #[.string a])∧fu (w1.setCell ⟨P,0,none⟩ (.string a)) g (.ok () (BA []))∧Below g w (w1.setCell ⟨P,0,none⟩ (.string a)) from ⟨⟨hgP,Blk.eq (hp1.set 0 (.string a)) rfl⟩,(hok.set P 0 (.string a) hgP),⟨ht.os,ht.tape,ht.output,ht.size,fun k hk=>ht.block k (by omega) (by omega) (by omega)⟩⟩)
 clear hok hp1 hg HJ Hx HP ht
 go_wp2
 go_end0
 exact⟨rfl,bI.out⟩
theorem Bb (g P:Nat) (x:Nat) (b:ByteArray) (w:World) (hp:Blk w P 180 #[.int .i64 0]) (h:fu w g (.ok () b)) (hx:((fun s=>eT s) b) = .ok x (BA [])) (hgP:g<P) :
 Calls Tryz.prog 296 #[.pointer (some ⟨P,0,none⟩),.pointer (some ⟨g,0,none⟩)] w fun e w'=>e = .returned (.tuple #[])∧(g<P∧Blk w' P 180 #[.int .i64 (x:Int)])∧fu w' g (.ok () (BA []))∧Below g w w':=by
 obtain⟨σ,hσ⟩:∃ σ,(RR.ok () b:RR Unit)=σ:=⟨_,rfl⟩
 have hx:(σ.bind fun _ s=>eT s) = .ok x (BA []):=by rw [← hσ]; exact hx
 rw [hσ] at h
 have HJ:=hid (mY g σ w h)
 have Hx:=hid hx
 have HP:=hid hp
 have hlP:=hp.lt
 have hlg:=h.at_.lt
 clear hp h hx hσ
 go_enter Tryz.func296,Tryz.ntmps296
 go_wp2_with fail
 refine Calls.mono HJ.out ?_
 rintro e w1 ⟨a,rfl,hv,hok,hg⟩
 rw [Hx.out] at hv hok
 have hv:a=x:=hv
 subst hv
 have hok:fu w1 g (.ok () (BA [])):=hok
 have hp1:=aD hg HP.out (Nat.ne_of_gt hgP)
 have z0:w1.frozen? ⟨P,0,none⟩=false:=hp1.thaw 0
 have c0:w1.cell? ⟨P,0,none⟩=some (.int .i64 0):=hp1.cell 0
 have JS:=hp1.lt
 have ht:Two w (w1.setCell ⟨P,0,none⟩ (.int .i64 (a:Int))) g P:=((Two.refl w g P).fst hg).snd (aQ (cX w1 P) 0 (.int .i64 (a:Int)))
 have bI:=hid (show (g<P∧Blk (w1.setCell ⟨P,0,none⟩ (.int .i64 (a:Int))) P 180 #[.int .i64 (a:Int)])∧fu (w1.setCell ⟨P,0,none⟩ (.int .i64 (a:Int))) g (.ok () (BA []))∧Below g w (w1.setCell ⟨P,0,none⟩ (.int .i64 (a:Int))) from ⟨⟨hgP,Blk.eq (hp1.set 0 (.int .i64 (a:Int))) rfl⟩,(hok.set P 0 (.int .i64 (a:Int)) hgP),⟨ht.os,ht.tape,ht.output,ht.size,fun k hk=>ht.block k (by omega) (by omega) (by omega)⟩⟩)
 clear hok hp1 hg HJ Hx HP ht
 go_wp2
 go_end0
 exact⟨rfl,bI.out⟩
theorem wP (p:Value) (w:World):Calls Tryz.prog 300 #[.agg #[],p] w fun e w'=>e = .returned (.tuple #[])∧Below w.heap.size w w':=by
 go_enter Tryz.func300,Tryz.ntmps300
 go_wp2
 go_end0
 exact⟨rfl,(Below.refl _ _).alloc (Nat.le_refl _) _⟩
def dH (q:aF):List UInt8:=
 if q.kind=1 then eG q.job 3 else if q.kind=2 then cN q.node 3 else if q.kind=5 then dL q.lease else if q.kind=3∨q.kind=4∨q.kind=6 then dN q.name else if q.kind=7 then aO q.n.toNat else []
def gZ (q:aF):List UInt8:=aO q.kind.toNat ++ dH q
theorem cS {q:aF} (h:cu q=0):ranged q.kind 1 9=true∧iK q=q∧bR q=0:=by
 unfold cu at h
 split at h
 · cases h
 · rename_i h1
   split at h
   · cases h
   · rename_i h2
     exact⟨by simpa using h1,Classical.not_not.1 h2,h⟩
end Go.Proofs.YtbllgmociapjeaaGreatDoor
