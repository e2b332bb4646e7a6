/- Of the proof of a statement: EncC, ReqEG, ReqDA, ReqD1, WServeL. -/
import Derived.Test.YtbllgmociapjeaaGreatDoorVArgReq
import Derived.Test.YtbllgmociapjeaaGreatDoorVReqDG
set_option linter.unusedVariables false
set_option linter.unusedSimpArgs false
set_option maxRecDepth 100000
set_option maxHeartbeats 8000000
/- Words for Encode: a writer just made; how long what is written is. -/
namespace Go.Proofs.YtbllgmociapjeaaGreatDoor
open Go.Lib (hid)
open Go.RowKit
theorem rS (n:Nat):(aO n).length≤4000:=by have:=cH n; omega
theorem fD {α:Type} {enc:α→List UInt8} {xs:List α} (h:∀ x,(enc x).length≤85) (hn:xs.length≤40):(fV enc xs).length≤4000:=by
 have h1:=kD h xs
 have h2:=cJ xs.length
 unfold fV
 rw [List.length_append]; omega
theorem pT (x:ByteArray):(dN x).length≤85:=by have:=cU x; omega
theorem dQ.new {w:World} {base:Nat} (hT:Tabs w) (h3:ren.g 3<base) (h4:ren.g 4<base) (hb:base≤w.heap.size):dQ (w.alloc (.cells #[.slice none 0 0] 128)) base w.heap.size []:=
 have hbl:Below w.heap.size w (w.alloc (.cells #[.slice none 0 0] 128)):=(Below.refl _ _).alloc (Nat.le_refl _) _
 ⟨⟨hb,none,0,0,heap_alloc_new w _,World.ownsRow_nil _ _ _ _⟩,hT.below hbl,h3,h4,Nat.le_trans hb hbl.size⟩
theorem Tabs.lt {w:World} (h:Tabs w):ren.g 3<w.heap.size∧ren.g 4<w.heap.size:=by
 have lt:∀ {a:Addr} {v:Value},w.cell? a=some v→a.block<w.heap.size:=fun {a v} hc=>by
  rcases Nat.lt_or_ge a.block w.heap.size with h' | h'
  · exact h'
  · simp [World.cell?,Array.getElem?_eq_none h'] at hc
 exact⟨lt (h.1 0 (by decide)),lt (h.2 0 (by decide)).1⟩
end Go.Proofs.YtbllgmociapjeaaGreatDoor
/- req.Encode at any request that may be. -/
namespace Go.Proofs.YtbllgmociapjeaaGreatDoor
open Go.Lib (hid)
open Go.RowKit
def wO (q:aF) (L:List UInt8) (w:World) (e:Ending) (w':World):Prop:=e = .returned (.tuple #[.string (BA L),.int .i64 0])∧Below w.heap.size w w'
theorem gB (q:aF) (L:List UInt8) (w:World) (T:TypeId) (F:FuncId) (J:Value→World→Prop) (hk:0≤q.kind∧q.kind≤9) (hok:ROk q) (hT:Tabs w) (h0:cu q=0)
 (hc:∀ a (w:World),(callFunc F a).run Tryz.prog w = .ok (.enter F a) w)
 (HPt:∀ w,Calls Tryz.prog 56 #[bH q] w fun e w'=>∃ v,e = .returned (.iface T v)∧J v w'∧Below w.heap.size w w')
 (HM : ∀ v w, J v w → ∀ w', (method 424 T v "bracken/req.put").run Tryz.prog w' = .ok (F, v) w')
 (Ih:∀ base g l v w,J v w→dQ w base g l→l.length≤90000000→Calls Tryz.prog F #[v,.pointer (some ⟨g,0,none⟩)] w (dY base g (l ++ L) w)) :
 Calls Tryz.prog 26 #[bH q] w (wO q (aO q.kind.toNat ++ L) w):=by
 obtain⟨W,hW⟩:∃ W,w.alloc (.cells (aN q) 38)=W:=⟨_,rfl⟩
 have hb:Blk W w.heap.size 38 (aN q):=by rw [← hW]; exact heap_alloc_new w _
 have hbW:Below w.heap.size w W:=by rw [← hW]; exact (Below.refl _ _).alloc (Nat.le_refl _) _
 have hck:=cE q W hok (hT.below hbW)
 rw [h0] at hck
 obtain⟨c0,c1,c2,c3,c4,c5,c6,c7,c8,c9,c10,c11,c12,c13⟩:=Blk.c14 (hb)
 have hlt:=hb.lt
 have HCk:=hid hck
 have Hb:=hid hb
 have HbW:=hid hbW
 have HT:=hid hT
 have HW:=hid hW
 have Hk:=hid hk
 have JP:=hid HPt
 have HMh:=hid HM
 have Kr:=hid Ih
 clear hb hbW hT hW hck hok h0 hk HPt HM Ih
 unfold bH at HCk JP ⊢
 unfold aN at HCk HW JP ⊢
 go_enter Tryz.func26,Tryz.ntmps26
 go_wp2_with fail
 try simp only [HW.out]
 clear HW
 refine Calls.mono HCk.out ?_
 rintro e w1 ⟨rfl,hb1⟩
 have hB1:=HbW.out.trans (hb1.mono HbW.out.size)
 have hQ1:=Hb.out.below hb1 Hb.out.lt
 obtain⟨w2,hw2⟩:∃ w2,w1.alloc (.cells #[.slice none 0 0] 128)=w2:=⟨_,rfl⟩
 have hb2:Below w1.heap.size w1 w2:=by rw [← hw2]; exact (Below.refl _ _).alloc (Nat.le_refl _) _
 have hT2:=HT.out.below (hB1.trans (hb2.mono hB1.size))
 have hlts:=(HT.out.below hB1).lts
 have hwr:dQ w2 w1.heap.size w1.heap.size []:=⟨⟨Nat.le_refl _,none,0,0,by rw [← hw2]; exact heap_alloc_new w1 _,World.ownsRow_nil _ _ _ _⟩,hT2,hlts.1,hlts.2,hb2.size⟩
 have hQ2:=hQ1.below hb2 hQ1.lt
 have HN:=hid (jq w1.heap.size w1.heap.size [] q.kind w2 (by have:=Hk.out; omega) hwr (by simp))
 have k0:w1.cell? ⟨w.heap.size,0,none⟩=some (.int .i64 q.kind):=hQ1.cell 0
 have hlt2:=hQ1.lt
 have HB2:=hid (hB1.trans (hb2.mono hB1.size))
 have HQ2:=hid hQ2
 have Hw2:=hid hw2
 have Hsz:=hid hb2.size
 have Ii:=hid hQ1.lt
 clear hb1 hB1 hQ1 hb2 hT2 hlts hwr hQ2 hw2 HCk Hb HbW c0 c1 c2 c3 c4 c5 c6 c7 c8 c9 c10 c11 c12 c13 hlt
 go_wp2_with fail
 try simp only [Hw2.out]
 clear Hw2
 refine Calls.mono HN.out ?_
 rintro e w3 ⟨rfl,hwr3,hk3⟩
 have hQ3:Blk w3 w.heap.size 38 (aN q):=hk3.blk HQ2.out (by decide) (Nat.ne_of_lt Ii.out)
 obtain⟨d0,d1,d2,d3,d4,d5,d6,d7,d8,d9,d10,d11,d12,d13⟩:=Blk.c14 (hQ3)
 have hlt3:=hQ3.lt
 have HP:=hid (JP.out w3)
 have Hwr3:=hid hwr3
 have Hk3:=hid hk3
 clear hwr3 hk3 hQ3 HN HQ2 k0 hlt2 JP
 go_wp2_with fail
 refine Calls.mono HP.out ?_
 rintro e w4 ⟨v,rfl,hJ,hb4⟩
 have hwr4:=Hwr3.out.below hb4
 have hl4:([] ++ aO (Int.toNat q.kind)).length≤90000000:=by rw [List.nil_append]; have:=cH (Int.toNat q.kind); omega
 have Ih:=hid (Kr.out w1.heap.size w1.heap.size _ v w4 hJ hwr4 hl4)
 have hm:=HMh.out v w4 hJ
 have JQ:=Hk3.out.below (Nat.le_refl _) Hsz.out
 have HB4:=hid ((HB2.out.trans (JQ.mono (Nat.le_of_lt Ii.out))).trans (hb4.mono (HB2.out.trans (JQ.mono (Nat.le_of_lt Ii.out))).size))
 have Hs4:=hid (Nat.le_trans Hsz.out (Nat.le_trans JQ.size hb4.size))
 clear hJ hb4 hwr4 hl4 JQ HP Hwr3 Hk3 HMh Kr d0 d1 d2 d3 d4 d5 d6 d7 d8 d9 d10 d11 d12 d13 hlt3
 go_wp2_with fail
 refine Calls.mono Ih.out ?_
 rintro e w5 ⟨rfl,hwr5,hk5⟩
 have HK5:=hid (HB4.out.trans ((hk5.below (Nat.le_refl _) Hs4.out).mono (Nat.le_of_lt Ii.out)))
 obtain⟨_,AA,m,cc,hBW,ho⟩:=hwr5.at_
 have z0:w5.cell? ⟨w1.heap.size,0,none⟩=some (.slice AA m cc):=hBW.cell 0
 have hlw5:=hBW.lt
 have hrun:=eU (P:=Tryz.prog) Tryz.underlying84 Tryz.underlying5 Tryz.underlying9 ho
 clear hwr5 hk5 hBW ho Ih hm
 go_wp2
 go_ret2
 exact⟨rfl,HK5.out⟩
end Go.Proofs.YtbllgmociapjeaaGreatDoor
/- req.Decode at the bytes of any request that may be. -/
namespace Go.Proofs.YtbllgmociapjeaaGreatDoor
open Go.Lib (hid)
open Go.RowKit
theorem rP {c:Prop} [Decidable c] {a:Int} (ha:a≠0) (h:(if c then 0 else a)=0):c:=by
 by_cases hc:c
 · exact hc
 · rw [if_neg hc] at h; exact absurd h ha
theorem yx (q:aF) (w:World) (hk:q.kind=1) (h0:cu q=0) (hok:ROk q) (hT:Tabs w):Calls Tryz.prog 62 #[.string (BA (aO 1 ++ (eG q.job 3)))] w (eK q 0 w):=by
 obtain⟨-,how,hp⟩:=cS h0
 have how:(⟨q.kind,q.job,dw,cC,⟨#[]⟩,0⟩:aF)=q:=(show iK q=_ by unfold iK; simp [hk]).symm.trans how
 rw [show bR q=(fB q.job) by unfold bR; simp [hk]] at hp
 have hpe:fB q.job=0:=hp
 refine gC q 1 (by omega) (eG q.job 3) (by have:=lA q.job 3; omega) w 169 273 (fun B v w=>∃ P,v = .pointer (some ⟨P,0,none⟩)∧B≤P∧Blk w P 171 #[.string ⟨#[]⟩,.int .i64 0,.int .i64 0,.int .i64 0,.string ⟨#[]⟩]) (fun g v w=>∃ P,v = .pointer (some ⟨P,0,none⟩)∧g<P∧Blk w P 171 #[.string q.job.name,.int .i64 q.job.prio,.int .i64 q.job.need,.int .i64 q.job.tries,.string q.job.tag]) hT (fun _ _=>rfl) (fun _ _=>by kernel_rfl) (fun w=>(Cy (eI 1) w rfl).mono fun e w' h=>?_) ?_ ?_ ?_ ?_ (fun w' hb=>?_)
 · obtain⟨P,rfl,hP,h,hb⟩:=h
   exact⟨_,rfl,⟨P,rfl,hP,h⟩,hb⟩
 · rintro B v w ⟨P,rfl,hP,h⟩ w'
   kernel_rfl
 · rintro B v w g ⟨P,rfl,hP,h⟩ hg hr
   refine (EH g P (q.job) _ w h hr (by have:=EI hpe []; rwa [List.append_nil] at this) (by omega)).mono ?_
   rintro e w' ⟨he,⟨h1,h2⟩,h3,h4⟩
   exact⟨he,⟨P,rfl,h1,h2⟩,h3,h4⟩
 · rintro g v w w' ⟨P,rfl,hg,h⟩ hgr
   exact⟨P,rfl,hg,aD hgr h (Nat.ne_of_gt hg)⟩
 · rintro g v w ⟨P,rfl,hg,h⟩
   have h:=yt q P w h
   rw [how,hk] at h
   exact h
 · have h:=cE q w' hok (hT.below hb)
   rw [h0] at h
   exact h
theorem EK (q:aF) (w:World) (hk:q.kind=2) (h0:cu q=0) (hok:ROk q) (hT:Tabs w):Calls Tryz.prog 62 #[.string (BA (aO 2 ++ (cN q.node 3)))] w (eK q 0 w):=by
 obtain⟨-,how,hp⟩:=cS h0
 have how:(⟨q.kind,gV,q.node,cC,⟨#[]⟩,0⟩:aF)=q:=(show iK q=_ by unfold iK; simp [hk]).symm.trans how
 rw [show bR q=(dO q.node) by unfold bR; simp [hk]] at hp
 have hpe:dO q.node=0:=hp
 refine gC q 2 (by omega) (cN q.node 3) (by have:=jF q.node 3; omega) w 172 282 (fun B v w=>∃ P,v = .pointer (some ⟨P,0,none⟩)∧B≤P∧Blk w P 174 #[.string ⟨#[]⟩,.int .i64 0,.string ⟨#[]⟩]) (fun g v w=>∃ P,v = .pointer (some ⟨P,0,none⟩)∧g<P∧Blk w P 174 #[.string q.node.name,.int .i64 q.node.room,.string q.node.zone]) hT (fun _ _=>rfl) (fun _ _=>by kernel_rfl) (fun w=>(Cz (eI 2) w rfl).mono fun e w' h=>?_) ?_ ?_ ?_ ?_ (fun w' hb=>?_)
 · obtain⟨P,rfl,hP,h,hb⟩:=h
   exact⟨_,rfl,⟨P,rfl,hP,h⟩,hb⟩
 · rintro B v w ⟨P,rfl,hP,h⟩ w'
   kernel_rfl
 · rintro B v w g ⟨P,rfl,hP,h⟩ hg hr
   refine (CN g P (q.node) _ w h hr (by have:=CO hpe []; rwa [List.append_nil] at this) (by omega)).mono ?_
   rintro e w' ⟨he,⟨h1,h2⟩,h3,h4⟩
   exact⟨he,⟨P,rfl,h1,h2⟩,h3,h4⟩
 · rintro g v w w' ⟨P,rfl,hg,h⟩ hgr
   exact⟨P,rfl,hg,aD hgr h (Nat.ne_of_gt hg)⟩
 · rintro g v w ⟨P,rfl,hg,h⟩
   have h:=wI q P w h
   rw [how,hk] at h
   exact h
 · have h:=cE q w' hok (hT.below hb)
   rw [h0] at h
   exact h
theorem EL (q:aF) (w:World) (hk:q.kind=5) (h0:cu q=0) (hok:ROk q) (hT:Tabs w):Calls Tryz.prog 62 #[.string (BA (aO 5 ++ (dL q.lease)))] w (eK q 0 w):=by
 obtain⟨-,how,hp⟩:=cS h0
 have how:(⟨q.kind,gV,dw,q.lease,⟨#[]⟩,0⟩:aF)=q:=(show iK q=_ by unfold iK; simp [hk]).symm.trans how
 rw [show bR q=(lsE q.lease) by unfold bR; simp [hk]] at hp
 have hpe:lsE q.lease=0:=hp
 refine gC q 5 (by omega) (dL q.lease) (by have:=jG q.lease; omega) w 175 287 (fun B v w=>∃ P,v = .pointer (some ⟨P,0,none⟩)∧B≤P∧Blk w P 177 #[.string ⟨#[]⟩,.string ⟨#[]⟩,.int .i64 0]) (fun g v w=>∃ P,v = .pointer (some ⟨P,0,none⟩)∧g<P∧Blk w P 177 #[.string q.lease.job,.string q.lease.node,.int .i64 q.lease.till]) hT (fun _ _=>rfl) (fun _ _=>by kernel_rfl) (fun w=>(CA (eI 5) w rfl).mono fun e w' h=>?_) ?_ ?_ ?_ ?_ (fun w' hb=>?_)
 · obtain⟨P,rfl,hP,h,hb⟩:=h
   exact⟨_,rfl,⟨P,rfl,hP,h⟩,hb⟩
 · rintro B v w ⟨P,rfl,hP,h⟩ w'
   kernel_rfl
 · rintro B v w g ⟨P,rfl,hP,h⟩ hg hr
   refine (A9 g P (q.lease) _ w h hr (by have:=Ba hpe []; rwa [List.append_nil] at this) (by omega)).mono ?_
   rintro e w' ⟨he,⟨h1,h2⟩,h3,h4⟩
   exact⟨he,⟨P,rfl,h1,h2⟩,h3,h4⟩
 · rintro g v w w' ⟨P,rfl,hg,h⟩ hgr
   exact⟨P,rfl,hg,aD hgr h (Nat.ne_of_gt hg)⟩
 · rintro g v w ⟨P,rfl,hg,h⟩
   have h:=tW q P w h
   rw [how,hk] at h
   exact h
 · have h:=cE q w' hok (hT.below hb)
   rw [h0] at h
   exact h
theorem EM (q:aF) (w:World) (hk:q.kind=3) (h0:cu q=0) (hok:ROk q) (hT:Tabs w):Calls Tryz.prog 62 #[.string (BA (aO 3 ++ (dN q.name)))] w (eK q 0 w):=by
 obtain⟨-,how,hp⟩:=cS h0
 have how:(⟨q.kind,gV,dw,cC,q.name,0⟩:aF)=q:=(show iK q=_ by unfold iK; simp [hk]).symm.trans how
 rw [show bR q=(if bF q.name then 0 else 4) by unfold bR; simp [hk]] at hp
 have hpe:bF q.name=true:=rP (by decide) hp
 refine gC q 3 (by omega) (dN q.name) (by have:=cU q.name; omega) w 179 292 (fun B v w=>∃ P,v = .pointer (some ⟨P,0,none⟩)∧B≤P∧Blk w P 178 #[.string ⟨#[]⟩]) (fun g v w=>∃ P,v = .pointer (some ⟨P,0,none⟩)∧g<P∧Blk w P 178 #[.string q.name]) hT (fun _ _=>rfl) (fun _ _=>by kernel_rfl) (fun w=>(CC (eI 3) w rfl).mono fun e w' h=>?_) ?_ ?_ ?_ ?_ (fun w' hb=>?_)
 · obtain⟨P,rfl,hP,h,hb⟩:=h
   exact⟨_,rfl,⟨P,rfl,hP,h⟩,hb⟩
 · rintro B v w ⟨P,rfl,hP,h⟩ w'
   kernel_rfl
 · rintro B v w g ⟨P,rfl,hP,h⟩ hg hr
   refine (qD g P (q.name) _ w h hr (by have:=gD (lX hpe) []; rwa [List.append_nil] at this) (by omega)).mono ?_
   rintro e w' ⟨he,⟨h1,h2⟩,h3,h4⟩
   exact⟨he,⟨P,rfl,h1,h2⟩,h3,h4⟩
 · rintro g v w w' ⟨P,rfl,hg,h⟩ hgr
   exact⟨P,rfl,hg,aD hgr h (Nat.ne_of_gt hg)⟩
 · rintro g v w ⟨P,rfl,hg,h⟩
   have h:=jN q P w h
   rw [how,hk] at h
   exact h
 · have h:=cE q w' hok (hT.below hb)
   rw [h0] at h
   exact h
theorem EO (q:aF) (w:World) (hk:q.kind=4) (h0:cu q=0) (hok:ROk q) (hT:Tabs w):Calls Tryz.prog 62 #[.string (BA (aO 4 ++ (dN q.name)))] w (eK q 0 w):=by
 obtain⟨-,how,hp⟩:=cS h0
 have how:(⟨q.kind,gV,dw,cC,q.name,0⟩:aF)=q:=(show iK q=_ by unfold iK; simp [hk]).symm.trans how
 rw [show bR q=(if bF q.name then 0 else 4) by unfold bR; simp [hk]] at hp
 have hpe:bF q.name=true:=rP (by decide) hp
 refine gC q 4 (by omega) (dN q.name) (by have:=cU q.name; omega) w 179 292 (fun B v w=>∃ P,v = .pointer (some ⟨P,0,none⟩)∧B≤P∧Blk w P 178 #[.string ⟨#[]⟩]) (fun g v w=>∃ P,v = .pointer (some ⟨P,0,none⟩)∧g<P∧Blk w P 178 #[.string q.name]) hT (fun _ _=>rfl) (fun _ _=>by kernel_rfl) (fun w=>(CD (eI 4) w rfl).mono fun e w' h=>?_) ?_ ?_ ?_ ?_ (fun w' hb=>?_)
 · obtain⟨P,rfl,hP,h,hb⟩:=h
   exact⟨_,rfl,⟨P,rfl,hP,h⟩,hb⟩
 · rintro B v w ⟨P,rfl,hP,h⟩ w'
   kernel_rfl
 · rintro B v w g ⟨P,rfl,hP,h⟩ hg hr
   refine (qD g P (q.name) _ w h hr (by have:=gD (lX hpe) []; rwa [List.append_nil] at this) (by omega)).mono ?_
   rintro e w' ⟨he,⟨h1,h2⟩,h3,h4⟩
   exact⟨he,⟨P,rfl,h1,h2⟩,h3,h4⟩
 · rintro g v w w' ⟨P,rfl,hg,h⟩ hgr
   exact⟨P,rfl,hg,aD hgr h (Nat.ne_of_gt hg)⟩
 · rintro g v w ⟨P,rfl,hg,h⟩
   have h:=jN q P w h
   rw [how,hk] at h
   exact h
 · have h:=cE q w' hok (hT.below hb)
   rw [h0] at h
   exact h
theorem EP (q:aF) (w:World) (hk:q.kind=6) (h0:cu q=0) (hok:ROk q) (hT:Tabs w):Calls Tryz.prog 62 #[.string (BA (aO 6 ++ (dN q.name)))] w (eK q 0 w):=by
 obtain⟨-,how,hp⟩:=cS h0
 have how:(⟨q.kind,gV,dw,cC,q.name,0⟩:aF)=q:=(show iK q=_ by unfold iK; simp [hk]).symm.trans how
 rw [show bR q=(if bF q.name then 0 else 4) by unfold bR; simp [hk]] at hp
 have hpe:bF q.name=true:=rP (by decide) hp
 refine gC q 6 (by omega) (dN q.name) (by have:=cU q.name; omega) w 179 292 (fun B v w=>∃ P,v = .pointer (some ⟨P,0,none⟩)∧B≤P∧Blk w P 178 #[.string ⟨#[]⟩]) (fun g v w=>∃ P,v = .pointer (some ⟨P,0,none⟩)∧g<P∧Blk w P 178 #[.string q.name]) hT (fun _ _=>rfl) (fun _ _=>by kernel_rfl) (fun w=>(CF (eI 6) w rfl).mono fun e w' h=>?_) ?_ ?_ ?_ ?_ (fun w' hb=>?_)
 · obtain⟨P,rfl,hP,h,hb⟩:=h
   exact⟨_,rfl,⟨P,rfl,hP,h⟩,hb⟩
 · rintro B v w ⟨P,rfl,hP,h⟩ w'
   kernel_rfl
 · rintro B v w g ⟨P,rfl,hP,h⟩ hg hr
   refine (qD g P (q.name) _ w h hr (by have:=gD (lX hpe) []; rwa [List.append_nil] at this) (by omega)).mono ?_
   rintro e w' ⟨he,⟨h1,h2⟩,h3,h4⟩
   exact⟨he,⟨P,rfl,h1,h2⟩,h3,h4⟩
 · rintro g v w w' ⟨P,rfl,hg,h⟩ hgr
   exact⟨P,rfl,hg,aD hgr h (Nat.ne_of_gt hg)⟩
 · rintro g v w ⟨P,rfl,hg,h⟩
   have h:=jN q P w h
   rw [how,hk] at h
   exact h
 · have h:=cE q w' hok (hT.below hb)
   rw [h0] at h
   exact h
theorem EQ (q:aF) (w:World) (hk:q.kind=7) (h0:cu q=0) (hok:ROk q) (hT:Tabs w):Calls Tryz.prog 62 #[.string (BA (aO 7 ++ (aO q.n.toNat)))] w (eK q 0 w):=by
 obtain⟨-,how,hp⟩:=cS h0
 have how:(⟨q.kind,gV,dw,cC,⟨#[]⟩,q.n⟩:aF)=q:=(show iK q=_ by unfold iK; simp [hk]).symm.trans how
 rw [show bR q=(if ranged q.n 0 1099511627776 then 0 else 1) by unfold bR; simp [hk]] at hp
 have hpe:ranged q.n 0 1099511627776=true:=rP (by decide) hp
 refine gC q 7 (by omega) (aO q.n.toNat) (by have:=cH q.n.toNat; omega) w 181 296 (fun B v w=>∃ P,v = .pointer (some ⟨P,0,none⟩)∧B≤P∧Blk w P 180 #[.int .i64 0]) (fun g v w=>∃ P,v = .pointer (some ⟨P,0,none⟩)∧g<P∧Blk w P 180 #[.int .i64 (q.n.toNat:Int)]) hT (fun _ _=>rfl) (fun _ _=>by kernel_rfl) (fun w=>(CG (eI 7) w rfl).mono fun e w' h=>?_) ?_ ?_ ?_ ?_ (fun w' hb=>?_)
 · obtain⟨P,rfl,hP,h,hb⟩:=h
   exact⟨_,rfl,⟨P,rfl,hP,h⟩,hb⟩
 · rintro B v w ⟨P,rfl,hP,h⟩ w'
   kernel_rfl
 · rintro B v w g ⟨P,rfl,hP,h⟩ hg hr
   refine (Bb g P (q.n.toNat) _ w h hr (by have h:=aL.1 hpe; have:=jP q.n.toNat (by omega) []; rwa [List.append_nil] at this) (by omega)).mono ?_
   rintro e w' ⟨he,⟨h1,h2⟩,h3,h4⟩
   exact⟨he,⟨P,rfl,h1,h2⟩,h3,h4⟩
 · rintro g v w w' ⟨P,rfl,hg,h⟩ hgr
   exact⟨P,rfl,hg,aD hgr h (Nat.ne_of_gt hg)⟩
 · rintro g v w ⟨P,rfl,hg,h⟩
   rw [Int.toNat_of_nonneg (aL.1 hpe).1] at h
   have h:=tX q P w h
   rw [how,hk] at h
   exact h
 · have h:=cE q w' hok (hT.below hb)
   rw [h0] at h
   exact h
theorem ER (q:aF) (w:World) (hk:q.kind=8) (h0:cu q=0) (hok:ROk q) (hT:Tabs w):Calls Tryz.prog 62 #[.string (BA (aO 8 ++ []))] w (eK q 0 w):=by
 obtain⟨-,how,hp⟩:=cS h0
 have how:eI q.kind=q:=(show iK q=_ by unfold iK; simp [hk,eI]).symm.trans how
 refine gC q 8 (by omega) [] (by simp) w 183 300 (fun _ v _=>v = .agg #[]) (fun _ v _=>v = .agg #[]) hT (fun _ _=>rfl) (fun _ _=>by kernel_rfl) (fun w=>(CP (eI 8) w rfl).mono fun e w' h=>⟨_,h.1,rfl,h.2⟩) ?_ ?_ (fun _ _ _ _ h _=>h) ?_ (fun w' hb=>?_)
 · rintro B v w rfl w'
   kernel_rfl
 · rintro B v w g rfl hg hr
   refine (wP _ w).mono ?_
   rintro e w' ⟨he,hb⟩
   exact⟨he,rfl,hr.next (hr.at_.grow (fK _ hb) (Nat.ne_of_lt hr.at_.lt)) hr.good (fK _ hb),hb.mono (Nat.le_of_lt hr.at_.lt)⟩
 · rintro g v w rfl
   have h:=nH q w
   rw [how,hk] at h
   exact h
 · have h:=cE q w' hok (hT.below hb)
   rw [h0] at h
   exact h
theorem ES (q:aF) (w:World) (hk:q.kind=9) (h0:cu q=0) (hok:ROk q) (hT:Tabs w):Calls Tryz.prog 62 #[.string (BA (aO 9 ++ []))] w (eK q 0 w):=by
 obtain⟨-,how,hp⟩:=cS h0
 have how:eI q.kind=q:=(show iK q=_ by unfold iK; simp [hk,eI]).symm.trans how
 refine gC q 9 (by omega) [] (by simp) w 183 300 (fun _ v _=>v = .agg #[]) (fun _ v _=>v = .agg #[]) hT (fun _ _=>rfl) (fun _ _=>by kernel_rfl) (fun w=>(CQ (eI 9) w rfl).mono fun e w' h=>⟨_,h.1,rfl,h.2⟩) ?_ ?_ (fun _ _ _ _ h _=>h) ?_ (fun w' hb=>?_)
 · rintro B v w rfl w'
   kernel_rfl
 · rintro B v w g rfl hg hr
   refine (wP _ w).mono ?_
   rintro e w' ⟨he,hb⟩
   exact⟨he,rfl,hr.next (hr.at_.grow (fK _ hb) (Nat.ne_of_lt hr.at_.lt)) hr.good (fK _ hb),hb.mono (Nat.le_of_lt hr.at_.lt)⟩
 · rintro g v w rfl
   have h:=nH q w
   rw [how,hk] at h
   exact h
 · have h:=cE q w' hok (hT.below hb)
   rw [h0] at h
   exact h
theorem BZ (q:aF) (w:World) (h0:cu q=0) (hok:ROk q) (hT:Tabs w):Calls Tryz.prog 62 #[.string (BA (gZ q))] w (eK q 0 w):=by
 have hr:=aL.1 (cS h0).1
 have:q.kind=1∨q.kind=2∨q.kind=3∨q.kind=4∨q.kind=5∨q.kind=6∨q.kind=7∨q.kind=8∨q.kind=9:=by omega
 rcases this with h | h | h | h | h | h | h | h | h
 · rw [show gZ q=aO 1 ++ _ by unfold gZ; rw [h]; rfl,show dH q=_ by unfold dH; simp only [h]; rfl]
   exact yx q w h h0 hok hT
 · rw [show gZ q=aO 2 ++ _ by unfold gZ; rw [h]; rfl,show dH q=_ by unfold dH; simp only [h]; rfl]
   exact EK q w h h0 hok hT
 · rw [show gZ q=aO 3 ++ _ by unfold gZ; rw [h]; rfl,show dH q=_ by unfold dH; simp only [h]; rfl]
   exact EM q w h h0 hok hT
 · rw [show gZ q=aO 4 ++ _ by unfold gZ; rw [h]; rfl,show dH q=_ by unfold dH; simp only [h]; rfl]
   exact EO q w h h0 hok hT
 · rw [show gZ q=aO 5 ++ _ by unfold gZ; rw [h]; rfl,show dH q=_ by unfold dH; simp only [h]; rfl]
   exact EL q w h h0 hok hT
 · rw [show gZ q=aO 6 ++ _ by unfold gZ; rw [h]; rfl,show dH q=_ by unfold dH; simp only [h]; rfl]
   exact EP q w h h0 hok hT
 · rw [show gZ q=aO 7 ++ _ by unfold gZ; rw [h]; rfl,show dH q=_ by unfold dH; simp only [h]; rfl]
   exact EQ q w h h0 hok hT
 · rw [show gZ q=aO 8 ++ _ by unfold gZ; rw [h]; rfl,show dH q=_ by unfold dH; simp only [h]; rfl]
   exact ER q w h h0 hok hT
 · rw [show gZ q=aO 9 ++ _ by unfold gZ; rw [h]; rfl,show dH q=_ by unfold dH; simp only [h]; rfl]
   exact ES q w h h0 hok hT
end Go.Proofs.YtbllgmociapjeaaGreatDoor
/- req.Decode at the bytes of a job that is put. -/
namespace Go.Proofs.YtbllgmociapjeaaGreatDoor
open Go.Lib (hid)
open Go.RowKit
theorem Gn (x:aC) (w:World) (hx:fB x=0) (hT:Tabs w) :
 Calls Tryz.prog 62 #[.string (BA (aO 1 ++ eG x 3))] w (eK ⟨1,x,dw,cC,⟨#[]⟩,0⟩ 0 w):=by
 have hjw:=bO (gI hx).1
 have hjt:=gy (gI hx).2.1
 refine yx ⟨1,x,dw,cC,⟨#[]⟩,0⟩ w rfl ?_ ⟨by show x.name.size≤_; omega,by show x.tag.size≤_; omega,(by decide:dw.name.size≤9223372036854775807),(by decide:dw.zone.size≤9223372036854775807),(by decide:cC.job.size≤9223372036854775807),(by decide:cC.node.size≤9223372036854775807),(by decide:ByteArray.size ⟨#[]⟩≤9223372036854775807)⟩ hT
 have h1:ranged (⟨1,x,dw,cC,⟨#[]⟩,0⟩:aF).kind 1 9=true:=by show ranged 1 1 9=true; decide
 unfold cu
 rw [if_neg (by rw [h1]; simp),if_neg (by simp [iK])]
 exact hx
end Go.Proofs.YtbllgmociapjeaaGreatDoor
/- Words for the walks of laws that ask a server. -/
namespace Go.Proofs.YtbllgmociapjeaaGreatDoor
open Go.Lib (hid)
open Go.RowKit
theorem Le {q:aF} (h:qI q):ROk q:=⟨h.job.1,h.job.2.2.2.2,h.node.1,h.node.2.2,h.lease.1,h.lease.2.1,h.name⟩
theorem zx {ops:Array Oper} {o p:Oper} {a:Act} {j t:Nat} {b:Bool} (h1:ops[j]? = some p) (h2:p.dst=some t) (h3:a.tmps[t]? = some (.bool b)) (h4:o.guard=some (j,b)):Region.wanted o (yielded ops a.tmps)=true:=by
 unfold Region.wanted yielded
 rw [h4]
 simp only [h1,Option.bind_some,h2,h3]
 cases b <;> rfl
theorem CR {P:Program} {ops:Array Oper} {o p:Oper} {a:Act} {w:World} {j t:Nat} (b:Bool) {K:Act→World→Prop} {Q:Exit→Act→World→Prop} (h1:ops[j]? = some p) (h2:p.dst=some t) (h4:o.guard=some (j,b)) (h3:∃ u,a.tmps[t]? = some u∧u = .bool b) (ht:o.wp P a w K Q):nF P ops o a w K Q:=by
 obtain⟨u,h3,rfl⟩:=h3
 unfold nF
 rw [zx h1 h2 h3 h4,if_pos rfl]
 exact ht
theorem okR {Γ:Type} {P:Program} {ops:Array Oper} {V:Γ→Nat→Value→Prop} {a0:Act} {S:List Nat} {Ph:Nat→Γ→World→Prop} {Q:Exit→Act→World→Prop} {i:Nat} {o p0:Oper} (b:Bool) (j t:Nat) (h1:ops[j]? = some p0) (h2:p0.dst=some t) (hg:o.guard=some (j,b)) (hv:∀ γ u,V γ j u→u = .bool b)
 (h:∀ p γ a w,0≤p→p≤0→Ph p γ w→Knows ops (V γ) a0 i o a→o.wp P a w (fun a' w'=>∃ u γ',a'=a.put o.dst u∧(∀ j v,j≠i→V γ j v→V γ' j v)∧V γ' i u∧Ph p γ' w') Q)
 (h0:i ∉ S:=by decide) (hl:loB S o 0=true:=by decide +kernel) (hh:hiB ops S i 0=true:=by decide +kernel) (h3:waitsFor o j=true:=by decide +kernel):wm P ops V S Ph a0 Q i o:=
 .inr ⟨h0,0,0,hl,hh,fun p γ a w hpl hph hp hk=>CR b h1 h2 hg (by obtain⟨u,hu,hV⟩:=hk.g j t h1 h2 h3; exact⟨u,hu,hv γ u hV⟩) (h p γ a w hpl hph hp hk)⟩
theorem SrvAt.drew {w:World} {T:TypeId} {B:Nat} {st:ah} {x:StA} {now:Int} (h:SrvAt w T B st x now):SrvAt w.drew T B st x now:=⟨h.blk,h.at_.drew,h.ok,h.t⟩
end Go.Proofs.YtbllgmociapjeaaGreatDoor
