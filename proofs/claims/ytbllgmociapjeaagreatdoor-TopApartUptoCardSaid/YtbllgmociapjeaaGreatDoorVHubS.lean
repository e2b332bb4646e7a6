/- Of the proof of a statement: HubS, Works. -/
import Derived.Test.YtbllgmociapjeaaGreatDoorVHubG
import Derived.Test.YtbllgmociapjeaaGreatDoorVHubW
set_option linter.unusedVariables false
set_option linter.unusedSimpArgs false
set_option maxRecDepth 100000
set_option maxHeartbeats 8000000
/- The walks of a hub's frame at every frame, and of Send. -/
namespace Go.Proofs.YtbllgmociapjeaaGreatDoor
open Go.Lib (hid)
open Go.RowKit
theorem gW.after {g V:Nat} {fb:Nat→Nat} {wv wv1:Nat→Value} {H:dM} {r:Value} {w w1 w':World} {e:Ending} (t:cT g V fb wv wv1 w w1) (h:gW g V fb wv1 H r w1 e w'):gW g V fb wv H r w e w':=by
 obtain⟨h1,wv',x',h2,h3⟩:=h
 exact⟨h1,wv',x',h2,t.trans h3⟩
theorem B1 (tl:ah→List UInt8) (rq:ByteArray→aF × Int) {g V k:Nat} {fb:Nat→Nat} {wv:Nat→Value} {H:dM} {x:StA} {wb:World} (w:World) (f:dD) (h:bL w g V fb wv H.cs H.st x H.now) (hk:k<8) (hI:jZ wb w g V fb wv)
 (hrq:f.ver=3→f.kind=3→∀ W,Tabs W→Calls Tryz.prog 62 #[.string f.pay] W (eK (rq f.pay).1 (rq f.pay).2 W)) (hok:ROk (rq f.pay).1) (ht:((∀ i,i<8→(H.cs i).aH=false)∧¬ lB (rq f.pay).1)∨oQ tl) (htl:∀ st,(tl st).length≤7000) (hl:∀ i,i<8→(H.cs i).waits.length≤35184371000000) :
 Calls Tryz.prog 38 #[.pointer (some ⟨g,0,none⟩),.pointer (some ⟨g,1+k*4,none⟩),.agg #[.int .i64 (f.ver:Int),.int .i64 (f.kind:Int),.string f.pay]] w (gW g V fb wv (gP tl rq H k f) (.tuple #[]) w):=by
 obtain⟨ver,kind,pay⟩:=f
 dsimp only at hrq hok ht ⊢
 by_cases hg:ver=3∧kind=3
 · obtain⟨rfl,rfl⟩:=hg
   by_cases he:(rq pay).2=0
   · have hq:=hrq rfl rfl
     rw [he] at hq
     have hF:gP tl rq H k ⟨3,3,pay⟩=eV tl H k (rq pay).1:=by unfold gP; rw [if_neg (by simp),if_neg (by simpa using he)]
     rw [hF]
     exact F8 tl w pay (rq pay).1 h hk hI hq hok ht htl hl
   · have hF:gP tl rq H k ⟨3,3,pay⟩=iA H k (rq pay).2:=by unfold gP; rw [if_neg (by simp),if_pos he]
     rw [hF]
     obtain⟨W,hW⟩:∃ W,w.alloc (.cells #[.int .i64 3,.int .i64 3,.string pay] 40)=W:=⟨_,rfl⟩
     have hbW:Below w.heap.size w W:=by rw [← hW]; exact (Below.refl _ _).alloc (Nat.le_refl _) _
     have hb:Blk W w.heap.size 40 #[.int .i64 3,.int .i64 3,.string pay]:=by rw [← hW]; exact heap_alloc_new w _
     have HDc:=hid (hrq rfl rfl W (hI.more hbW).at_)
     have c0:W.cell? ⟨w.heap.size,0,none⟩=some (.int .i64 3):=hb.cell 0
     have c1:W.cell? ⟨w.heap.size,1,none⟩=some (.int .i64 3):=hb.cell 1
     have c2:W.cell? ⟨w.heap.size,2,none⟩=some (.string pay):=hb.cell 2
     have hlW:=hb.lt
     obtain⟨q,hq⟩:∃ q,(rq pay).1=q:=⟨_,rfl⟩
     obtain⟨E,hE⟩:∃ E,(rq pay).2=E:=⟨_,rfl⟩
     rw [hq,hE] at HDc
     rw [hE] at he ⊢
     have d0:(E != 0)=true:=bne_iff_ne.2 he
     have HW:=hid hW
     have Hh:=hid (h.below hbW)
     have HT:=hid ((cT.refl g V fb wv w).below_ hbW)
     have Hl:=hid (hl k hk)
     clear hbW hb hW h hI hrq hl ht htl hok hq hE he hF
     go_enter Tryz.func38,Tryz.ntmps38
     go_wp2_with fail
     try simp only [HW.out]
     clear HW
     refine Calls.mono HDc.out ?_
     rintro e w2 ⟨rfl,hb2⟩
     obtain⟨w3,hw3⟩:∃ w3,w2.alloc (.cells (aN q) 38)=w3:=⟨_,rfl⟩
     have hb3:Below w2.heap.size w2 w3:=by rw [← hw3]; exact (Below.refl _ _).alloc (Nat.le_refl _) _
     have HC:=hid (rY w3 ((Hh.out.below hb2).below hb3) hk E (by have:=Hl.out; omega))
     have HT3:=hid ((HT.out.below_ hb2).below_ hb3)
     have Hw3:=hid hw3
     clear hw3 hb2 hb3 Hh HT HDc c0 c1 c2
     unfold bH
     unfold aN at Hw3 ⊢
     go_wp2_with fail
     simp only [Hw3.out]
     clear Hw3
     refine Calls.mono HC.out ?_
     rintro e w4 hp
     have P:=hid (hp.after HT3.out)
     obtain⟨rfl,_⟩:=hp
     clear HC HT3
     go_wp2
     go_end0
     exact P.out
 · have hF:gP tl rq H k ⟨ver,kind,pay⟩=iA H k 1:=by unfold gP; rw [if_pos (by dsimp only; omega)]
   rw [hF]
   obtain⟨W,hW⟩:∃ W,w.alloc (.cells #[.int .i64 (ver:Int),.int .i64 (kind:Int),.string pay] 40)=W:=⟨_,rfl⟩
   have hbW:Below w.heap.size w W:=by rw [← hW]; exact (Below.refl _ _).alloc (Nat.le_refl _) _
   have hb:Blk W w.heap.size 40 #[.int .i64 (ver:Int),.int .i64 (kind:Int),.string pay]:=by rw [← hW]; exact heap_alloc_new w _
   obtain⟨c0,c1⟩:=Blk.c2 (hb)
   have hlW:=hb.lt
   have HC:=hid (rY W (h.below hbW) hk 1 (by have:=hl k hk; omega))
   have HT:=hid ((cT.refl g V fb wv w).below_ hbW)
   have HW:=hid hW
   have hcase:((ver:Int) != 3)=true∨(((ver:Int) != 3)=false∧((kind:Int) != 3)=true):=by
    by_cases hv:ver=3
    · subst hv
      exact .inr ⟨rfl,bne_iff_ne.2 (by omega)⟩
    · exact .inl (bne_iff_ne.2 (by omega))
   clear hbW hb hW h hI hrq hl ht htl hok hF hg
   rcases hcase with d0 | ⟨d0,d1⟩
   all_goals
    go_enter Tryz.func38,Tryz.ntmps38
    go_wp2_with fail
    try simp only [HW.out]
    clear HW
    refine Calls.mono HC.out ?_
    rintro e w4 hp
    have P:=hid (hp.after HT.out)
    obtain⟨rfl,_⟩:=hp
    clear HC HT c0 c1
    go_wp2
    go_end0
    exact P.out
def Jf (tl:ah→List UInt8) (rq:ByteArray→aF × Int) (g V:Nat) (fb:Nat→Nat) (wv:Nat→Value) (k:Nat) (H:dM) (fs:List dD) (n:Nat) (w:World) (i:Value) (wr:World):Prop:=
 ∃ m wv' x',m≤n∧i = .int .i64 ((m:Nat):Int)∧bL wr g V fb wv' (dE tl rq k H (fs.take m)).cs (dE tl rq k H (fs.take m)).st x' (dE tl rq k H (fs.take m)).now∧cT g V fb wv wv' w wr
def rz (g V:Nat) (fb:Nat→Nat) (wv:Nat→Value) (H:dM) (k:Nat) (w:World) (e:Ending) (w':World):Prop:=
 e = .returned (.tuple #[.string (BA (H.cs k).waits),.int .i64 0])∧∃ wv' x',bL w' g V fb wv' (lC H k).cs H.st x' H.now∧cT g V fb wv wv' w w'
theorem bL.flush {w:World} {g V k:Nat} {fb:Nat→Nat} {wv:Nat→Value} {cs:Nat→bQ} {st:ah} {x:StA} {now:Int} (h:bL w g V fb wv cs st x now) (hk:k<8) :
 bL (w.setCell ⟨g,1+k*4+3,none⟩ (.slice none 0 0)) g V fb (upd wv k (.slice none 0 0)) (upd cs k (rV (cs k))) st x now∧cT g V fb wv (upd wv k (.slice none 0 0)) w (w.setCell ⟨g,1+k*4+3,none⟩ (.slice none 0 0)):=by
 obtain⟨h1,h2⟩:=h.cell hk (j:=1+k*4+3) (u:=.slice none 0 0) (c:=rV (cs k)) (v:=.slice none 0 0) (pO hk _ _ rfl rfl) rfl rfl rfl (.inr ⟨rfl,rfl⟩)
 refine⟨h1,h2,fun i hi=>?_⟩
 by_cases e:i=k
 · subst e; rw [bB]; exact .inl rfl
 · rw [upd_ne _ _ e]; exact .inr (.inl rfl)
theorem Jg (e:Nat):(((if e=3 then 0 else e):Nat):Int)=if e=3 then 0 else (e:Int):=by split <;> rfl
theorem sL (tl:ah→List UInt8) (rq:ByteArray→aF × Int) {g V k:Nat} {fb:Nat→Nat} {wv:Nat→Value} {H:dM} {x:StA} {wb:World} {s:ByteArray} {fs:List dD} {m e:Nat} (w:World) (p:ByteArray) (hs:(H.cs k).rest ++ p=s) (hF:Frs s fs m e) (h:bL w g V fb wv H.cs H.st x H.now) (hk:k<8) (hI:jZ wb w g V fb wv)
 (hc:(H.cs k).closed=false) (hst:(H.cs k).stuck=0) (hsz:s.size≤2097152) (Gd:(H.cs k).far≤2097152)
 (hrq:∀ f ∈ fs,f.ver=3→f.kind=3→∀ W,Tabs W→Calls Tryz.prog 62 #[.string f.pay] W (eK (rq f.pay).1 (rq f.pay).2 W)) (hok:∀ f ∈ fs,ROk (rq f.pay).1) (ht:((∀ i,i<8→(H.cs i).aH=false)∧∀ f ∈ fs,¬ lB (rq f.pay).1)∨oQ tl) (htl:∀ st,(tl st).length≤7000) (hl:∀ i,i<8→(H.cs i).waits.length≤35000000000000) :
 Calls Tryz.prog 13 #[.pointer (some ⟨g,0,none⟩),.int .i64 (k:Int),.string p] w (rz g V fb wv (je tl rq H k s fs m e) k w):=by
 have HO:=hid (Bp g k w hk)
 have Hh:=hid h
 have HI:=hid hI
 have HF:=hid hF
 have Hs:=hid hs
 have Hrq:=hid hrq
 have Hok:=hid hok
 have Ht:=hid ht
 have Htl:=hid htl
 have Hl:=hid hl
 have Hc:=hid hc
 have Hst:=hid hst
 have hfl:fs.length≤2097152:=by have:=hF.facts; omega
 have Hfl:=hid hfl
 have Hsz:=hid hsz
 have Hfar:=hid Gd
 clear h hI hF hs hrq hok ht htl hl hc hst hfl hsz Gd
 go_enter Tryz.func13,Tryz.ntmps13
 go_wp2_with fail
 refine Calls.mono HO.out ?_
 rintro x0 w1 ⟨rfl,hb1⟩
 have h1:=Hh.out.below hb1
 have y0:w1.cell? ⟨g,1+k*4,none⟩=some (.pointer (some ⟨fb k,0,none⟩)):=by rw [h1.blk.cell]; exact D7 hk
 have y1:w1.cell? ⟨g,1+k*4+1,none⟩=some (.bool false):=by rw [h1.blk.cell,iZ hk,Hc.out]
 have hlg:=h1.blk.lt
 have hfd:iX w1 (fb k) (H.cs k).rest ((H.cs k).far:Int) 0:=by have:=h1.feed k hk; rw [Hst.out] at this; exact this
 have HP:=hid (Gk w1 Hs.out HF.out hfd Hsz.out Hfar.out)
 have H1:=hid h1
 have HT1:=hid ((cT.refl g V fb wv w).below_ hb1)
 have HI1:=hid (HI.out.more hb1)
 clear h1 hb1 HO Hh hfd
 go_wp2_with fail
 refine Calls.mono HP.out ?_
 rintro x0 w2 ⟨A,n,c,rfl,hln,hown,hg2,hfd2⟩
 obtain⟨hA2,gr2⟩:=H1.out.pushed hk (c:=jc (H.cs k) s m e) hg2 (by
  show iX w2 (fb k) _ (((H.cs k).far+m:Nat):Int) (((if e=3 then 0 else e):Nat):Int)
  rw [Jg,Int.natCast_add]; exact hfd2) rfl rfl rfl
 obtain⟨F,hFb,hFe⟩:∃ F,(0<n→A=some ⟨F,0,none⟩∧¬ nP g V fb wv F∧F<w2.heap.size)∧aU w2 w2.heap.size 3 A n (au zR fs):=by
  rcases hown.2 with ⟨hv,hn⟩ | ⟨q,cap,cur,hv,hq,hgq,_⟩
  · exact⟨0,fun hn'=>by omega,cO hown⟩
  · refine⟨q,fun _=>⟨by injection hv,fun hS=>?_,(Array.getElem?_eq_some_iff.1 hgq).1⟩,cO hown⟩
    rcases hS with e | e | ⟨i,hi,e | e⟩
    · have:=H1.out.blk.lt; omega
    · have:=H1.out.srv.blk.lt; omega
    · have:=Blk.lt (H1.out.feed i hi); omega
    · obtain⟨c',h3,_⟩:=(H1.out.wait i hi).blk e
      have:=h3.lt; omega
 obtain⟨H2,hH2⟩:∃ H2:dM,(⟨H.st,H.now,upd H.cs k (jc (H.cs k) s m e)⟩:dM)=H2:=⟨_,rfl⟩
 have hA2:bL w2 g V fb wv H2.cs H2.st x H2.now:=by rw [← hH2]; exact hA2
 have HA2:=hid hA2
 have HT2:=hid (HT1.out.gr_ gr2)
 have HI2:=hid (HI.out.to (HT1.out.gr_ gr2))
 have HH2:=hid hH2
 have Hln:=hid hln
 have HFb:=hid hFb
 have HFe:=hid hFe
 have hnn:n≤2097152:=by rw [← hln]; exact Hfl.out
 obtain⟨E,hE⟩:∃ E:Int,(if e=3 then 0 else (e:Int))=E:=⟨_,rfl⟩
 rw [hE]
 have HE:=hid hE
 have hlg2:=hA2.blk.lt
 clear hA2 gr2 hg2 hfd2 hown hH2 hln hFb hFe hE HP H1 HT1 HI1 y0 y1 hlg
 go_wp2
 go_loopw [35] (fun i wr=>Jf tl rq g V fb wv k H2 fs n w2 i wr) (fun i _=>n - (intOf i).toNat)
 case atStart=>exact⟨0,wv,x,Nat.zero_le _,rfl,HA2.out,cT.refl _ _ _ _ _⟩
 case round=>
  obtain⟨j,wv',x',hj,rfl,hA,hT⟩:=hrel
  obtain⟨HJ,hHJ⟩:∃ HJ,dE tl rq k H2 (fs.take j)=HJ:=⟨_,rfl⟩
  rw [hHJ] at hA
  have HHJ:=hid hHJ
  clear hHJ
  have y1:wr.cell? ⟨g,1+k*4+1,none⟩=some (.bool (HJ.cs k).closed):=by rw [hA.blk.cell]; exact iZ hk
  have hlg:=hA.blk.lt
  by_cases hlt:j<n
  · obtain⟨f,hf⟩:∃ f,fs[j]? = some f:=⟨_,List.getElem?_eq_getElem (by rw [Hln.out]; exact hlt)⟩
    have hfm:=List.mem_of_getElem? hf
    obtain⟨hAF,hnS,hFl⟩:=HFb.out (by omega)
    have hSr:aU wr w2.heap.size 3 A n (au zR fs):=⟨HFe.out.len,fun hn=>by
     obtain⟨b,off,e1,hB,hr⟩:=HFe.out.at_ hn
     have e2:b=F:=by rw [hAF] at e1; injection e1 with e1; injection e1 with e1; exact e1.symm
     subst e2
     exact⟨b,off,e1,hB,fun j u hu=>(World.cell?_of_block (hT.gr.block b hFl hnS)).trans (hr j u hu)⟩⟩
    obtain⟨b,off,rfl,hbB,hcl⟩:=hSr.dB uP Hln.out hf
    have hsn:=qE (tl:=tl) (rq:=rq) (k:=k) (H:=H2) hf
    rw [HHJ.out] at hsn
    have hwr:=hT.gr.size
    obtain⟨wx,hwx⟩:∃ wx,wr.alloc (.cells #[.int .i64 (f.ver:Int),.int .i64 (f.kind:Int),.string f.pay] 40)=wx:=⟨_,rfl⟩
    have hbx:Below wr.heap.size wr wx:=by rw [← hwx]; exact (Below.refl _ _).alloc (Nat.le_refl _) _
    have Gl:Blk wx wr.heap.size 40 #[.int .i64 (f.ver:Int),.int .i64 (f.kind:Int),.string f.pay]:=by rw [← hwx]; exact heap_alloc_new wr _
    obtain⟨d0,d1,d2⟩:=rc3 hcl
    have z1:wx.cell? ⟨g,1+k*4+1,none⟩=some (.bool (HJ.cs k).closed):=by rw [(hA.blk.below hbx hlg).cell]; exact iZ hk
    have f0:wx.cell? ⟨wr.heap.size,0,none⟩=some (.int .i64 (f.ver:Int)):=Gl.cell 0
    have f1:wx.cell? ⟨wr.heap.size,1,none⟩=some (.int .i64 (f.kind:Int)):=Gl.cell 1
    have f2:wx.cell? ⟨wr.heap.size,2,none⟩=some (.string f.pay):=Gl.cell 2
    have hlb:b<wr.heap.size:=by omega
    have hlx:=Gl.lt
    have hlk:j*3+3≤n*3:=by omega
    have HTx:=hid (hT.below_ hbx)
    have HAx:=hid (hA.below hbx)
    have zU:=hid (lY (tl:=tl) (rq:=rq) (k:=k) Htl.out (fs.take j) H2)
    have HFr:=hid (show (HJ.cs k).closed=false→Calls Tryz.prog 38 #[.pointer (some ⟨g,0,none⟩),.pointer (some ⟨g,1+k*4,none⟩),.agg #[.int .i64 (f.ver:Int),.int .i64 (f.kind:Int),.string f.pay]] wx (gW g V fb wv' (gP tl rq HJ k f) (.tuple #[]) wx) from fun _=>by
     have h2:=zU.out
     rw [HHJ.out] at h2
     have hcs:∀ i,(H2.cs i).waits=(H.cs i).waits∧(H2.cs i).aH=(H.cs i).aH:=fun i=>by
      rw [← HH2.out]
      show (upd H.cs k _ i).waits=_∧(upd H.cs k _ i).aH=_
      by_cases e:i=k
      · subst e; rw [bB]; exact⟨rfl,rfl⟩
      · rw [upd_ne _ _ e]; exact⟨rfl,rfl⟩
     refine B1 tl rq wx f HAx.out hk (HI2.out.to HTx.out) (Hrq.out f hfm) (Hok.out f hfm) ?_ Htl.out (fun i hi=>?_)
     · rcases Ht.out with ⟨h3,h4⟩ | h3
       · refine .inl ⟨fun i hi=>?_,h4 f hfm⟩
         rw [h2.2 (fun g hg=>h4 g (List.mem_of_mem_take hg)) i,(hcs i).2]
         exact h3 i hi
       · exact .inr h3
     · have h3:=h2.1 i
       have h4:=Hl.out i hi
       rw [(hcs i).1,List.length_take] at h3
       have h5:=Hfl.out
       have h6:min j fs.length*21000≤2097152*21000:=Nat.mul_le_mul_right _ (by omega)
       omega)
    have Hsn:=hid hsn
    have Hwx:=hid hwx
    clear hA hT hSr hcl hsn hbx Gl hwx hf hfm zU hAF hnS hFl hwr
    cases hcl:(HJ.cs k).closed
    · have G:=hid (HFr.out hcl)
      rw [hcl] at y1 z1 Hsn
      rw [if_neg (by decide)] at Hsn
      clear HFr hcl
      go_wp2_with fail
      try simp only [Hwx.out]
      refine Calls.mono G.out ?_
      rintro x0 w4 hp
      obtain⟨rfl,wv4,x4,h4,t4⟩:=hp
      rw [← Hsn.out] at h4
      have H4:=hid h4
      have T4:=hid (HTx.out.trans t4)
      clear h4 t4 G d0 d1 d2 f0 f1 f2 y1 z1
      go_wp2
      go_roundw
      case rel=>exact⟨j+1,wv4,x4,by omega,by go_num,H4.out,T4.out⟩
      case measure=>simp [intOf]; omega
    · rw [hcl] at y1 z1 Hsn
      rw [if_pos rfl] at Hsn
      have H4:=hid (show bL wx g V fb wv' (dE tl rq k H2 (fs.take (j+1))).cs (dE tl rq k H2 (fs.take (j+1))).st x' (dE tl rq k H2 (fs.take (j+1))).now from by rw [Hsn.out]; exact HAx.out)
      clear HFr hcl HAx
      go_wp2
      try simp only [Hwx.out]
      go_roundw
      case rel=>exact⟨j+1,wv',x',by omega,by go_num,H4.out,HTx.out⟩
      case measure=>simp [intOf]; omega
  · obtain rfl:j=n:=by omega
    rw [List.take_of_length_le (by rw [Hln.out]; omega)] at HHJ
    have hSD:je tl rq H k s fs m e=if e≠3∧(HJ.cs k).closed=false then iA HJ k e else HJ:=by
     unfold je
     rw [show ({ H with cs:=upd H.cs k (jc (H.cs k) s m e) }:dM)=H2 from HH2.out,HHJ.out]
    have HSD:=hid hSD
    have HA:=hid hA
    have HT:=hid (HT2.out.trans hT)
    have zU:=hid (lY (tl:=tl) (rq:=rq) (k:=k) Htl.out fs H2)
    have hlen:(HJ.cs k).waits.length≤35184372088832:=by
     have h2:=zU.out.1 k
     rw [HHJ.out] at h2
     have h3:(H2.cs k).waits=(H.cs k).waits:=by rw [← HH2.out]; show (upd H.cs k _ k).waits=_; rw [bB]; rfl
     have h4:=Hl.out k hk
     have h5:=Hfl.out
     rw [h3] at h2
     have h6:fs.length*21000≤2097152*21000:=Nat.mul_le_mul_right _ h5
     omega
    have Hlen:=hid hlen
    have he0:e≠0:=HF.out.facts.2.1
    clear hA hT zU hlen hSD
    by_cases h3:e=3
    · have hE:E=0:=by rw [← HE.out,if_pos h3]
      subst hE
      have HSD:=hid (show je tl rq H k s fs m e=HJ from by rw [HSD.out,if_neg (fun h=>h.1 h3)])
      clear h3 he0 y1
      have FL:=hid (oS g (1+k*4) 89 _ (wv' k) (HJ.cs k).waits wr HA.out.blk (fX hk) (HA.out.wait k hk))
      have HX:=hid (HA.out.flush hk)
      have HTx:=hid (HT.out.trans HX.out.2)
      go_wp2_with fail
      refine Calls.mono FL.out ?_
      rintro x0 w5 ⟨rfl,rfl⟩
      go_wp2
      go_ret2
      rw [HSD.out]
      exact⟨rfl,_,_,HX.out.1,HTx.out⟩
    · have hE:E=(e:Int):=by rw [← HE.out,if_neg h3]
      subst hE
      have d1:((e:Int) != 0)=true:=bne_iff_ne.2 (by omega)
      cases hcl:(HJ.cs k).closed
      · have HSD:=hid (show je tl rq H k s fs m e=iA HJ k e from by rw [HSD.out,if_pos ⟨h3,hcl⟩])
        have HC:=hid (rY wr HA.out hk (e:Int) Hlen.out)
        rw [hcl] at y1
        clear h3 he0 hcl
        go_wp2_with fail
        refine Calls.mono HC.out ?_
        rintro x0 w4 ⟨rfl,wv4,x4,h4,t4⟩
        have HA:=hid h4
        have HT:=hid (HT.out.trans t4)
        have hlg4:=h4.blk.lt
        clear h4 t4 HC y1
        have FL:=hid (oS g (1+k*4) 89 _ (wv4 k) ((iA HJ k e).cs k).waits w4 HA.out.blk (fX hk) (HA.out.wait k hk))
        have HX:=hid (HA.out.flush hk)
        have HTx:=hid (HT.out.trans HX.out.2)
        go_wp2_with fail
        refine Calls.mono FL.out ?_
        rintro x0 w5 ⟨rfl,rfl⟩
        go_wp2
        go_ret2
        rw [HSD.out]
        exact⟨rfl,_,_,HX.out.1,HTx.out⟩
      · have HSD:=hid (show je tl rq H k s fs m e=HJ from by rw [HSD.out,if_neg (fun h=>by rw [hcl] at h; exact absurd h.2 (by decide))])
        rw [hcl] at y1
        clear h3 he0 hcl
        have FL:=hid (oS g (1+k*4) 89 _ (wv' k) (HJ.cs k).waits wr HA.out.blk (fX hk) (HA.out.wait k hk))
        have HX:=hid (HA.out.flush hk)
        have HTx:=hid (HT.out.trans HX.out.2)
        go_wp2_with fail
        refine Calls.mono FL.out ?_
        rintro x0 w5 ⟨rfl,rfl⟩
        go_wp2
        go_ret2
        rw [HSD.out]
        exact⟨rfl,_,_,HX.out.1,HTx.out⟩
end Go.Proofs.YtbllgmociapjeaaGreatDoor
/- The walk of the tops' works: does a job come to be there, by bytes? -/
namespace Go.Proofs.YtbllgmociapjeaaGreatDoor
open Go.Lib (hid)
open Go.RowKit
theorem Ec (q:aF) (w:World) (hq:q.kind=1) (hok:ROk q) (hT:Tabs w) (h0:cu q=0) (_hl:(aO 1 ++ eG q.job 3).length≤6000) :
 Calls Tryz.prog 8 #[bH q] w (kX (BA (cR 3 3 (aO 1 ++ eG q.job 3))) true w):=by
 have h:=vM q w hok hT h0
 rw [show gZ q=aO 1 ++ eG q.job 3 by unfold gZ dH; rw [if_pos hq,hq]; rfl] at h
 exact h
def zSA:StA:=⟨none,0,0,none,0,0,none,0,0⟩
theorem KY (w:World) (B:Nat):StAt w B iH zSA:=
 ⟨aU.nil,aU.nil,aU.nil,rfl,rfl,rfl,by decide,by decide,by decide,(fun _ h=>by cases h),(fun _ h=>by cases h),(fun _ h=>by cases h)⟩
theorem B2 {g V:Nat} {fb:Nat→Nat} {wv:Nat→Value} {cs:Nat→bQ} {st:ah} {x:StA} {now:Int} (w:World) (h:bL w g V fb wv cs st x now) :
 Calls Tryz.prog 16 #[.pointer (some ⟨g,0,none⟩)] w (oT st w):=by
 obtain⟨W,hW⟩:∃ W,w.alloc (.cells rW 26)=W:=⟨_,rfl⟩
 have hbW:Below w.heap.size w W:=by rw [← hW]; exact (Below.refl _ _).alloc (Nat.le_refl _) _
 have hR:Blk W w.heap.size 26 rW:=by rw [← hW]; exact heap_alloc_new w _
 have HS:=hid (nR st x now V W (h.below hbW).srv)
 have c0:w.cell? ⟨g,0,none⟩=some (.pointer (some ⟨V,0,none⟩)):=by rw [h.blk.cell]; exact rU
 have hlt:=h.blk.lt
 have HR:=hid hR
 have HbW:=hid hbW
 have HW:=hid hW
 clear h hR hbW hW
 go_enter Tryz.func16,Tryz.ntmps16
 go_wp2_with fail
 try rw [HW.out]
 clear HW
 refine Calls.mono HS.out ?_
 rintro e w2 ⟨y,rfl,hy,hb2⟩
 have hR2:=HR.out.below hb2 HR.out.lt
 have hB2:=HbW.out.trans (hb2.mono HbW.out.size)
 obtain⟨z0,z1,z2,z3⟩:=Blk.z4 (hR2)
 obtain⟨r0,r1,r2,r3⟩:=Blk.c4 (hR2)
 obtain⟨hR3,hG3⟩:=Blk.S4 (hR2) (.int .i64 st.rev) (.slice y.aj y.nj y.cj) (.slice y.an y.nn y.cn) (.slice y.al y.nl y.cl)
 obtain⟨y0,y1,y2,y3⟩:=Blk.c4 hR3
 have hlr:=hR2.lt
 have bI:=hid (show oT st w (.returned (.agg (stC st y))) _ from ⟨y,rfl,(hy.gR hR2 (qG ⟨0,[],[],[]⟩ ⟨none,0,0,none,0,0,none,0,0⟩) hG3).more hG3.size,dR hB2 hG3 (Nat.le_refl _)⟩)
 clear hy hb2 hR2 hB2 hR3 hG3 HS c0 hlt HR HbW
 unfold stC
 go_wp2
 refine bodyPost_ret (v:=.agg (stC st y)) (by simp [results,Tryz.results16,go_sem,stC, *]) rfl ?_
 exact bI.out
def rqA (b:ByteArray):aF × Int:=(l8,0)
def tlA (st:ah):List UInt8:=[]
theorem LJ:je tlA rqA (mA iH) 0 (BA mS) [⟨3,3,BA uj⟩] mS.length 3=eV tlA ⟨iH,0,upd (mA iH).cs 0 (jc ((mA iH).cs 0) (BA mS) mS.length 3)⟩ 0 l8:=by
 unfold je
 rw [if_neg (fun h=>h.1 rfl)]
 show dE tlA rqA 0 _ [⟨3,3,BA uj⟩]=_
 rw [dE,dE,if_neg (by simp [mA,upd,jc])]
 unfold gP
 rw [if_neg (by simp),if_neg (by simp [rqA])]
 rfl
theorem Gm:(je tlA rqA (mA iH) 0 (BA mS) [⟨3,3,BA uj⟩] mS.length 3).st=Jh∧0<((je tlA rqA (mA iH) 0 (BA mS) [⟨3,3,BA uj⟩] mS.length 3).cs 0).waits.length:=by
 rw [LJ]
 unfold eV
 dsimp only
 rw [srvA]
 dsimp only
 rw [if_pos rfl]
 refine⟨rfl,?_⟩
 show 0<((fA tlA Jh _ _ _ 8) 0).waits.length
 unfold fA
 rw [if_pos (by decide),bB]
 have ha:∀ c:bQ,eJ tlA l8 ⟨0,true,Jh,0⟩ c=mq 0 1 c:=fun c=>by
  unfold eJ
  rw [if_neg (by rintro⟨_,h | h⟩ <;> exact absurd h (by decide))]
  rfl
 rw [ha]
 unfold jD
 rw [if_pos (.inr rfl)]
 show 0<([] ++ cR 3 4 _).length
 have h2:=jW 3 4 (gK 0 1).1.data.toList (by have:=j5 0 1; simp; omega)
 rw [List.nil_append]
 exact h2.1
theorem Ed (w:World) (hT:Tabs w):Calls Tryz.prog 6 #[] w fun e w'=>e = .returned (.bool true)∧Below w.heap.size w w':=by
 have HN:=hid (show Calls Tryz.prog 10 #[.agg rW] w (rA iH w) from AE iH zSA w (KY w _) hT)
 have HT:=hid hT
 clear hT
 go_enter Tryz.func6,Tryz.ntmps6
 go_wp2_with fail
 refine Calls.mono HN.out ?_
 rintro e w1 ⟨hb1,⟨hbad,_⟩ | ⟨_,g,V,fb,x',rfl,hA,hlo⟩⟩
 · exact absurd Ji hbad
 have hok:ROk l8:=⟨by decide,by decide,by decide,by decide,by decide,by decide,by decide⟩
 have HB:=hid (show Calls Tryz.prog 8 #[.agg #[.int .i64 1,.string ⟨#[97]⟩,.int .i64 0,.int .i64 0,.int .i64 0,.string ⟨#[]⟩,.string ⟨#[]⟩,.int .i64 0,.string ⟨#[]⟩,.string ⟨#[]⟩,.string ⟨#[]⟩,.int .i64 0,.string ⟨#[]⟩,.int .i64 0]] w1 (kX (BA mS) true w1) from Ec l8 w1 rfl hok (HT.out.below hb1) AF (by show uj.length≤6000; decide +kernel))
 have HA:=hid hA
 have HI:=hid (show jZ w w1 g V fb (fun _=>.slice none 0 0) from ⟨hb1,HT.out,hlo⟩)
 clear hA hlo hb1 HN
 go_wp2_with fail
 refine Calls.mono HB.out ?_
 rintro e w2 ⟨rfl,hb2⟩
 have hA2:=HA.out.below hb2
 have hI2:=HI.out.more hb2
 have hrun:=sL tlA rqA (H:=mA iH) (k:=0) (s:=BA mS) (fs:=[⟨3,3,BA uj⟩]) (m:=mS.length) (e:=3) w2 (BA mS) (by show (⟨#[]⟩:ByteArray) ++ BA mS=BA mS; exact ByteArray.ext (by rw [ByteArray.data_append]; simp)) frsA hA2 (by decide) hI2 rfl rfl (by rw [fY]; decide +kernel) (by decide)
  (fun f hf _ _ W hW=>by
   have e1:f=⟨3,3,BA uj⟩:=by simpa using hf
   subst e1
   exact Gn AG W De hW)
  (fun f _=>hok) (.inl ⟨fun _ _=>rfl,fun f _ h=>by
   rcases h with h | h
   · exact absurd (show (1:Int)=8 from h) (by decide)
   · exact absurd (show (1:Int)=9 from h) (by decide)⟩) (fun _=>Nat.zero_le _) (fun _ _=>Nat.zero_le _)
 obtain⟨SD,hSD⟩:∃ SD,je tlA rqA (mA iH) 0 (BA mS) [⟨3,3,BA uj⟩] mS.length 3=SD:=⟨_,rfl⟩
 have hst:=Gm
 rw [hSD] at hrun hst
 obtain⟨FB,hFB⟩:∃ FB,BA mS=FB:=⟨_,rfl⟩
 rw [hFB] at hrun ⊢
 have HR:=hid (show Calls Tryz.prog 13 #[.pointer (some ⟨g,0,none⟩),.int .i64 0,.string FB] w2 (rz g V fb (fun _=>.slice none 0 0) SD 0 w2) from hrun)
 have Hst:=hid hst
 have HI2:=hid hI2
 clear hA2 hI2 hrun hst hSD hFB hok hb2 HA HI HB
 go_wp2_with fail
 refine Calls.mono HR.out ?_
 rintro e w3 ⟨rfl,wv3,x3,hA3,t3⟩
 have HI3:=hid (HI2.out.to t3)
 have HSt:=hid (B2 w3 hA3)
 obtain⟨s,hs⟩:∃ s,BA (SD.cs 0).waits=s:=⟨_,rfl⟩
 have hsz:s.size≠0:=by rw [← hs,fY]; have:=Hst.out.2; omega
 rw [hs]
 have b1:=pY hsz
 have b2:=qL hsz
 have b3:(!s.toList.isEmpty)=true:=by have:=pY hsz; revert this; cases s.toList <;> simp
 have hlg:=hA3.blk.lt
 clear hA3 t3 hs hsz HR
 go_wp2_with fail
 refine Calls.mono HSt.out ?_
 rintro e w4 ⟨y,rfl,hy,hb4⟩
 have hnj:y.nj=1:=by have:=hy.lj; rw [Hst.out.1] at this; exact this.symm
 have Hb4:=hid (HI3.out.base.trans (hb4.mono HI3.out.base.size))
 have Hnj:=hid hnj
 clear hy hb4 HSt hnj
 unfold stC
 rw [Hnj.out]
 have hf:∀ W,(Instr.field 26 (.agg #[.int .i64 SD.st.rev,.slice y.aj 1 y.cj,.slice y.an y.nn y.cn,.slice y.al y.nl y.cl]) 1).run Tryz.prog W = .ok (.slice y.aj 1 y.cj) W:=fun _=>by kernel_rfl
 go_wp2
 go_ret
 exact⟨rfl,Hb4.out⟩
end Go.Proofs.YtbllgmociapjeaaGreatDoor
