/- Of the proof of a statement: HubS, HubN, ArgSt. -/
import Derived.Deep.Slices
import Derived.Lib.SmallJoins
import Derived.Test.YtcpgnjmaampglaaGreatDoorWHubG
set_option linter.unusedVariables false
set_option linter.unusedSimpArgs false
set_option maxRecDepth 100000
set_option maxHeartbeats 8000000
/- The walks of a hub's frame at every frame, and of Send. -/
namespace Go.Proofs.YtcpgnjmaampglaaGreatDoor
open Go.Lib (hid)
open Go.RowKit
open Go.ChangeShapes Go.WideShapes Go.ChangeAt Go.RowKit
theorem iV.after {g V:Nat} {fb:Nat→Nat} {wv wv1:Nat→Value} {H:gZ} {r:Value} {w w1 w':World} {e:Ending} (t:dN g V fb wv wv1 w w1) (h:iV g V fb wv1 H r w1 e w'):iV g V fb wv H r w e w':=by
 obtain⟨h1,wv',x',h2,h3⟩:=h
 exact⟨h1,wv',x',h2,t.trans h3⟩
theorem FW (tl:ah→List UInt8) (rq:ByteArray→cJ × Int) {g V k:Nat} {fb:Nat→Nat} {wv:Nat→Value} {H:gZ} {x:StA} {wb:World} (w:World) (f:bL) (h:cC w g V fb wv H.cs H.st x H.now) (hk:k<8) (hI:nH wb w g V fb wv)
 (hrq:f.ver=3→f.kind=3→∀ W,Tabs W→Calls Tryz.prog 117 #[.string f.pay] W (oK (rq f.pay).1 (rq f.pay).2 W)) (hok:ROk (rq f.pay).1) (hdo:Lp (rq f.pay).1 H.st H.now) (ht:((∀ i,i<8→(H.cs i).aL=false)∧¬ mZ (rq f.pay).1)∨uf tl) (htl:∀ st,(tl st).length≤7000) (hl:∀ i,i<8→(H.cs i).waits.length≤35184371000000) :
 Calls Tryz.prog 57 #[.pointer (some ⟨g,0,none⟩),.pointer (some ⟨g,1+k*4,none⟩),.agg #[.int .i64 (f.ver:Int),.int .i64 (f.kind:Int),.string f.pay]] w (iV g V fb wv (je tl rq H k f) (.tuple #[]) w):=by
 obtain⟨ver,kind,pay⟩:=f
 dsimp only at hrq hok hdo ht ⊢
 by_cases hg:ver=3∧kind=3
 · obtain⟨rfl,rfl⟩:=hg
   by_cases he:(rq pay).2=0
   · have hq:=hrq rfl rfl
     rw [he] at hq
     have hF:je tl rq H k ⟨3,3,pay⟩=ng tl H k (rq pay).1:=by unfold je; rw [if_neg (by simp),if_neg (by simpa using he)]
     rw [hF]
     exact Lv tl w pay (rq pay).1 h hk hI hq hok hdo ht htl hl
   · have hF:je tl rq H k ⟨3,3,pay⟩=nZ H k (rq pay).2:=by unfold je; rw [if_neg (by simp),if_pos he]
     rw [hF]
     obtain⟨W,hW⟩:∃ W,w.alloc (.cells #[.int .i64 3,.int .i64 3,.string pay] 43)=W:=⟨_,rfl⟩
     have hbW:Below w.heap.size w W:=by rw [← hW]; exact (Below.refl _ _).alloc (Nat.le_refl _) _
     have hb:Blk W w.heap.size 43 #[.int .i64 3,.int .i64 3,.string pay]:=by rw [← hW]; exact heap_alloc_new w _
     have HDc:=hid (hrq rfl rfl W (hI.more hbW).at_)
     have c0:W.cell? ⟨w.heap.size,0,none⟩=some (.int .i64 3):=hb.cell 0
     have c1:W.cell? ⟨w.heap.size,1,none⟩=some (.int .i64 3):=hb.cell 1
     have c2:W.cell? ⟨w.heap.size,2,none⟩=some (.string pay):=hb.cell 2
     have hlW:=hb.lt
     obtain⟨q,hq⟩:∃ q,(rq pay).1=q:=⟨_,rfl⟩
     obtain⟨E,hE⟩:∃ E,(rq pay).2=E:=⟨_,rfl⟩
     rw [hq,hE] at HDc
     rw [hE] at he ⊢
     have d0:(E != 0)=true:=bne_iff_ne.2 he
     have HW:=hid hW
     have Hh:=hid (h.below hbW)
     have HT:=hid ((dN.refl g V fb wv w).below_ hbW)
     have Hl:=hid (hl k hk)
     clear hbW hb hW h hI hrq hl ht htl hok hq hE he hF
     go_enter Tryz.func57,Tryz.ntmps57
     go_wp2_with fail
     try simp only [HW.out]
     clear HW
     refine Calls.mono HDc.out ?_
     rintro e w2 ⟨rfl,hb2⟩
     obtain⟨w3,hw3⟩:∃ w3,w2.alloc (.cells (eM q) 65)=w3:=⟨_,rfl⟩
     have hb3:Below w2.heap.size w2 w3:=by rw [← hw3]; exact (Below.refl _ _).alloc (Nat.le_refl _) _
     have HC:=hid (vU w3 ((Hh.out.below hb2).below hb3) hk E (by have:=Hl.out; omega))
     have HT3:=hid ((HT.out.below_ hb2).below_ hb3)
     have Hw3:=hid hw3
     clear hw3 hb2 hb3 Hh HT HDc c0 c1 c2
     unfold gY
     unfold eM at Hw3 ⊢
     go_wp2_with fail
     simp only [Hw3.out]
     clear Hw3
     refine Calls.mono HC.out ?_
     rintro e w4 hp
     have P:=hid (hp.after HT3.out)
     obtain⟨rfl,_⟩:=hp
     clear HC HT3
     go_wp2
     go_end0
     exact P.out
 · have hF:je tl rq H k ⟨ver,kind,pay⟩=nZ H k 1:=by unfold je; rw [if_pos (by dsimp only; omega)]
   rw [hF]
   obtain⟨W,hW⟩:∃ W,w.alloc (.cells #[.int .i64 (ver:Int),.int .i64 (kind:Int),.string pay] 43)=W:=⟨_,rfl⟩
   have hbW:Below w.heap.size w W:=by rw [← hW]; exact (Below.refl _ _).alloc (Nat.le_refl _) _
   have hb:Blk W w.heap.size 43 #[.int .i64 (ver:Int),.int .i64 (kind:Int),.string pay]:=by rw [← hW]; exact heap_alloc_new w _
   obtain⟨c0,c1⟩:=Blk.c2 (hb)
   have hlW:=hb.lt
   have HC:=hid (vU W (h.below hbW) hk 1 (by have:=hl k hk; omega))
   have HT:=hid ((dN.refl g V fb wv w).below_ hbW)
   have HW:=hid hW
   have hcase:((ver:Int) != 3)=true∨(((ver:Int) != 3)=false∧((kind:Int) != 3)=true):=by
    by_cases hv:ver=3
    · subst hv
      exact .inr ⟨rfl,bne_iff_ne.2 (by omega)⟩
    · exact .inl (bne_iff_ne.2 (by omega))
   clear hbW hb hW h hI hrq hl ht htl hok hF hg
   rcases hcase with d0 | ⟨d0,d1⟩
   all_goals
    go_enter Tryz.func57,Tryz.ntmps57
    go_wp2_with fail
    try simp only [HW.out]
    clear HW
    refine Calls.mono HC.out ?_
    rintro e w4 hp
    have P:=hid (hp.after HT.out)
    obtain⟨rfl,_⟩:=hp
    clear HC HT c0 c1
    go_wp2
    go_end0
    exact P.out
def NK (tl:ah→List UInt8) (rq:ByteArray→cJ × Int) (g V:Nat) (fb:Nat→Nat) (wv:Nat→Value) (k:Nat) (H:gZ) (fs:List bL) (n:Nat) (w:World) (i:Value) (wr:World):Prop:=
 ∃ m wv' x',m≤n∧i = .int .i64 ((m:Nat):Int)∧cC wr g V fb wv' (eF tl rq k H (fs.take m)).cs (eF tl rq k H (fs.take m)).st x' (eF tl rq k H (fs.take m)).now∧dN g V fb wv wv' w wr
def D4 (g V:Nat) (fb:Nat→Nat) (wv:Nat→Value) (H:gZ) (k:Nat) (w:World) (e:Ending) (w':World):Prop:=
 e = .returned (.tuple #[.string (BA (H.cs k).waits),.int .i64 0])∧∃ wv' x',cC w' g V fb wv' (PZ H k).cs H.st x' H.now∧dN g V fb wv wv' w w'
theorem cC.flush {w:World} {g V k:Nat} {fb:Nat→Nat} {wv:Nat→Value} {cs:Nat→cu} {st:ah} {x:StA} {now:Int} (h:cC w g V fb wv cs st x now) (hk:k<8) :
 cC (w.setCell ⟨g,1+k*4+3,none⟩ (.slice none 0 0)) g V fb (upd wv k (.slice none 0 0)) (upd cs k (FX (cs k))) st x now∧dN g V fb wv (upd wv k (.slice none 0 0)) w (w.setCell ⟨g,1+k*4+3,none⟩ (.slice none 0 0)):=by
 obtain⟨h1,h2⟩:=h.cell hk (j:=1+k*4+3) (u:=.slice none 0 0) (c:=FX (cs k)) (v:=.slice none 0 0) (rX hk _ _ rfl rfl) rfl rfl rfl (.inr ⟨rfl,rfl⟩)
 refine⟨h1,h2,fun i hi=>?_⟩
 by_cases e:i=k
 · subst e; rw [cL]; exact .inl rfl
 · rw [upd_ne _ _ e]; exact .inr (.inl rfl)
theorem NL (e:Nat):(((if e=3 then 0 else e):Nat):Int)=if e=3 then 0 else (e:Int):=by split <;> rfl
theorem Jn (tl:ah→List UInt8) (rq:ByteArray→cJ × Int) {g V k:Nat} {fb:Nat→Nat} {wv:Nat→Value} {H:gZ} {x:StA} {wb:World} {s:ByteArray} {fs:List bL} {m e:Nat} (w:World) (p:ByteArray) (hs:(H.cs k).rest ++ p=s) (hF:Frs s fs m e) (h:cC w g V fb wv H.cs H.st x H.now) (hk:k<8) (hI:nH wb w g V fb wv)
 (hc:(H.cs k).closed=false) (hst:(H.cs k).stuck=0) (hsz:s.size≤2097152) (hfar:(H.cs k).far≤2097152)
 (hrq:∀ f ∈ fs,f.ver=3→f.kind=3→∀ W,Tabs W→Calls Tryz.prog 117 #[.string f.pay] W (oK (rq f.pay).1 (rq f.pay).2 W)) (hok:∀ f ∈ fs,ROk (rq f.pay).1) (hdo:∀ n f,fs[n]? = some f→Lp (rq f.pay).1 (eF tl rq k { H with cs:=upd H.cs k (ug (H.cs k) s m e) } (fs.take n)).st (eF tl rq k { H with cs:=upd H.cs k (ug (H.cs k) s m e) } (fs.take n)).now) (ht:((∀ i,i<8→(H.cs i).aL=false)∧∀ f ∈ fs,¬ mZ (rq f.pay).1)∨uf tl) (htl:∀ st,(tl st).length≤7000) (hl:∀ i,i<8→(H.cs i).waits.length≤35000000000000) :
 Calls Tryz.prog 18 #[.pointer (some ⟨g,0,none⟩),.int .i64 (k:Int),.string p] w (D4 g V fb wv (qQ tl rq H k s fs m e) k w):=by
 have HO:=hid (P0 g k w hk)
 have Hh:=hid h
 have HI:=hid hI
 have HF:=hid hF
 have Hs:=hid hs
 have Hrq:=hid hrq
 have Hok:=hid hok
 have Hdo:=hid hdo
 have Ht:=hid ht
 have Htl:=hid htl
 have Hl:=hid hl
 have Hc:=hid hc
 have Hst:=hid hst
 have hfl:fs.length≤2097152:=by have:=hF.facts; omega
 have Hfl:=hid hfl
 have Hsz:=hid hsz
 have Hfar:=hid hfar
 clear h hI hF hs hrq hok hdo ht htl hl hc hst hfl hsz hfar
 go_enter Tryz.func18,Tryz.ntmps18
 go_wp2_with fail
 refine Calls.mono HO.out ?_
 rintro x0 w1 ⟨rfl,hb1⟩
 have h1:=Hh.out.below hb1
 have y0:w1.cell? ⟨g,1+k*4,none⟩=some (.pointer (some ⟨fb k,0,none⟩)):=by rw [h1.blk.cell]; exact IR hk
 have y1:w1.cell? ⟨g,1+k*4+1,none⟩=some (.bool false):=by rw [h1.blk.cell,lH hk,Hc.out]
 have hlg:=h1.blk.lt
 have hfd:gX w1 (fb k) (H.cs k).rest ((H.cs k).far:Int) 0:=by have:=h1.feed k hk; rw [Hst.out] at this; exact this
 have HP:=hid (D5 w1 Hs.out HF.out hfd Hsz.out Hfar.out)
 have H1:=hid h1
 have HT1:=hid ((dN.refl g V fb wv w).below_ hb1)
 have HI1:=hid (HI.out.more hb1)
 clear h1 hb1 HO Hh hfd
 go_wp2_with fail
 refine Calls.mono HP.out ?_
 rintro x0 w2 ⟨A,n,c,rfl,hln,hown,hg2,hfd2⟩
 obtain⟨hA2,gr2⟩:=H1.out.pushed hk (c:=ug (H.cs k) s m e) hg2 (by
  show gX w2 (fb k) _ (((H.cs k).far+m:Nat):Int) (((if e=3 then 0 else e):Nat):Int)
  rw [NL,Int.natCast_add]; exact hfd2) rfl rfl rfl
 obtain⟨F,hFb,hFe⟩:∃ F,(0<n→A=some ⟨F,0,none⟩∧¬ sE g V fb wv F∧F<w2.heap.size)∧aQ w2 w2.heap.size 3 A n (au qw fs):=by
  rcases hown.2 with ⟨hv,hn⟩ | ⟨q,cap,cur,hv,hq,hgq,_⟩
  · exact⟨0,fun hn'=>by omega,cD hown⟩
  · refine⟨q,fun _=>⟨by injection hv,fun hS=>?_,(Array.getElem?_eq_some_iff.1 hgq).1⟩,cD hown⟩
    rcases hS with e | e | ⟨i,hi,e | e⟩
    · have:=H1.out.blk.lt; omega
    · have:=H1.out.srv.blk.lt; omega
    · have:=Blk.lt (H1.out.feed i hi); omega
    · obtain⟨c',h3,_⟩:=(H1.out.wait i hi).blk e
      have:=h3.lt; omega
 obtain⟨H2,hH2⟩:∃ H2:gZ,(⟨H.st,H.now,upd H.cs k (ug (H.cs k) s m e)⟩:gZ)=H2:=⟨_,rfl⟩
 have hA2:cC w2 g V fb wv H2.cs H2.st x H2.now:=by rw [← hH2]; exact hA2
 have HA2:=hid hA2
 have HT2:=hid (HT1.out.gr_ gr2)
 have HI2:=hid (HI.out.to (HT1.out.gr_ gr2))
 have HH2:=hid hH2
 have Hln:=hid hln
 have HFb:=hid hFb
 have HFe:=hid hFe
 have hnn:n≤2097152:=by rw [← hln]; exact Hfl.out
 obtain⟨E,hE⟩:∃ E:Int,(if e=3 then 0 else (e:Int))=E:=⟨_,rfl⟩
 rw [hE]
 have HE:=hid hE
 have hlg2:=hA2.blk.lt
 clear hA2 gr2 hg2 hfd2 hown hH2 hln hFb hFe hE HP H1 HT1 HI1 y0 y1 hlg
 go_wp2
 go_loopw [35] (fun i wr=>NK tl rq g V fb wv k H2 fs n w2 i wr) (fun i _=>n - (intOf i).toNat)
 case atStart=>exact⟨0,wv,x,Nat.zero_le _,rfl,HA2.out,dN.refl _ _ _ _ _⟩
 case round=>
  obtain⟨j,wv',x',hj,rfl,hA,hT⟩:=hrel
  obtain⟨HJ,hHJ⟩:∃ HJ,eF tl rq k H2 (fs.take j)=HJ:=⟨_,rfl⟩
  rw [hHJ] at hA
  have HHJ:=hid hHJ
  clear hHJ
  have y1:wr.cell? ⟨g,1+k*4+1,none⟩=some (.bool (HJ.cs k).closed):=by rw [hA.blk.cell]; exact lH hk
  have hlg:=hA.blk.lt
  by_cases hlt:j<n
  · obtain⟨f,hf⟩:∃ f,fs[j]? = some f:=⟨_,List.getElem?_eq_getElem (by rw [Hln.out]; exact hlt)⟩
    have hfm:=List.mem_of_getElem? hf
    obtain⟨hAF,hnS,hFl⟩:=HFb.out (by omega)
    have hSr:aQ wr w2.heap.size 3 A n (au qw fs):=⟨HFe.out.len,fun hn=>by
     obtain⟨b,off,e1,hB,hr⟩:=HFe.out.at_ hn
     have e2:b=F:=by rw [hAF] at e1; injection e1 with e1; injection e1 with e1; exact e1.symm
     subst e2
     exact⟨b,off,e1,hB,fun j u hu=>(World.cell?_of_block (hT.gr.block b hFl hnS)).trans (hr j u hu)⟩⟩
    obtain⟨b,off,rfl,hbB,hcl⟩:=hSr.dF zB Hln.out hf
    have hsn:=uh (tl:=tl) (rq:=rq) (k:=k) (H:=H2) hf
    rw [HHJ.out] at hsn
    have hwr:=hT.gr.size
    obtain⟨wx,hwx⟩:∃ wx,wr.alloc (.cells #[.int .i64 (f.ver:Int),.int .i64 (f.kind:Int),.string f.pay] 43)=wx:=⟨_,rfl⟩
    have hbx:Below wr.heap.size wr wx:=by rw [← hwx]; exact (Below.refl _ _).alloc (Nat.le_refl _) _
    have Lw:Blk wx wr.heap.size 43 #[.int .i64 (f.ver:Int),.int .i64 (f.kind:Int),.string f.pay]:=by rw [← hwx]; exact heap_alloc_new wr _
    obtain⟨d0,d1,d2⟩:=rc3 hcl
    have z1:wx.cell? ⟨g,1+k*4+1,none⟩=some (.bool (HJ.cs k).closed):=by rw [(hA.blk.below hbx hlg).cell]; exact lH hk
    have f0:wx.cell? ⟨wr.heap.size,0,none⟩=some (.int .i64 (f.ver:Int)):=Lw.cell 0
    have f1:wx.cell? ⟨wr.heap.size,1,none⟩=some (.int .i64 (f.kind:Int)):=Lw.cell 1
    have f2:wx.cell? ⟨wr.heap.size,2,none⟩=some (.string f.pay):=Lw.cell 2
    have hlb:b<wr.heap.size:=by omega
    have hlx:=Lw.lt
    have hlk:j*3+3≤n*3:=by omega
    have HTx:=hid (hT.below_ hbx)
    have HAx:=hid (hA.below hbx)
    have tX:=hid (qR (tl:=tl) (rq:=rq) (k:=k) Htl.out (fs.take j) H2)
    have HFr:=hid (show (HJ.cs k).closed=false→Calls Tryz.prog 57 #[.pointer (some ⟨g,0,none⟩),.pointer (some ⟨g,1+k*4,none⟩),.agg #[.int .i64 (f.ver:Int),.int .i64 (f.kind:Int),.string f.pay]] wx (iV g V fb wv' (je tl rq HJ k f) (.tuple #[]) wx) from fun _=>by
     have h2:=tX.out
     rw [HHJ.out] at h2
     have hcs:∀ i,(H2.cs i).waits=(H.cs i).waits∧(H2.cs i).aL=(H.cs i).aL:=fun i=>by
      rw [← HH2.out]
      show (upd H.cs k _ i).waits=_∧(upd H.cs k _ i).aL=_
      by_cases e:i=k
      · subst e; rw [cL]; exact⟨rfl,rfl⟩
      · rw [upd_ne _ _ e]; exact⟨rfl,rfl⟩
     refine FW tl rq wx f HAx.out hk (HI2.out.to HTx.out) (Hrq.out f hfm) (Hok.out f hfm) (by have h3:=Hdo.out j f hf; rw [show ({ H with cs:=upd H.cs k (ug (H.cs k) s m e) }:gZ)=H2 from HH2.out,HHJ.out] at h3; exact h3) ?_ Htl.out (fun i hi=>?_)
     · rcases Ht.out with ⟨h3,h4⟩ | h3
       · refine .inl ⟨fun i hi=>?_,h4 f hfm⟩
         rw [h2.2 (fun g hg=>h4 g (List.mem_of_mem_take hg)) i,(hcs i).2]
         exact h3 i hi
       · exact .inr h3
     · have h3:=h2.1 i
       have h4:=Hl.out i hi
       rw [(hcs i).1,List.length_take] at h3
       have h5:=Hfl.out
       have h6:min j fs.length*21000≤2097152*21000:=Nat.mul_le_mul_right _ (by omega)
       omega)
    have Hsn:=hid hsn
    have Hwx:=hid hwx
    clear hA hT hSr hcl hsn hbx Lw hwx hf hfm tX hAF hnS hFl hwr
    cases hcl:(HJ.cs k).closed
    · have G:=hid (HFr.out hcl)
      rw [hcl] at y1 z1 Hsn
      rw [if_neg (by decide)] at Hsn
      clear HFr hcl
      go_wp2_with fail
      try simp only [Hwx.out]
      refine Calls.mono G.out ?_
      rintro x0 w4 hp
      obtain⟨rfl,wv4,x4,h4,t4⟩:=hp
      rw [← Hsn.out] at h4
      have H4:=hid h4
      have T4:=hid (HTx.out.trans t4)
      clear h4 t4 G d0 d1 d2 f0 f1 f2 y1 z1
      go_wp2
      go_roundw
      case rel=>exact⟨j+1,wv4,x4,by omega,by go_num,H4.out,T4.out⟩
      case measure=>simp [intOf]; omega
    · rw [hcl] at y1 z1 Hsn
      rw [if_pos rfl] at Hsn
      have H4:=hid (show cC wx g V fb wv' (eF tl rq k H2 (fs.take (j+1))).cs (eF tl rq k H2 (fs.take (j+1))).st x' (eF tl rq k H2 (fs.take (j+1))).now from by rw [Hsn.out]; exact HAx.out)
      clear HFr hcl HAx
      go_wp2
      try simp only [Hwx.out]
      go_roundw
      case rel=>exact⟨j+1,wv',x',by omega,by go_num,H4.out,HTx.out⟩
      case measure=>simp [intOf]; omega
  · obtain rfl:j=n:=by omega
    rw [List.take_of_length_le (by rw [Hln.out]; omega)] at HHJ
    have hSD:qQ tl rq H k s fs m e=if e≠3∧(HJ.cs k).closed=false then nZ HJ k e else HJ:=by
     unfold qQ
     rw [show ({ H with cs:=upd H.cs k (ug (H.cs k) s m e) }:gZ)=H2 from HH2.out,HHJ.out]
    have HSD:=hid hSD
    have HA:=hid hA
    have HT:=hid (HT2.out.trans hT)
    have tX:=hid (qR (tl:=tl) (rq:=rq) (k:=k) Htl.out fs H2)
    have hlen:(HJ.cs k).waits.length≤35184372088832:=by
     have h2:=tX.out.1 k
     rw [HHJ.out] at h2
     have h3:(H2.cs k).waits=(H.cs k).waits:=by rw [← HH2.out]; show (upd H.cs k _ k).waits=_; rw [cL]; rfl
     have h4:=Hl.out k hk
     have h5:=Hfl.out
     rw [h3] at h2
     have h6:fs.length*21000≤2097152*21000:=Nat.mul_le_mul_right _ h5
     omega
    have Hlen:=hid hlen
    have he0:e≠0:=HF.out.facts.2.1
    clear hA hT tX hlen hSD
    by_cases h3:e=3
    · have hE:E=0:=by rw [← HE.out,if_pos h3]
      subst hE
      have HSD:=hid (show qQ tl rq H k s fs m e=HJ from by rw [HSD.out,if_neg (fun h=>h.1 h3)])
      clear h3 he0 y1
      have FL:=hid (vV g (1+k*4) 123 _ (wv' k) (HJ.cs k).waits wr HA.out.blk (iB hk) (HA.out.wait k hk))
      have HX:=hid (HA.out.flush hk)
      have HTx:=hid (HT.out.trans HX.out.2)
      go_wp2_with fail
      refine Calls.mono FL.out ?_
      rintro x0 w5 ⟨rfl,rfl⟩
      go_wp2
      go_ret2
      rw [HSD.out]
      exact⟨rfl,_,_,HX.out.1,HTx.out⟩
    · have hE:E=(e:Int):=by rw [← HE.out,if_neg h3]
      subst hE
      have d1:((e:Int) != 0)=true:=bne_iff_ne.2 (by omega)
      cases hcl:(HJ.cs k).closed
      · have HSD:=hid (show qQ tl rq H k s fs m e=nZ HJ k e from by rw [HSD.out,if_pos ⟨h3,hcl⟩])
        have HC:=hid (vU wr HA.out hk (e:Int) Hlen.out)
        rw [hcl] at y1
        clear h3 he0 hcl
        go_wp2_with fail
        refine Calls.mono HC.out ?_
        rintro x0 w4 ⟨rfl,wv4,x4,h4,t4⟩
        have HA:=hid h4
        have HT:=hid (HT.out.trans t4)
        have hlg4:=h4.blk.lt
        clear h4 t4 HC y1
        have FL:=hid (vV g (1+k*4) 123 _ (wv4 k) ((nZ HJ k e).cs k).waits w4 HA.out.blk (iB hk) (HA.out.wait k hk))
        have HX:=hid (HA.out.flush hk)
        have HTx:=hid (HT.out.trans HX.out.2)
        go_wp2_with fail
        refine Calls.mono FL.out ?_
        rintro x0 w5 ⟨rfl,rfl⟩
        go_wp2
        go_ret2
        rw [HSD.out]
        exact⟨rfl,_,_,HX.out.1,HTx.out⟩
      · have HSD:=hid (show qQ tl rq H k s fs m e=HJ from by rw [HSD.out,if_neg (fun h=>by rw [hcl] at h; exact absurd h.2 (by decide))])
        rw [hcl] at y1
        clear h3 he0 hcl
        have FL:=hid (vV g (1+k*4) 123 _ (wv' k) (HJ.cs k).waits wr HA.out.blk (iB hk) (HA.out.wait k hk))
        have HX:=hid (HA.out.flush hk)
        have HTx:=hid (HT.out.trans HX.out.2)
        go_wp2_with fail
        refine Calls.mono FL.out ?_
        rintro x0 w5 ⟨rfl,rfl⟩
        go_wp2
        go_ret2
        rw [HSD.out]
        exact⟨rfl,_,_,HX.out.1,HTx.out⟩
def xR (F n i:Nat):List Value:=[if i<n then .pointer (some ⟨F+i,0,none⟩) else .pointer none,.bool false,.bool false,.slice none 0 0]
def pS (V F n:Nat):Array Value:=(.pointer (some ⟨V,0,none⟩) :: (xR F n 0 ++ xR F n 1 ++ xR F n 2 ++ xR F n 3 ++ xR F n 4 ++ xR F n 5 ++ xR F n 6 ++ xR F n 7)).toArray
theorem Jo {V F n:Nat} (h:n<8):(pS V F n)[1+n*4]? = some (.pointer none):=by rcases lt8 h with rfl | rfl | rfl | rfl | rfl | rfl | rfl | rfl <;> rfl
theorem FY {V F n:Nat} (h:n<8):(pS V F n).setIfInBounds (1+n*4) (.pointer (some ⟨F+n,0,none⟩))=pS V F (n+1):=by
 rcases lt8 h with rfl | rfl | rfl | rfl | rfl | rfl | rfl | rfl <;> simp [pS,xR]
theorem FZ (V F:Nat) (st:ah):pS V F 8=lG V (fun i=>F+i) (fun _=>.slice none 0 0) (zC st).cs:=by simp [pS,xR,lG,l7,zC]
def uj (st:ah) (w:World) (e:Ending) (w':World):Prop:=
 Below w.heap.size w w'∧((ay st≠0∧e = .returned (.tuple #[.pointer none,.int .i64 (ay st)])) ∨
  (ay st=0∧∃ g V fb x',e = .returned (.tuple #[.pointer (some ⟨g,0,none⟩),.int .i64 0])∧cC w' g V fb (fun _=>.slice none 0 0) (zC st).cs st x' 0∧∀ b,sE g V fb (fun _=>.slice none 0 0) b→w.heap.size≤b))
structure Lz (w0:World) (g V F:Nat) (st:ah) (x:StA) (n:Nat) (w:World):Prop where
 below:Below w0.heap.size w0 w
 blk:Blk w g 123 (pS V F n)
 srv:SrvAt w 215 V st x 0
 size:w.heap.size=F+n
 feed:∀ j,j<n→gX w (F+j) ⟨#[]⟩ 0 0
 lo:w0.heap.size≤g∧w0.heap.size≤V∧w0.heap.size≤F
theorem Jp (V F n:Nat):jF (pS V F n):=mO (by
 intro u hu s e
 subst e
 simp only [pS,List.mem_toArray,List.mem_cons,List.mem_append] at hu
 have H:∀ i,(Value.string s) ∉ xR F n i:=by
  intro i hu
  simp only [xR,List.mem_cons,List.not_mem_nil,or_false] at hu
  rcases hu with h | h | h | h
  · split at h <;> cases h
  · cases h
  · cases h
  · cases h
 rcases hu with h | ((((((h | h) | h) | h) | h) | h) | h) | h
 · cases h
 all_goals exact H _ h)
theorem Lz.step {w0 w w':World} {g V F:Nat} {st:ah} {x:StA} {n:Nat} (h:Lz w0 g V F st x n w) (hn:n<8) (hw':w'=((w.setCell ⟨g,1+n*4,none⟩ (.pointer (some ⟨w.heap.size,0,none⟩))).alloc (.cells #[.string ⟨#[]⟩,.int .i64 0,.int .i64 0] 74)).drew):Lz w0 g V F st x (n+1) w':=by
 have hw2:w'=(w.drew.alloc (.cells #[.string ⟨#[]⟩,.int .i64 0,.int .i64 0] 74)).setCell ⟨g,1+n*4,none⟩ (.pointer (some ⟨w.heap.size,0,none⟩)):=by rw [hw',World.setCell_alloc_past (w:=w.drew) _ _ _ _ h.blk.lt]; rfl
 clear hw'
 subst hw2
 have hb:Below w.heap.size w (w.drew.alloc (.cells #[.string ⟨#[]⟩,.int .i64 0,.int .i64 0] 74)):=(Below.refl _ _).drew.alloc (Nat.le_refl _) _
 have hb1:=h.blk.below hb h.blk.lt
 have hs:=h.srv.below hb
 have hg:=aC (w.drew.alloc (.cells #[.string ⟨#[]⟩,.int .i64 0,.int .i64 0] 74)) g (1+n*4) (.pointer (some ⟨w.heap.size,0,none⟩))
 have hsz:=h.size
 have hgV:g≠V:=bE h.blk h.srv.blk (by decide)
 have hnew:gX (w.drew.alloc (.cells #[.string ⟨#[]⟩,.int .i64 0,.int .i64 0] 74)) w.heap.size ⟨#[]⟩ 0 0:=heap_alloc_new w.drew _
 have hsize:(w.drew.alloc (.cells #[.string ⟨#[]⟩,.int .i64 0,.int .i64 0] 74)).heap.size=w.heap.size+1:=by simp
 refine⟨aJ (h.below.trans (hb.mono h.below.size)) hg h.lo.1,?_,hs.other hb1 (Jp _ _ _) hg hgV.symm,?_,fun j hj=>?_,h.lo⟩
 · have:=hb1.set (1+n*4) (.pointer (some ⟨w.heap.size,0,none⟩))
   rw [hsz,FY hn] at this
   rw [hsz]
   exact this
 · show ((w.drew.alloc (.cells #[.string ⟨#[]⟩,.int .i64 0,.int .i64 0] 74)).setCell _ _).heap.size=_
   simp [World.setCell,hsz]; omega
 · by_cases e:j=n
   · subst e
     rw [← hsz]
     exact aA hg hnew (bE hnew hb1 (by decide))
   · have hf:=h.feed j (by omega)
     have hf1:=Blk.below hf hb (Blk.lt hf)
     exact aA hg hf1 (bE hf1 hb1 (by decide))
theorem LA (st:ah) (x:StA) (w:World) (hS:StAt w w.heap.size st x) (hT:Tabs w) :
 Calls Tryz.prog 16 #[.agg (stC st x)] w (uj st w):=by
 obtain⟨W,hW⟩:∃ W,w.alloc (.cells (stC st x) 26)=W:=⟨_,rfl⟩
 have hbW:Below w.heap.size w W:=by rw [← hW]; exact (Below.refl _ _).alloc (Nat.le_refl _) _
 have hB:Blk W w.heap.size 26 (stC st x):=by rw [← hW]; exact heap_alloc_new w _
 have HN:=hid (show Calls Tryz.prog 54 #[.agg #[.int .i64 st.rev,.slice x.aj x.nj x.cj,.slice x.an x.nn x.cn,.slice x.al x.nl x.cl]] W (yg st W) from Je st x W (hS.upS hbW) (hT.below hbW))
 obtain⟨c0,c1,c2,c3⟩:=Blk.c4 (hB)
 have hlb:=hB.lt
 have HbW:=hid hbW
 have HW:=hid hW
 obtain⟨E,hE⟩:∃ E,ay st=E:=⟨_,rfl⟩
 have HE:=hid hE
 clear hbW hB hW hE hS hT
 unfold stC at HW ⊢
 go_enter Tryz.func16,Tryz.ntmps16
 go_wp2_with fail
 try simp only [HW.out]
 clear HW
 refine Calls.mono HN.out ?_
 rintro e w1 ⟨hb1,hcase⟩
 rw [HE.out] at hcase
 have Hb1:=hid (HbW.out.trans (hb1.mono HbW.out.size))
 have hsW:=HbW.out.size
 have HsW:=hid hsW
 clear hb1 HN HbW hsW c0 c1 c2 c3 hlb
 rcases hcase with ⟨hbad,rfl⟩ | ⟨hgood,V,x',rfl,hV1,hV2⟩
 · have d1:(E != 0)=true:=by simpa using hbad
   have F:=hid (show uj st w (.returned (.tuple #[.pointer none,.int .i64 E])) w1 from ⟨Hb1.out,.inl ⟨by rw [HE.out]; exact hbad,by rw [HE.out]⟩⟩)
   clear hbad Hb1 HE
   go_wp2
   go_ret2
   exact F.out
 · have HE0:=hid (HE.out.trans hgood)
   subst hgood
   have HV2:=hid hV2
   have HV1:=hid hV1
   clear hV1 hV2 HE
   obtain⟨w2,hw2⟩:∃ w2,w1.alloc (.cells #[.pointer (some ⟨V,0,none⟩),.pointer none,.bool false,.bool false,.slice none 0 0,.pointer none,.bool false,.bool false,.slice none 0 0,.pointer none,.bool false,.bool false,.slice none 0 0,.pointer none,.bool false,.bool false,.slice none 0 0,.pointer none,.bool false,.bool false,.slice none 0 0,.pointer none,.bool false,.bool false,.slice none 0 0,.pointer none,.bool false,.bool false,.slice none 0 0,.pointer none,.bool false,.bool false,.slice none 0 0] 123)=w2:=⟨_,rfl⟩
   obtain⟨g,hg⟩:∃ g,w1.heap.size=g:=⟨_,rfl⟩
   have hb2:Below w1.heap.size w1 w2:=by rw [← hw2]; exact (Below.refl _ _).alloc (Nat.le_refl _) _
   have H0:=hid (show Lz w g V w2.heap.size st x' 0 w2 from ⟨Hb1.out.trans (hb2.mono Hb1.out.size),by rw [← hw2,← hg]; exact heap_alloc_new w1 _,HV2.out.below hb2,by rw [Nat.add_zero],fun j hj=>absurd hj (by omega),by have:=Hb1.out.size; have:=HV1.out; have:=HsW.out; have:=hb2.size; omega⟩)
   have Hw2:=hid hw2
   have Hg:=hid hg
   clear hw2 hg hb2 HV1 HV2 HsW Hb1
   go_wp2_with fail
   simp only [Hw2.out,Hg.out]
   clear Hw2 Hg
   go_loopw [19] (fun i wr=>∃ n,n≤8∧i = .int .i64 ((n:Nat):Int)∧Lz w g V w2.heap.size st x' n wr) (fun i _=>8 - (intOf i).toNat)
   case atStart=>exact⟨0,by omega,rfl,H0.out⟩
   case round=>
    obtain⟨n,hn,rfl,hA⟩:=hrel
    have HA:=hid hA
    have hlg:=hA.blk.lt
    by_cases hlt:n<8
    · have y0:wr.cell? ⟨g,1+n*4,none⟩=some (.pointer none):=by rw [hA.blk.cell]; exact Jo hlt
      have z0:wr.frozen? ⟨g,1+n*4,none⟩=false:=hA.blk.thaw _
      have HS:=hid (HA.out.step hlt rfl)
      clear hA
      go_wp2_with fail
      go_region_with (go_at_call 8; refine (Io _).mono ?_; rintro e w' ⟨rfl,rfl⟩)
      go_wp2
      go_roundw
      case rel=>exact⟨n+1,by omega,by go_num,HS.out⟩
      case measure=>simp [intOf]; omega
    · obtain rfl:n=8:=by omega
      have hF:uj st w (.returned (.tuple #[.pointer (some ⟨g,0,none⟩),.int .i64 0])) wr:=by
       refine⟨hA.below,.inr ⟨HE0.out,g,V,fun i=>w2.heap.size+i,x',rfl,⟨by rw [← FZ]; exact hA.blk,hA.srv,fun i hi=>hA.feed i hi,fun i _=>ByteRow.nil _,fun i j _ _ e=>by omega,fun i j b _ _ e _=>by cases e⟩,fun b hb=>?_⟩⟩
       have:=hA.lo
       rcases hb with e | e | ⟨i,hi,e | e⟩
       · omega
       · omega
       · have e:b=w2.heap.size+i:=e
         omega
       · cases e
      have F:=hid hF
      clear hA hF HA
      go_wp2
      go_ret2
      exact F.out
def I64 (n:Int):Prop:=-9223372036854775808≤n∧n≤9223372036854775807
def Short (s:ByteArray):Prop:=s.size≤9223372036854775807
def CC (j:aB):Prop:=Short j.name∧I64 j.prio∧I64 j.need∧I64 j.tries∧Short j.tag
def zE (n:av):Prop:=Short n.name∧I64 n.room∧Short n.zone
def vW (l:ak):Prop:=Short l.job∧Short l.node∧I64 l.till
theorem vX {H α:Type} {enc:TypeId × Value→H} {W:World} {held:Bool} {fuel:Nat} {cs:List Value} {x:DataW H × List MemPlace} {t e:TypeId} {sz:Nat} (Jq:α→List Value) (ok:α→Prop) (a0:α)
 (ht : Tryz.prog.underlying t=some (.slice e)) (hc : Tryz.prog.cellsOf e=sz) (hsz:0<sz) (hlen:∀ a,(Jq a).length=sz)
 (each:∀ n cs' y,DataW.trod enc Tryz.prog W 0 (fun _=>true) held n e cs'=some y→∃ a:α,cs'=Jq a∧ok a)
 (h:DataW.trod enc Tryz.prog W 0 (fun _=>true) held fuel t cs=some x) (hlt:∀ z ∈ x.2,z.block<W.heap.size) :
 ∃ (xs:List α) (A:Option Addr) (n c:Nat),cs=[.slice A n c]∧xs.length=n∧n≤9223372036854775807∧aQ W W.heap.size sz A n (au Jq xs)∧∀ a ∈ xs,ok a:=by
 haveI:Inhabited α:=⟨a0⟩
 rcases Go.Deep.open_slice ht h with ⟨rfl,-⟩ | ⟨a,len,cap,m,n,D,Pl,rfl,hb,hl,hm,hmm,rfl,hx⟩
 · exact⟨[],none,0,0,rfl,rfl,by omega,aQ.nil,by simp⟩
 · simp only [if_true] at hmm
   subst hmm
   rw [hc] at hx hlt
   obtain⟨f,hf⟩:=Go.Deep.choose_lt (α:=α) (p:=fun i u=>W.cells? 0 (a.add (i*sz)) sz=some (Jq u)∧ok u) (fun i hi=>by
    obtain⟨cs',h1,h2⟩:=hx i hi
    obtain⟨u,rfl,hu⟩:=each _ _ _ h2
    exact⟨u,h1,hu⟩)
   have hcell:∀ i,i<m→∀ j,j<sz→W.cell? ((a.add (i*sz)).add j)=(Jq (f i))[j]?:=fun i hi j hj=>(World.cells?_some (hf i hi).1).2.2 j hj
   refine⟨(List.range len).map f,some a,len,m,rfl,by simp,by unfold maxLen at hm; omega,⟨by rw [iW hlen]; simp,fun hn=>?_⟩,fun u hu=>?_⟩
   · have hfst:∃ v,W.cell? ((a.add (0*sz)).add 0)=some v:=by
      rw [hcell 0 (by omega) 0 hsz]
      exact⟨_,List.getElem?_eq_getElem (by rw [hlen]; exact hsz)⟩
     obtain⟨v,hv⟩:=hfst
     obtain⟨b,off,spot⟩:=a
     have hspot:spot=none:=by simpa [Addr.add] using World.cell?_spot hv
     subst hspot
     refine⟨b,off,rfl,?_,fun j u hu=>?_⟩
     · refine hlt (.cell b off) (List.mem_append_left _ (MemPlace.mem_row.2 ⟨0,?_,rfl⟩))
       exact Nat.mul_pos (by omega) hsz
     · have hj:j<len*sz:=by
        rcases Nat.lt_or_ge j (len*sz) with h1 | h1
        · exact h1
        · rw [List.getElem?_eq_none (by rw [iW hlen]; simpa using h1)] at hu; cases hu
       have hq:j / sz<len:=Nat.div_lt_of_lt_mul (by rw [Nat.mul_comm]; exact hj)
       have hr:j % sz<sz:=Nat.mod_lt _ hsz
       have hjd:j=j / sz*sz+j % sz:=by rw [Nat.mul_comm]; exact (Nat.div_add_mod j sz).symm
       have h1:=hcell (j / sz) (by omega) (j % sz) hr
       rw [add_plain,add_plain,Nat.add_assoc,← hjd] at h1
       rw [h1,← hu]
       conv=>rhs; rw [hjd]
       rw [oT hlen _ _ _ (f (j / sz)) (by simp [hq]) hr]
   · obtain⟨i,hi,rfl⟩:=List.mem_map.1 hu
     exact (hf i (by have:=List.mem_range.1 hi; omega)).2
theorem D6 : Tryz.prog.cellsOf 59 = 5:=by kernel_rfl
theorem Bz : Tryz.prog.cellsOf 61 = 3:=by kernel_rfl
theorem zF : Tryz.prog.cellsOf 63 = 3:=by kernel_rfl
theorem F0 : Tryz.prog.cellsOf 26 = 4:=by kernel_rfl
theorem oU {s:ByteArray} (h:s.size≤maxLen):Short s:=by unfold maxLen at h; unfold Short; omega
theorem NM {H:Type} {enc:TypeId × Value→H} {W:World} {held:Bool} (n:Nat) (cs:List Value) (y:DataW H × List MemPlace) (h:DataW.trod enc Tryz.prog W 0 (fun _=>true) held n 59 cs=some y):∃ a:aB,cs=aH a∧CC a:=by
 obtain⟨xs,m,-,-,hl,hxs,hall⟩:=DataW.trod_struct Tryz.underlying59 h
 have hl2:cs.length=5:=hl.trans D6
 have qS:xs.length=5:=hxs
 match cs,hl2 with
 | [v0,v1,v2,v3,v4],_=>
  have q0:=hall 0 _ rfl
  rw [List.getElem?_eq_getElem (by omega)] at q0
  obtain⟨s0,e0,-,z0⟩:=DataW.trod_string Tryz.underlying9 q0
  replace e0:[v0]=[_]:=e0
  obtain rfl:=(List.cons.inj e0).1
  have q1:=hall 1 _ rfl
  rw [List.getElem?_eq_getElem (by omega)] at q1
  obtain⟨s1,e1,-,z1⟩:=DataW.trod_int Tryz.underlying3 q1
  replace e1:[v1]=[_]:=e1
  obtain rfl:=(List.cons.inj e1).1
  have q2:=hall 2 _ rfl
  rw [List.getElem?_eq_getElem (by omega)] at q2
  obtain⟨s2,e2,-,z2⟩:=DataW.trod_int Tryz.underlying3 q2
  replace e2:[v2]=[_]:=e2
  obtain rfl:=(List.cons.inj e2).1
  have q3:=hall 3 _ rfl
  rw [List.getElem?_eq_getElem (by omega)] at q3
  obtain⟨s3,e3,-,z3⟩:=DataW.trod_int Tryz.underlying3 q3
  replace e3:[v3]=[_]:=e3
  obtain rfl:=(List.cons.inj e3).1
  have q4:=hall 4 _ rfl
  rw [List.getElem?_eq_getElem (by omega)] at q4
  obtain⟨s4,e4,-,z4⟩:=DataW.trod_string Tryz.underlying9 q4
  replace e4:[v4]=[_]:=e4
  obtain rfl:=(List.cons.inj e4).1
  exact⟨⟨s0,s1,s2,s3,s4⟩,rfl,oU z0,gq z1,gq z2,gq z3,oU z4⟩
theorem zG :
 (∀ {H:Type} {enc:TypeId × Value→H} {W:World} {held:Bool} (n:Nat) (cs:List Value) (y:DataW H × List MemPlace) (h:DataW.trod enc Tryz.prog W 0 (fun _=>true) held n 61 cs=some y),∃ a:av,cs=aI a∧zE a) ∧
 (∀ {H:Type} {enc:TypeId × Value→H} {W:World} {held:Bool} (n:Nat) (cs:List Value) (y:DataW H × List MemPlace) (h:DataW.trod enc Tryz.prog W 0 (fun _=>true) held n 63 cs=some y),∃ a:ak,cs=aE a∧vW a):=by
 refine⟨@fun H enc W held n cs y h=>(fun(jM0:Unit)=>?_) (),@fun H enc W held n cs y h=>?_⟩<;>(
 first|(guard_hyp jM0;obtain⟨xs,m,-,-,hl,hxs,hall⟩:=DataW.trod_struct Tryz.underlying61 h)|obtain⟨xs,m,-,-,hl,hxs,hall⟩:=DataW.trod_struct Tryz.underlying63 h
 first|(guard_hyp jM0;have hl2:cs.length=3:=hl.trans Bz)|have hl2:cs.length=3:=hl.trans zF
 have qS:xs.length=3:=hxs
 match cs,hl2 with
 | [v0,v1,v2],_=>
  have q0:=hall 0 _ rfl
  rw [List.getElem?_eq_getElem (by omega)] at q0
  obtain⟨s0,e0,-,z0⟩:=DataW.trod_string Tryz.underlying9 q0
  replace e0:[v0]=[_]:=e0
  obtain rfl:=(List.cons.inj e0).1
  have q1:=hall 1 _ rfl
  rw [List.getElem?_eq_getElem (by omega)] at q1
  first|(guard_hyp jM0;obtain⟨s1,e1,-,z1⟩:=DataW.trod_int Tryz.underlying3 q1)|obtain⟨s1,e1,-,z1⟩:=DataW.trod_string Tryz.underlying9 q1
  replace e1:[v1]=[_]:=e1
  obtain rfl:=(List.cons.inj e1).1
  have q2:=hall 2 _ rfl
  rw [List.getElem?_eq_getElem (by omega)] at q2
  first|(guard_hyp jM0;obtain⟨s2,e2,-,z2⟩:=DataW.trod_string Tryz.underlying9 q2)|obtain⟨s2,e2,-,z2⟩:=DataW.trod_int Tryz.underlying3 q2
  replace e2:[v2]=[_]:=e2
  obtain rfl:=(List.cons.inj e2).1
  first|(guard_hyp jM0;exact⟨⟨s0,s1,s2⟩,rfl,oU z0,gq z1,oU z2⟩)|exact⟨⟨s0,s1,s2⟩,rfl,oU z0,oU z1,gq z2⟩)
structure P1 (st:ah):Prop where
 rev:I64 st.rev
 jobs:∀ j ∈ st.jobs,CC j
 nodes:∀ n ∈ st.nodes,zE n
 leases:∀ l ∈ st.leases,vW l
theorem F1 {H:Type} {enc:TypeId × Value→H} {W:World} {r:Reach} {b0:Nat} {held:Bool} {v:Value} {d:DataW H} {p:List MemPlace}
 (hval:Value.okWide Tryz.prog W r b0 26 v) (hd:DataW.Trod enc Tryz.prog W 0 (fun _=>true) held 26 v d p) (hlt:∀ x ∈ p,x.block<W.heap.size) :
 ∃ (st:ah) (x:StA),v = .agg (stC st x)∧StAt W W.heap.size st x∧P1 st:=by
 obtain⟨v0,v1,v2,v3,y0,y1,y2,y3,n,rfl,rfl,rfl,h0,h1,h2,h3⟩:=Joins.open_agg4 Tryz.underlying26 (by kernel_rfl) F0 hval hd
 obtain⟨rev,e0,-,zr⟩:=DataW.trod_int Tryz.underlying3 h0
 obtain⟨js,aj,nj,cj,e1,lj,bj,hj,oj⟩:=vX aH CC ⟨⟨#[]⟩,0,0,0,⟨#[]⟩⟩ Tryz.underlying22 D6 (by omega) aN (fun n cs y h=>NM n cs y h) h1 (fun z hz=>hlt z (by simp [hz]))
 obtain⟨ns,an,nn,cn,e2,ln,bn,hn,on_⟩:=vX aI zE ⟨⟨#[]⟩,0,⟨#[]⟩⟩ Tryz.underlying23 Bz (by omega) bF (fun n cs y h=>zG.1 n cs y h) h2 (fun z hz=>hlt z (by simp [hz]))
 obtain⟨ls,al,nl,cl,e3,ll,bl,hl,ol⟩:=vX aE vW ⟨⟨#[]⟩,⟨#[]⟩,0⟩ Tryz.underlying24 zF (by omega) bB (fun n cs y h=>zG.2 n cs y h) h3 (fun z hz=>hlt z (by simp [hz]))
 obtain rfl:=(List.cons.inj e0).1
 obtain rfl:=(List.cons.inj e1).1
 obtain rfl:=(List.cons.inj e2).1
 obtain rfl:=(List.cons.inj e3).1
 exact⟨⟨rev,js,ns,ls⟩,⟨aj,nj,cj,an,nn,cn,al,nl,cl⟩,rfl,⟨hj,hn,hl,lj,ln,ll,bj,bn,bl,fun x hx=>⟨(oj x hx).1,(oj x hx).2.2.2.2⟩,fun x hx=>⟨(on_ x hx).1,(on_ x hx).2.2⟩,fun x hx=>⟨(ol x hx).1,(ol x hx).2.1⟩⟩,
  ⟨gq zr,oj,on_,ol⟩⟩
end Go.Proofs.YtcpgnjmaampglaaGreatDoor
