/- Of the proof of a statement: HubN, BytesOf, HubW. -/
import Derived.Test.YtbllgmociapjeaaGreatDoorVArgJk
set_option linter.unusedVariables false
set_option linter.unusedSimpArgs false
set_option maxRecDepth 100000
set_option maxHeartbeats 8000000
/- The walk of hub.New. -/
namespace Go.Proofs.YtbllgmociapjeaaGreatDoor
open Go.Lib (hid)
open Go.RowKit
def um (F n i:Nat):List Value:=[if i<n then .pointer (some ⟨F+i,0,none⟩) else .pointer none,.bool false,.bool false,.slice none 0 0]
def nA (V F n:Nat):Array Value:=(.pointer (some ⟨V,0,none⟩) :: (um F n 0 ++ um F n 1 ++ um F n 2 ++ um F n 3 ++ um F n 4 ++ um F n 5 ++ um F n 6 ++ um F n 7)).toArray
theorem Ee {V F n:Nat} (h:n<8):(nA V F n)[1+n*4]? = some (.pointer none):=by rcases lt8 h with rfl | rfl | rfl | rfl | rfl | rfl | rfl | rfl <;> rfl
theorem B3 {V F n:Nat} (h:n<8):(nA V F n).setIfInBounds (1+n*4) (.pointer (some ⟨F+n,0,none⟩))=nA V F (n+1):=by
 rcases lt8 h with rfl | rfl | rfl | rfl | rfl | rfl | rfl | rfl <;> simp [nA,um]
theorem B4 (V F:Nat) (st:ah):nA V F 8=ku V (fun i=>F+i) (fun _=>.slice none 0 0) (mA st).cs:=by simp [nA,um,ku,kM,mA]
def rA (st:ah) (w:World) (e:Ending) (w':World):Prop:=
 Below w.heap.size w w'∧((aE st≠0∧e = .returned (.tuple #[.pointer none,.int .i64 (aE st)])) ∨
  (aE st=0∧∃ g V fb x',e = .returned (.tuple #[.pointer (some ⟨g,0,none⟩),.int .i64 0])∧bL w' g V fb (fun _=>.slice none 0 0) (mA st).cs st x' 0∧∀ b,nP g V fb (fun _=>.slice none 0 0) b→w.heap.size≤b))
structure Gp (w0:World) (g V F:Nat) (st:ah) (x:StA) (n:Nat) (w:World):Prop where
 below:Below w0.heap.size w0 w
 blk:Blk w g 89 (nA V F n)
 srv:SrvAt w 136 V st x 0
 size:w.heap.size=F+n
 feed:∀ j,j<n→iX w (F+j) ⟨#[]⟩ 0 0
 lo:w0.heap.size≤g∧w0.heap.size≤V∧w0.heap.size≤F
theorem Ef (V F n:Nat):jf (nA V F n):=lH (by
 intro u hu s e
 subst e
 simp only [nA,List.mem_toArray,List.mem_cons,List.mem_append] at hu
 have H:∀ i,(Value.string s) ∉ um F n i:=by
  intro i hu
  simp only [um,List.mem_cons,List.not_mem_nil,or_false] at hu
  rcases hu with h | h | h | h
  · split at h <;> cases h
  · cases h
  · cases h
  · cases h
 rcases hu with h | ((((((h | h) | h) | h) | h) | h) | h) | h
 · cases h
 all_goals exact H _ h)
theorem Gp.step {w0 w w':World} {g V F:Nat} {st:ah} {x:StA} {n:Nat} (h:Gp w0 g V F st x n w) (hn:n<8) (hw':w'=((w.setCell ⟨g,1+n*4,none⟩ (.pointer (some ⟨w.heap.size,0,none⟩))).alloc (.cells #[.string ⟨#[]⟩,.int .i64 0,.int .i64 0] 138)).drew):Gp w0 g V F st x (n+1) w':=by
 have hw2:w'=(w.drew.alloc (.cells #[.string ⟨#[]⟩,.int .i64 0,.int .i64 0] 138)).setCell ⟨g,1+n*4,none⟩ (.pointer (some ⟨w.heap.size,0,none⟩)):=by rw [hw',World.setCell_alloc_past (w:=w.drew) _ _ _ _ h.blk.lt]; rfl
 clear hw'
 subst hw2
 have hb:Below w.heap.size w (w.drew.alloc (.cells #[.string ⟨#[]⟩,.int .i64 0,.int .i64 0] 138)):=(Below.refl _ _).drew.alloc (Nat.le_refl _) _
 have hb1:=h.blk.below hb h.blk.lt
 have hs:=h.srv.below hb
 have hg:=bE (w.drew.alloc (.cells #[.string ⟨#[]⟩,.int .i64 0,.int .i64 0] 138)) g (1+n*4) (.pointer (some ⟨w.heap.size,0,none⟩))
 have hsz:=h.size
 have hgV:g≠V:=aZ h.blk h.srv.blk (by decide)
 have hnew:iX (w.drew.alloc (.cells #[.string ⟨#[]⟩,.int .i64 0,.int .i64 0] 138)) w.heap.size ⟨#[]⟩ 0 0:=heap_alloc_new w.drew _
 have hsize:(w.drew.alloc (.cells #[.string ⟨#[]⟩,.int .i64 0,.int .i64 0] 138)).heap.size=w.heap.size+1:=by simp
 refine⟨dR (h.below.trans (hb.mono h.below.size)) hg h.lo.1,?_,hs.other hb1 (Ef _ _ _) hg hgV.symm,?_,fun j hj=>?_,h.lo⟩
 · have:=hb1.set (1+n*4) (.pointer (some ⟨w.heap.size,0,none⟩))
   rw [hsz,B3 hn] at this
   rw [hsz]
   exact this
 · show ((w.drew.alloc (.cells #[.string ⟨#[]⟩,.int .i64 0,.int .i64 0] 138)).setCell _ _).heap.size=_
   simp [World.setCell,hsz]; omega
 · by_cases e:j=n
   · subst e
     rw [← hsz]
     exact aD hg hnew (aZ hnew hb1 (by decide))
   · have hf:=h.feed j (by omega)
     have hf1:=Blk.below hf hb (Blk.lt hf)
     exact aD hg hf1 (aZ hf1 hb1 (by decide))
theorem AE (st:ah) (x:StA) (w:World) (hS:StAt w w.heap.size st x) (hT:Tabs w) :
 Calls Tryz.prog 10 #[.agg (stC st x)] w (rA st w):=by
 obtain⟨W,hW⟩:∃ W,w.alloc (.cells (stC st x) 26)=W:=⟨_,rfl⟩
 have hbW:Below w.heap.size w W:=by rw [← hW]; exact (Below.refl _ _).alloc (Nat.le_refl _) _
 have hB:Blk W w.heap.size 26 (stC st x):=by rw [← hW]; exact heap_alloc_new w _
 have HN:=hid (show Calls Tryz.prog 28 #[.agg #[.int .i64 st.rev,.slice x.aj x.nj x.cj,.slice x.an x.nn x.cn,.slice x.al x.nl x.cl]] W (uC st W) from Dy st x W (hS.upS hbW) (hT.below hbW))
 obtain⟨c0,c1,c2,c3⟩:=Blk.c4 (hB)
 have hlb:=hB.lt
 have HbW:=hid hbW
 have HW:=hid hW
 obtain⟨E,hE⟩:∃ E,aE st=E:=⟨_,rfl⟩
 have HE:=hid hE
 clear hbW hB hW hE hS hT
 unfold stC at HW ⊢
 go_enter Tryz.func10,Tryz.ntmps10
 go_wp2_with fail
 try simp only [HW.out]
 clear HW
 refine Calls.mono HN.out ?_
 rintro e w1 ⟨hb1,hcase⟩
 rw [HE.out] at hcase
 have Hb1:=hid (HbW.out.trans (hb1.mono HbW.out.size))
 have hsW:=HbW.out.size
 have HsW:=hid hsW
 clear hb1 HN HbW hsW c0 c1 c2 c3 hlb
 rcases hcase with ⟨hbad,rfl⟩ | ⟨hgood,V,x',rfl,hV1,hV2⟩
 · have d1:(E != 0)=true:=by simpa using hbad
   have F:=hid (show rA st w (.returned (.tuple #[.pointer none,.int .i64 E])) w1 from ⟨Hb1.out,.inl ⟨by rw [HE.out]; exact hbad,by rw [HE.out]⟩⟩)
   clear hbad Hb1 HE
   go_wp2
   go_ret2
   exact F.out
 · have HE0:=hid (HE.out.trans hgood)
   subst hgood
   have HV2:=hid hV2
   have HV1:=hid hV1
   clear hV1 hV2 HE
   obtain⟨w2,hw2⟩:∃ w2,w1.alloc (.cells #[.pointer (some ⟨V,0,none⟩),.pointer none,.bool false,.bool false,.slice none 0 0,.pointer none,.bool false,.bool false,.slice none 0 0,.pointer none,.bool false,.bool false,.slice none 0 0,.pointer none,.bool false,.bool false,.slice none 0 0,.pointer none,.bool false,.bool false,.slice none 0 0,.pointer none,.bool false,.bool false,.slice none 0 0,.pointer none,.bool false,.bool false,.slice none 0 0,.pointer none,.bool false,.bool false,.slice none 0 0] 89)=w2:=⟨_,rfl⟩
   obtain⟨g,hg⟩:∃ g,w1.heap.size=g:=⟨_,rfl⟩
   have hb2:Below w1.heap.size w1 w2:=by rw [← hw2]; exact (Below.refl _ _).alloc (Nat.le_refl _) _
   have H0:=hid (show Gp w g V w2.heap.size st x' 0 w2 from ⟨Hb1.out.trans (hb2.mono Hb1.out.size),by rw [← hw2,← hg]; exact heap_alloc_new w1 _,HV2.out.below hb2,by rw [Nat.add_zero],fun j hj=>absurd hj (by omega),by have:=Hb1.out.size; have:=HV1.out; have:=HsW.out; have:=hb2.size; omega⟩)
   have Hw2:=hid hw2
   have Hg:=hid hg
   clear hw2 hg hb2 HV1 HV2 HsW Hb1
   go_wp2_with fail
   simp only [Hw2.out,Hg.out]
   clear Hw2 Hg
   go_loopw [19] (fun i wr=>∃ n,n≤8∧i = .int .i64 ((n:Nat):Int)∧Gp w g V w2.heap.size st x' n wr) (fun i _=>8 - (intOf i).toNat)
   case atStart=>exact⟨0,by omega,rfl,H0.out⟩
   case round=>
    obtain⟨n,hn,rfl,hA⟩:=hrel
    have HA:=hid hA
    have hlg:=hA.blk.lt
    by_cases hlt:n<8
    · have y0:wr.cell? ⟨g,1+n*4,none⟩=some (.pointer none):=by rw [hA.blk.cell]; exact Ee hlt
      have z0:wr.frozen? ⟨g,1+n*4,none⟩=false:=hA.blk.thaw _
      have HS:=hid (HA.out.step hlt rfl)
      clear hA
      go_wp2_with fail
      go_region_with (go_at_call 29; refine (Jj _).mono ?_; rintro e w' ⟨rfl,rfl⟩)
      go_wp2
      go_roundw
      case rel=>exact⟨n+1,by omega,by go_num,HS.out⟩
      case measure=>simp [intOf]; omega
    · obtain rfl:n=8:=by omega
      have hF:rA st w (.returned (.tuple #[.pointer (some ⟨g,0,none⟩),.int .i64 0])) wr:=by
       refine⟨hA.below,.inr ⟨HE0.out,g,V,fun i=>w2.heap.size+i,x',rfl,⟨by rw [← B4]; exact hA.blk,hA.srv,fun i hi=>hA.feed i hi,fun i _=>ByteRow.nil _,fun i j _ _ e=>by omega,fun i j b _ _ e _=>by cases e⟩,fun b hb=>?_⟩⟩
       have:=hA.lo
       rcases hb with e | e | ⟨i,hi,e | e⟩
       · omega
       · omega
       · have e:b=w2.heap.size+i:=e
         omega
       · cases e
      have F:=hid hF
      clear hA hF HA
      go_wp2
      go_ret2
      exact F.out
end Go.Proofs.YtbllgmociapjeaaGreatDoor
/- What a request is as bytes (bytesOf), and where there are none. -/
namespace Go.Proofs.YtbllgmociapjeaaGreatDoor
open Go.Lib (hid)
open Go.RowKit
theorem AH (q:aF):(gZ q).length≤100:=by
 have h0:=cH q.kind.toNat
 have h1:=lA q.job 3
 have h2:=jF q.node 3
 have h3:=jG q.lease
 have h4:=cU q.name
 have h5:=cH q.n.toNat
 unfold gZ dH
 rw [List.length_append]
 repeat' split
 all_goals first | omega | (rw [List.length_nil]; omega)
def kX (s:ByteArray) (b:Bool) (w:World) (e:Ending) (w':World):Prop:=e = .returned (.tuple #[.string s,.bool b])∧Below w.heap.size w w'
theorem vM (q:aF) (w:World) (hok:ROk q) (hT:Tabs w) (h0:cu q=0) :
 Calls Tryz.prog 8 #[bH q] w (kX (BA (cR 3 3 (gZ q))) true w):=by
 have hl:(gZ q).length≤6000:=Nat.le_trans (AH q) (by decide)
 obtain⟨W,hW⟩:∃ W,w.alloc (.cells (aN q) 38)=W:=⟨_,rfl⟩
 have hb:Blk W w.heap.size 38 (aN q):=by rw [← hW]; exact heap_alloc_new w _
 have hbW:Below w.heap.size w W:=by rw [← hW]; exact (Below.refl _ _).alloc (Nat.le_refl _) _
 have HE:=hid (B5 q W h0 hok (hT.below hbW))
 obtain⟨c0,c1,c2,c3,c4,c5,c6,c7,c8,c9,c10,c11,c12,c13⟩:=Blk.c14 (hb)
 have hlt:=hb.lt
 have HbW:=hid hbW
 have HW:=hid hW
 obtain⟨L,hL⟩:∃ L,gZ q=L:=⟨_,rfl⟩
 rw [hL] at hl HE ⊢
 have HF:=hid (fun w=>yF 3 3 (BA L) w)
 have Hen:=hid (Fk (kind:=3) (p:=BA L) (by decide) (by rw [fY]; exact hl))
 clear hb hbW hW hT hok h0 hL hl
 unfold bH at HE ⊢
 unfold aN at HE HW ⊢
 go_enter Tryz.func8,Tryz.ntmps8
 go_wp2_with fail
 try simp only [HW.out]
 clear HW
 refine Calls.mono HE.out ?_
 rintro e w1 ⟨rfl,hb1⟩
 have HF1:=hid (HF.out w1)
 have Hb1:=hid (HbW.out.trans (hb1.mono HbW.out.size))
 clear hb1 HE HF HbW c0 c1 c2 c3 c4 c5 c6 c7 c8 c9 c10 c11 c12 c13 hlt
 go_wp2_with fail
 refine Calls.mono HF1.out ?_
 rintro e w2 ⟨rfl,hb2⟩
 have bI:=hid (Hb1.out.trans (hb2.mono Hb1.out.size))
 rw [Hen.out]
 have hbl:(BA L).data.toList=L:=iM L
 rw [hbl]
 dsimp only
 clear hb2 hbl HF1 Hb1 Hen
 go_wp2
 go_ret2
 exact⟨rfl,bI.out⟩
theorem B6 (q:aF) (w:World) (hok:ROk q) (hT:Tabs w) (h0:cu q≠0) :
 Calls Tryz.prog 26 #[bH q] w fun e w'=>e = .returned (.tuple #[.string ⟨#[]⟩,.int .i64 (cu q)])∧Below w.heap.size w w':=by
 obtain⟨W,hW⟩:∃ W,w.alloc (.cells (aN q) 38)=W:=⟨_,rfl⟩
 have hb:Blk W w.heap.size 38 (aN q):=by rw [← hW]; exact heap_alloc_new w _
 have hbW:Below w.heap.size w W:=by rw [← hW]; exact (Below.refl _ _).alloc (Nat.le_refl _) _
 have HCk:=hid (cE q W hok (hT.below hbW))
 obtain⟨c0,c1,c2,c3,c4,c5,c6,c7,c8,c9,c10,c11,c12,c13⟩:=Blk.c14 (hb)
 have hlt:=hb.lt
 have HbW:=hid hbW
 have HW:=hid hW
 obtain⟨E,hE⟩:∃ E,cu q=E:=⟨_,rfl⟩
 rw [hE] at HCk h0 ⊢
 have d0:(E != 0)=true:=bne_iff_ne.2 h0
 clear hb hbW hW hT hok h0 hE
 unfold bH at HCk ⊢
 unfold aN at HCk HW ⊢
 go_enter Tryz.func26,Tryz.ntmps26
 go_wp2_with fail
 try simp only [HW.out]
 clear HW
 refine Calls.mono HCk.out ?_
 rintro e w1 ⟨rfl,hb1⟩
 have HB1:=hid (HbW.out.trans (hb1.mono HbW.out.size))
 clear hb1 HCk HbW c0 c1 c2 c3 c4 c5 c6 c7 c8 c9 c10 c11 c12 c13 hlt
 go_wp2
 go_ret2
 exact⟨rfl,HB1.out⟩
theorem AI (q:aF) (w:World) (hok:ROk q) (hT:Tabs w) (h0:cu q≠0) :
 Calls Tryz.prog 8 #[bH q] w (kX ⟨#[]⟩ false w):=by
 obtain⟨W,hW⟩:∃ W,w.alloc (.cells (aN q) 38)=W:=⟨_,rfl⟩
 have hb:Blk W w.heap.size 38 (aN q):=by rw [← hW]; exact heap_alloc_new w _
 have hbW:Below w.heap.size w W:=by rw [← hW]; exact (Below.refl _ _).alloc (Nat.le_refl _) _
 have HE:=hid (B6 q W hok (hT.below hbW) h0)
 obtain⟨c0,c1,c2,c3,c4,c5,c6,c7,c8,c9,c10,c11,c12,c13⟩:=Blk.c14 (hb)
 have hlt:=hb.lt
 have HbW:=hid hbW
 have HW:=hid hW
 obtain⟨E,hE⟩:∃ E,cu q=E:=⟨_,rfl⟩
 rw [hE] at HE h0
 have d0:(E != 0)=true:=bne_iff_ne.2 h0
 clear hb hbW hW hT hok h0 hE
 unfold bH at HE ⊢
 unfold aN at HE HW ⊢
 go_enter Tryz.func8,Tryz.ntmps8
 go_wp2_with fail
 try simp only [HW.out]
 clear HW
 refine Calls.mono HE.out ?_
 rintro e w1 ⟨rfl,hb1⟩
 have HB1:=hid (HbW.out.trans (hb1.mono HbW.out.size))
 clear hb1 HE HbW c0 c1 c2 c3 c4 c5 c6 c7 c8 c9 c10 c11 c12 c13 hlt
 go_wp2
 go_ret2
 exact⟨rfl,HB1.out⟩
end Go.Proofs.YtbllgmociapjeaaGreatDoor
/- The walk of a hub's tell: what a hub tells of a state. -/
namespace Go.Proofs.YtbllgmociapjeaaGreatDoor
open Go.Lib (hid)
open Go.RowKit
def tlW (st:ah):List UInt8:=if (jE st 3).2=0 then (jE st 3).1.data.toList else cR 3 4 (gK 2 st.rev).1.data.toList
theorem Eg (v k:Int) (p:ByteArray):(pJ v k p).1.size≤6020:=by
 unfold pJ
 split
 · exact Nat.zero_le _
 · split
   · exact Nat.zero_le _
   · rename_i h
     have h2:=jW v.toNat k.toNat p.data.toList (by have h3:p.data.toList.length=p.size:=(by simp);omega)
     show (BA (cR _ _ _)).size≤_
     rw [fY]; exact h2.2
theorem xT (st:ah):(jE st 3).1.size≤6020:=by
 unfold jE
 split
 · exact Nat.zero_le _
 · exact Eg _ _ _
theorem Gq {st:ah} (h:(jE st 3).2=0):0<(jE st 3).1.size:=by
 unfold jE at h ⊢
 split at h
 · rename_i h1; exact absurd h h1
 · rename_i h1
   rw [if_neg h1]
   unfold pJ at h ⊢
   split at h
   · cases h
   · rename_i h2
     rw [if_neg h2]
     split at h
     · cases h
     · rename_i h3
       rw [if_neg h3]
       have hx:(gQ st 3).1.data.toList.length=(gQ st 3).1.size:=by simp
       have h4:=jW (3:Int).toNat (1:Int).toNat (gQ st 3).1.data.toList (by omega)
       show 0<(BA (cR _ _ _)).size
       rw [fY]; exact h4.1
theorem uF (st:ah):(tlW st).length≤7000:=by
 unfold tlW
 split
 · have:=xT st
   have h3:(jE st 3).1.data.toList.length=(jE st 3).1.size:=by simp
   omega
 · have h2:=jW 3 4 (gK 2 st.rev).1.data.toList (by have:=j5 2 st.rev; simp; omega)
   omega
theorem Az:oQ tlW:=by
 intro g o V T cs v l st x now w hb ht h0 hc hr hl hS hT
 have HS:=hid (nR st x now V w hS)
 have c0:w.cell? ⟨g,0,none⟩=some (.pointer (some ⟨V,0,none⟩)):=by rw [hb.cell]; exact h0
 have hlt:=hb.lt
 have HB:=hid hb
 have HR:=hid hr
 have HC:=hid hc
 have HT:=hid hT
 have hsz:=xT st
 have hpos:=Gq (st:=st)
 have Htl:=hid (show tlW st=if (jE st 3).2=0 then (jE st 3).1.data.toList else cR 3 4 (gK 2 st.rev).1.data.toList from rfl)
 have HF:=hid (fun (y:StA) (w1:World) (h:StAt w1 w1.heap.size st y) (h2:Tabs w1)=>Bo st y 3 w1 h h2)
 unfold qF at HF
 obtain⟨S,hS1⟩:∃ S,(jE st 3).1=S:=⟨_,rfl⟩
 obtain⟨E,hE1⟩:∃ E,(jE st 3).2=E:=⟨_,rfl⟩
 rw [hS1] at hsz
 rw [hS1,hE1] at Htl HF hpos
 have Hpos:=hid hpos
 have Hl:=hid hl
 have Hsz:=hid hsz
 clear hb hr hc hT hS hS1 hE1 h0 hl hsz hpos
 go_enter Tryz.func65,Tryz.ntmps65
 go_wp2_with fail
 refine Calls.mono HS.out ?_
 rintro e w1 ⟨y,rfl,hy,hb1⟩
 obtain⟨W,hW⟩:∃ W,w1.alloc (.cells (stC st y) 26)=W:=⟨_,rfl⟩
 have hbW:Below w1.heap.size w1 W:=by rw [← hW]; exact (Below.refl _ _).alloc (Nat.le_refl _) _
 have hBS:Blk W w1.heap.size 26 (stC st y):=by rw [← hW]; exact heap_alloc_new w1 _
 have nN:=hb1.trans (hbW.mono hb1.size)
 have HF1:=hid (HF.out y W (hy.upS hbW) (HT.out.below nN))
 have HbW:=hid nN
 have HBS:=hid hBS
 have HW:=hid hW
 obtain⟨s0,s1,s2,s3⟩:=Blk.c4 (hBS)
 have hlS:=hBS.lt
 clear hy hb1 hbW hBS hW nN HS HF c0 hlt HT
 unfold stC at HF1 HW ⊢
 go_wp2_with fail
 simp only [HW.out]
 clear HW
 refine Calls.mono HF1.out ?_
 rintro e w2 ⟨rfl,hb2⟩
 have Hb2:=hid (HbW.out.trans (hb2.mono HbW.out.size))
 have hB2:=HB.out.below Hb2.out HB.out.lt
 have HB2:=hid hB2
 have HR2:=hid (HR.out.below Hb2.out)
 have hS2:=HBS.out.below hb2 HBS.out.lt
 have y0:w2.cell? ⟨g,o+3,none⟩=some v:=by rw [hB2.cell]; exact HC.out
 have hlt2:=hB2.lt
 have r0:w2.cell? ⟨w1.heap.size,0,none⟩=some (.int .i64 st.rev):=hS2.cell 0
 have hlS2:=hS2.lt
 clear hb2 hB2 hS2 HF1 HbW HBS s0 s1 s2 s3 hlS HB HR
 by_cases he:E=0
 · have HTl:=hid (show tlW st=S.data.toList from by rw [Htl.out,if_pos he])
   have hp:=Hpos.out he
   subst he
   clear Htl r0 hlS2
   have hle:=Hl.out
   have hse:=Hsz.out
   go_wp2_with (at_builtin; refine zJ rfl _ _ rfl v l rfl HR2.out S rfl hp (by omega) ?_; intro v' w3 hr1 hg1; obtain⟨A',c',rfl⟩:=hr1.shape; have hB1:=mL HB2.out ht HR2.out hg1; have z0:w3.cell? ⟨g,o+3,none⟩=some v:=(hB1.cell _).trans HC.out; have zt:w3.frozen? ⟨g,o+3,none⟩=false:=hB1.thaw _; have HR1:=hid hr1; have HG1:=hid hg1; clear hr1 hg1 hB1)
   go_end0
   exact⟨rfl,_,_,by rw [HTl.out]; exact HR1.out,.of_below Hb2.out HG1.out,by rw [List.length_append]; rfl⟩
 · have d0:(E != 0)=true:=bne_iff_ne.2 he
   have HTl:=hid (show tlW st=cR 3 4 (gK 2 st.rev).1.data.toList from by rw [Htl.out,if_neg he])
   have HY:=hid (pV g o T cs v l 2 st.rev w2 HB2.out ht HC.out HR2.out Hl.out)
   clear he Htl y0
   go_wp2_with fail
   refine Calls.mono HY.out ?_
   rintro e w3 hp
   have HP:=hid (hp.first Hb2.out)
   obtain⟨rfl,_⟩:=hp
   clear HY r0 hlS2
   go_wp2
   go_end0
   rw [HTl.out]
   exact HP.out
end Go.Proofs.YtbllgmociapjeaaGreatDoor
