/- Of the proof of a statement: Works, WTopReplayed. -/
import Derived.Test.YtoeejfhdjmkpcaaGreatDoorUDApply
import Derived.Test.YtoeejfhdjmkpcaaGreatDoorUHubS
import Derived.Test.YtoeejfhdjmkpcaaGreatDoorUReqD1
set_option linter.unusedVariables false
set_option linter.unusedSimpArgs false
set_option maxRecDepth 100000
set_option maxHeartbeats 8000000
/- The walk of the tops' works: does a job come to be there, by bytes? -/
namespace Go.Proofs.YtoeejfhdjmkpcaaGreatDoor
open Go.Lib (hid)
open List (foldl_cons foldl_nil setIfInBounds_toArray set_cons_succ set_cons_zero)
open Go.RowKit
def zY (s:ByteArray) (b:Bool) (w:World) (e:Ending) (w':World):Prop:=e = .returned (.tuple #[.string s,.bool b])∧Below w.heap.size w w'
theorem Gg (q:aU) (w:World) (hq:q.kind=1) (hok:ROk q) (hT:Tabs w) (h0:eF q=0) (hl:(bJ 1 ++ gL q.job 3).length≤6000) :
 Calls Tryz.prog 17 #[bT q] w (zY (BA (gU 3 3 (bJ 1 ++ gL q.job 3))) true w):=by
 obtain⟨W,hW⟩:∃ W,w.alloc (.cells (aT q) 40)=W:=⟨_,rfl⟩
 have hb:Blk W w.heap.size 40 (aT q):=by rw [← hW]; exact heap_alloc_new w _
 have hbW:Below w.heap.size w W:=by rw [← hW]; exact (Below.refl _ _).alloc (Nat.le_refl _) _
 have HE:=hid (IC q W hq hok (hT.below hbW) h0)
 obtain⟨c0,c1,c2,c3,c4,c5,c6,c7,c8,c9,c10,c11,c12,c13⟩:=Blk.c14 (hb)
 have hlt:=hb.lt
 have HbW:=hid hbW
 have HW:=hid hW
 obtain⟨L,hL⟩:∃ L,bJ 1 ++ gL q.job 3=L:=⟨_,rfl⟩
 rw [hL] at hl HE ⊢
 have HF:=hid (fun w=>Ep 3 3 (BA L) w)
 have Hen:=hid (IM (kind:=3) (p:=BA L) (by decide) (by rw [jQ]; exact hl))
 clear hb hbW hW hT hok h0 hq hL hl
 unfold bT at HE ⊢
 unfold aT at HE HW ⊢
 go_enter Tryz.func17,Tryz.ntmps17
 go_wp2_with fail
 try simp only [HW.out]
 clear HW
 refine Calls.mono HE.out ?_
 rintro e w1 ⟨rfl,hb1⟩
 have HF1:=hid (HF.out w1)
 have Hb1:=hid (HbW.out.trans (hb1.mono HbW.out.size))
 clear hb1 HE HF HbW c0 c1 c2 c3 c4 c5 c6 c7 c8 c9 c10 c11 c12 c13 hlt
 go_wp2_with fail
 refine Calls.mono HF1.out ?_
 rintro e w2 ⟨rfl,hb2⟩
 have bO:=hid (Hb1.out.trans (hb2.mono Hb1.out.size))
 rw [Hen.out]
 have hbl:(BA L).data.toList=L:=kB L
 rw [hbl]
 dsimp only
 clear hb2 hbl HF1 Hb1 Hen
 go_wp2
 go_ret2
 exact⟨rfl,bO.out⟩
def zSA:StA:=⟨none,0,0,none,0,0,none,0,0⟩
theorem Mz (w:World) (B:Nat):StAt w B dE zSA:=
 ⟨aQ.nil,aQ.nil,aQ.nil,rfl,rfl,rfl,by decide,by decide,by decide,(fun _ h=>by cases h),(fun _ h=>by cases h),(fun _ h=>by cases h)⟩
theorem D9 {g V:Nat} {fb:Nat→Nat} {wv:Nat→Value} {cs:Nat→cu} {st:ak} {x:StA} {now:Int} (w:World) (h:cC w g V fb wv cs st x now) :
 Calls Tryz.prog 29 #[.pointer (some ⟨g,0,none⟩)] w (qC st w):=by
 obtain⟨W,hW⟩:∃ W,w.alloc (.cells rB 26)=W:=⟨_,rfl⟩
 have hbW:Below w.heap.size w W:=by rw [← hW]; exact (Below.refl _ _).alloc (Nat.le_refl _) _
 have hR:Blk W w.heap.size 26 rB:=by rw [← hW]; exact heap_alloc_new w _
 have HS:=hid (pM st x now V W (h.below hbW).srv)
 have c0:w.cell? ⟨g,0,none⟩=some (.pointer (some ⟨V,0,none⟩)):=by rw [h.blk.cell]; exact uS
 have hlt:=h.blk.lt
 have HR:=hid hR
 have HbW:=hid hbW
 have HW:=hid hW
 clear h hR hbW hW
 go_enter Tryz.func29,Tryz.ntmps29
 go_wp2_with fail
 try rw [HW.out]
 clear HW
 refine Calls.mono HS.out ?_
 rintro e w2 ⟨y,rfl,hy,hb2⟩
 have hR2:=HR.out.below hb2 HR.out.lt
 have hB2:=HbW.out.trans (hb2.mono HbW.out.size)
 obtain⟨z0,z1,z2,z3⟩:=Blk.z4 (hR2)
 obtain⟨r0,r1,r2,r3⟩:=Blk.c4 (hR2)
 obtain⟨hR3,hG3⟩:=Blk.S4 (hR2) (.int .i64 st.rev) (.slice y.aj y.nj y.cj) (.slice y.an y.nn y.cn) (.slice y.al y.nl y.cl)
 obtain⟨y0,y1,y2,y3⟩:=Blk.c4 hR3
 have hlr:=hR2.lt
 have bO:=hid (show qC st w (.returned (.agg (stC st y))) _ from ⟨y,rfl,(hy.gS hR2 (nM ⟨0,[],[],[]⟩ ⟨none,0,0,none,0,0,none,0,0⟩) hG3).more hG3.size,aI hB2 hG3 (Nat.le_refl _)⟩)
 clear hy hb2 hR2 hB2 hR3 hG3 HS c0 hlt HR HbW
 unfold stC
 go_wp2
 refine bodyPost_ret (v:=.agg (stC st y)) (by simp [results,Tryz.results29,go_sem,stC, *]) rfl ?_
 exact bO.out
def rqA (b:ByteArray):aU × Int:=(mT,0)
def tlA (st:ak):List UInt8:=[]
theorem M0:pK tlA rqA (xY dE) 0 (BA nS) [⟨3,3,BA wM⟩] nS.length 3=mE tlA ⟨dE,0,upd (xY dE).cs 0 (zM ((xY dE).cs 0) (BA nS) nS.length 3)⟩ 0 mT:=by
 unfold pK
 rw [if_neg (fun h=>h.1 rfl)]
 show eL tlA rqA 0 _ [⟨3,3,BA wM⟩]=_
 rw [eL,eL,if_neg (by simp [xY,upd,zM])]
 unfold iX
 rw [if_neg (by simp),if_neg (by simp [rqA])]
 rfl
theorem JB:(pK tlA rqA (xY dE) 0 (BA nS) [⟨3,3,BA wM⟩] nS.length 3).st=KP∧0<((pK tlA rqA (xY dE) 0 (BA nS) [⟨3,3,BA wM⟩] nS.length 3).cs 0).waits.length:=by
 rw [M0]
 unfold mE
 dsimp only
 rw [srvA]
 dsimp only
 rw [if_pos rfl]
 refine⟨rfl,?_⟩
 show 0<((jF tlA KP _ _ _ 8) 0).waits.length
 unfold jF
 rw [if_pos (by decide),cJ]
 have ha:∀ c:cu,kU tlA mT ⟨0,true,KP,0⟩ c=mY 0 1 c:=fun c=>by
  unfold kU
  rw [if_neg (by rintro⟨_,h | h⟩ <;> exact absurd h (by decide))]
  rfl
 rw [ha]
 unfold oK
 rw [if_pos (.inr rfl)]
 show 0<([] ++ gU 3 4 _).length
 have h2:=tE 3 4 (jR 0 1).1.data.toList (by have:=mQ 0 1; simp; omega)
 rw [List.nil_append]
 exact h2.1
theorem Gh (w:World) (hT:Tabs w):Calls Tryz.prog 11 #[] w fun e w'=>e = .returned (.bool true)∧Below w.heap.size w w':=by
 have HN:=hid (show Calls Tryz.prog 24 #[.agg rB] w (uf dE w) from Jd dE zSA w (Mz w _) hT)
 have HT:=hid hT
 clear hT
 go_enter Tryz.func11,Tryz.ntmps11
 go_wp2_with fail
 refine Calls.mono HN.out ?_
 rintro e w1 ⟨hb1,⟨hbad,_⟩ | ⟨_,g,V,fb,x',rfl,hA,hlo⟩⟩
 · exact absurd KQ hbad
 have hok:ROk mT:=⟨by decide,by decide,by decide,by decide,by decide,by decide,by decide⟩
 have HB:=hid (show Calls Tryz.prog 17 #[.agg #[.int .i64 1,.string ⟨#[97]⟩,.int .i64 0,.int .i64 0,.int .i64 0,.string ⟨#[]⟩,.string ⟨#[]⟩,.int .i64 0,.string ⟨#[]⟩,.string ⟨#[]⟩,.string ⟨#[]⟩,.int .i64 0,.string ⟨#[]⟩,.int .i64 0]] w1 (zY (BA nS) true w1) from Gg mT w1 rfl hok (HT.out.below hb1) Cp (by show wM.length≤6000; decide +kernel))
 have HA:=hid hA
 have HI:=hid (show mP w w1 g V fb (fun _=>.slice none 0 0) from ⟨hb1,HT.out,hlo⟩)
 clear hA hlo hb1 HN
 go_wp2_with fail
 refine Calls.mono HB.out ?_
 rintro e w2 ⟨rfl,hb2⟩
 have hA2:=HA.out.below hb2
 have hI2:=HI.out.more hb2
 have hrun:=FG tlA rqA (H:=xY dE) (k:=0) (s:=BA nS) (fs:=[⟨3,3,BA wM⟩]) (m:=nS.length) (e:=3) w2 (BA nS) (by show (⟨#[]⟩:ByteArray) ++ BA nS=BA nS; exact ByteArray.ext (by rw [ByteArray.data_append]; simp)) frsA hA2 (by decide) hI2 rfl rfl (by rw [jQ]; decide +kernel) (by decide)
  (fun f hf _ _ W hW=>by
   have e1:f=⟨3,3,BA wM⟩:=by simpa using hf
   subst e1
   exact Je Co W EB hW)
  (fun f _=>hok) (.inl ⟨fun _ _=>rfl,fun f _ h=>by
   rcases h with h | h
   · exact absurd (show (1:Int)=8 from h) (by decide)
   · exact absurd (show (1:Int)=9 from h) (by decide)⟩) (fun _=>Nat.zero_le _) (fun _ _=>Nat.zero_le _)
 obtain⟨SD,hSD⟩:∃ SD,pK tlA rqA (xY dE) 0 (BA nS) [⟨3,3,BA wM⟩] nS.length 3=SD:=⟨_,rfl⟩
 have hst:=JB
 rw [hSD] at hrun hst
 obtain⟨FB,hFB⟩:∃ FB,BA nS=FB:=⟨_,rfl⟩
 rw [hFB] at hrun ⊢
 have HR:=hid (show Calls Tryz.prog 27 #[.pointer (some ⟨g,0,none⟩),.int .i64 0,.string FB] w2 (B0 g V fb (fun _=>.slice none 0 0) SD 0 w2) from hrun)
 have Hst:=hid hst
 have HI2:=hid hI2
 clear hA2 hI2 hrun hst hSD hFB hok hb2 HA HI HB
 go_wp2_with fail
 refine Calls.mono HR.out ?_
 rintro e w3 ⟨rfl,wv3,x3,hA3,t3⟩
 have HI3:=hid (HI2.out.to t3)
 have HSt:=hid (D9 w3 hA3)
 obtain⟨s,hs⟩:∃ s,BA (SD.cs 0).waits=s:=⟨_,rfl⟩
 have hsz:s.size≠0:=by rw [← hs,jQ]; have:=Hst.out.2; omega
 rw [hs]
 have b1:=qW hsz
 have b2:=sD hsz
 have b3:(!s.toList.isEmpty)=true:=by have:=qW hsz; revert this; cases s.toList <;> simp
 have hlg:=hA3.blk.lt
 clear hA3 t3 hs hsz HR
 go_wp2_with fail
 refine Calls.mono HSt.out ?_
 rintro e w4 ⟨y,rfl,hy,hb4⟩
 have hnj:y.nj=1:=by have:=hy.lj; rw [Hst.out.1] at this; exact this.symm
 have Hb4:=hid (HI3.out.base.trans (hb4.mono HI3.out.base.size))
 have Hnj:=hid hnj
 clear hy hb4 HSt hnj
 unfold stC
 rw [Hnj.out]
 have hf:∀ W,(Instr.field 26 (.agg #[.int .i64 SD.st.rev,.slice y.aj 1 y.cj,.slice y.an y.nn y.cn,.slice y.al y.nl y.cl]) 1).run Tryz.prog W = .ok (.slice y.aj 1 y.cj) W:=fun _=>by kernel_rfl
 go_wp2
 go_ret
 exact⟨rfl,Hb4.out⟩
end Go.Proofs.YtoeejfhdjmkpcaaGreatDoor
/- The walk of the law TopReplayed. -/
namespace Go.Proofs.YtoeejfhdjmkpcaaGreatDoor
open Go.Lib (hid)
open List (foldl_cons foldl_nil setIfInBounds_toArray set_cons_succ set_cons_zero)
open Go.RowKit
theorem Ld {st:ak} {now:Int} {q:aU} (h:(iI st now (iR st now q)).ch=true):(iI st now (iR st now q)).st.rev=st.rev+1:=by
 unfold iR at h ⊢
 by_cases h0:eF q=0
 · rw [if_pos h0] at h ⊢
   unfold iI at h ⊢
   split
   · rename_i h1
     rw [if_pos h1] at h
     split
     · rename_i h2
       rw [if_pos h2] at h; cases h
     · rename_i h2
       rw [if_neg h2] at h
       split
       · rename_i h3
         rw [if_pos h3] at h; cases h
       · show (doR st now q).2.1.rev+1=_
         rw [tR]
   · rename_i h1
     rw [if_neg h1] at h; cases h
 · rw [if_neg h0] at h
   unfold iI at h
   rw [if_neg h0] at h
   cases h
theorem JC {st:ak} {now:Int} {q:aU} (h:(iI st now (iR st now q)).ch=false):(iI st now (iR st now q)).st=st:=by
 unfold iI at h ⊢
 split
 · rename_i h1
   rw [if_pos h1] at h
   split
   · rfl
   · rename_i h2
     rw [if_neg h2] at h
     split
     · rfl
     · rename_i h3
       rw [if_neg h3] at h; cases h
 · rfl
structure RpS (w0 w:World) (V TB:Nat) (st:ak) (now:Int) (x y:StA):Prop where
 s:AgS w0 w V st now x
 t:Blk w TB 26 (stC st y)
 y:StAt w w.heap.size st y
 ts:w0.heap.size≤TB
theorem RpS.kept {w0 w w':World} {V TB:Nat} {st:ak} {now:Int} {x y:StA} (h:RpS w0 w V TB st now x y) (hb:Below w.heap.size w w'):RpS w0 w' V TB st now x y:=
 ⟨h.s.kept hb,h.t.below hb h.t.lt,h.y.upS hb,h.ts⟩
def rpV (V:Nat) (st:ak) (y:StA) (γ:Option StA):Nat→Value→Prop
 | 0,u=>u = .agg #[.int .i64 st.rev,.slice y.aj y.nj y.cj,.slice y.an y.nn y.cn,.slice y.al y.nl y.cl]
 | 1,u=>u = .pointer (some ⟨V,0,none⟩)
 | 2,u=>∃ z,γ=some z∧u = .agg #[.int .i64 st.rev,.slice z.aj z.nj z.cj,.slice z.an z.nn z.cn,.slice z.al z.nl z.cl]
 | 3,u=>u = .bool true
 | 4,u=>u = .bool true
 | _,_=>True
theorem M3 {V:Nat} {st:ak} {y:StA} {γ:Option StA} (g:Option StA):∀ j v,j≠2→rpV V st y γ j v→rpV V st y g j v:=by
 intro j v hj h
 unfold rpV at *
 split at h
 all_goals first | exact h | exact absurd rfl hj
def RpE (w0:World) (V TB:Nat) (st:ak) (now:Int) (x y:StA) (γ:Option StA) (w:World):Prop:=RpS w0 w V TB st now x y∧∀ z,γ=some z→StAt w w.heap.size st z
theorem wF (w:World) (s0:ak) (x0:StA) (qs:List aU) (A:Option Addr) (n c:Nat) (hs:StAt w w.heap.size s0 x0∧Gq s0) (hq:aQ w w.heap.size 14 A n (au GH qs)) (hl:qs.length=n) (hn:n≤9223372036854775807) (hf:∀ q ∈ qs,sF q) (hT:Tabs w) :
 Calls Tryz.prog 5 #[.agg (stC s0 x0),.slice A n c] w fun e w'=>e = .returned (.bool true)∧Below w.heap.size w w':=by
 have hb1:Below w.heap.size w (w.alloc (.cells (stC s0 x0) 26)):=(Below.refl _ _).alloc (Nat.le_refl _) _
 obtain⟨W1,hW1⟩:∃ W1,w.alloc (.cells (stC s0 x0) 26)=W1:=⟨_,rfl⟩
 have hB:Blk W1 w.heap.size 26 (stC s0 x0):=by rw [← hW1]; exact heap_alloc_new w _
 rw [hW1] at hb1
 have HS:=hid hs.1
 have HF:=hid hf
 have Hl:=hid hl
 have HT:=hid hT
 have Hb1:=hid hb1
 have HB:=hid hB
 have HWk:=hid (Gh W1 (hT.below hb1))
 have HW1:=hid hW1
 obtain⟨CE,hCE⟩:∃ CE,aG s0=CE:=⟨_,rfl⟩
 have HCE:=hid hCE
 have HQ:=hid hq
 clear hs hf hl hT hb1 hB hW1 hCE hq
 unfold stC at HW1 ⊢
 go_enter Tryz.func5,Tryz.ntmps5
 go_wp2_with fail
 try rw [HW1.out]
 clear HW1
 refine Calls.mono HWk.out ?_
 rintro e w1 ⟨rfl,hbk⟩
 have Hbk:=hid (Hb1.out.trans (hbk.mono Hb1.out.size))
 have HBk:=hid (HB.out.below hbk HB.out.lt)
 have HN:=hid (show Calls Tryz.prog 12 #[.agg #[.int .i64 s0.rev,.slice x0.aj x0.nj x0.cj,.slice x0.an x0.nn x0.cn,.slice x0.al x0.nl x0.cl]] w1 (tJ s0 w1) from zN s0 x0 w1 (HS.out.upS Hbk.out) (HT.out.below Hbk.out))
 obtain⟨c0,c1,c2,c3⟩:=Blk.c4 (HBk.out)
 have hlb:=HBk.out.lt
 have Hs1:=hid Hbk.out.size
 clear hbk HWk HB Hb1
 go_wp2_with fail
 refine Calls.mono HN.out ?_
 rintro e w2 ⟨hb2,hcase⟩
 rw [HCE.out] at hcase
 have Hb2:=hid (Hbk.out.trans (hb2.mono Hbk.out.size))
 have HB2:=hid (HBk.out.below hb2 HBk.out.lt)
 clear hb2 HN HBk Hbk c0 c1 c2 c3 hlb
 rcases hcase with ⟨hbad,rfl⟩ | ⟨hgood,V,xv0,rfl,hV1,hV2⟩
 · have d1:(CE != 0)=true:=by simpa using hbad
   clear hbad
   go_wp2
   go_ret
   exact⟨rfl,Hb2.out⟩
 · subst hgood
   obtain⟨c0,c1,c2,c3⟩:=Blk.c4 (HB2.out)
   have hlb:=HB2.out.lt
   obtain⟨w3,hw3⟩:∃ w3,w2.alloc (.cells (stC s0 x0) 26)=w3:=⟨_,rfl⟩
   have hb3:Below w2.heap.size w2 w3:=by rw [← hw3]; exact (Below.refl _ _).alloc (Nat.le_refl _) _
   have ht3:Blk w3 w2.heap.size 26 (stC s0 x0):=by rw [← hw3]; exact heap_alloc_new w2 _
   obtain⟨TB,hTB⟩:∃ TB,w2.heap.size=TB:=⟨_,rfl⟩
   have HL:=hid (show RpS w w3 V TB s0 0 xv0 x0 from ⟨(show AgS w w2 V s0 0 xv0 from ⟨Hb2.out,hV2,by have:=Hs1.out; omega⟩).kept hb3,by rw [← hTB]; exact ht3,(HS.out.upS Hb2.out).upS hb3,by have:=Hb2.out.size; omega⟩)
   have Hw3:=hid hw3
   have HTB:=hid hTB
   clear hV1 hV2 Hb2 Hs1 hw3 hb3 ht3 hTB
   unfold stC at Hw3
   go_wp2
   simp only [Hw3.out,HTB.out]
   clear Hw3 HTB c0 c1 c2 c3 hlb HB2
   go_loopw [41] (fun i wr=>∃ (k:Nat) (st:ak) (now:Int) (x y:StA),k≤n∧i = .int .i64 k∧RpS w wr V TB st now x y) (fun i _=>n - (intOf i).toNat)
   case atStart=>exact⟨0,s0,0,xv0,x0,Nat.zero_le _,rfl,HL.out⟩
   case round=>
    obtain⟨k,st,now,x,y,hk,rfl,hL⟩:=hrel
    have HL:=hid hL
    clear hL
    by_cases hlt:k<n
    · obtain⟨q,hfq⟩:∃ q,qs[k]? = some q:=⟨_,List.getElem?_eq_getElem (by rw [Hl.out]; exact hlt)⟩
      obtain⟨b,off,rfl,hbB,hc⟩:=(HQ.out.below HL.out.s.below).cR A8 Hl.out hfq
      have Hok:=hid (L7 (HF.out q (List.mem_of_getElem? hfq)))
      have hwb:=HL.out.s.below.size
      obtain⟨c0,c1,c2,c3,c4,c5,c6,c7,c8,c9,c10,c11,c12,c13⟩:=rc14 hc
      have hlk:k*14+14≤n*14:=by omega
      have hbl:b<wr.heap.size:=by omega
      obtain⟨wq,hwq⟩:∃ wq,wr.alloc (.cells (aT q) 40)=wq:=⟨_,rfl⟩
      have hbQ:Below wr.heap.size wr wq:=by rw [← hwq]; exact (Below.refl _ _).alloc (Nat.le_refl _) _
      have HQ1:Blk wq wr.heap.size 40 (aT q):=by rw [← hwq]; exact heap_alloc_new wr _
      have HL1:=hid (HL.out.kept hbQ)
      have HD:=hid (show Calls Tryz.prog 13 #[.pointer (some ⟨V,0,none⟩),.agg (yW q)] wq (mM 109 V st (iI st now (iR st now q)) wq) from BX q st x now V _ HL1.out.s.v Hok.out (HT.out.below HL1.out.s.below))
      obtain⟨a0,a1,a2,a3,a4,a5,a6,a7,a8,a9,a10,a11,a12,a13⟩:=Blk.c14 (HQ1)
      have hlq:=HQ1.lt
      have Hwq:=hid hwq
      clear hfq hc hbQ hwq HQ1
      unfold aT at Hwq
      go_wp2_with fail
      simp only [Hwq.out]
      clear Hwq
      refine Calls.mono HD.out ?_
      rintro e w2 ⟨D,dx,x1,rfl,hDe,hdx,hv,hsv,hg⟩
      have hok1:=Eu (q:=q) HL.out.s.v.ok HL.out.s.v.t
      have hrev:=fun h=>Ld (st:=st) (now:=now) (q:=q) h
      have Lv:=HL.out.s.v.ok
      have hsm:=fun h=>JC (st:=st) (now:=now) (q:=q) h
      obtain⟨S,hR⟩:∃ R,iI st now (iR st now q)=R:=⟨_,rfl⟩
      rw [hR] at hv hsv hok1 hDe hrev hsm ⊢
      have Hsm:=hid hsm
      clear hsm
      have hS2:=HL1.out.s.asked hg hv hsv hok1.1 hok1.2
      have ht2:=aE hg HL1.out.t (bE HL1.out.t HL1.out.s.v.blk (by decide))
      have hy2:=(HL1.out.y.gS HL1.out.s.v.blk (nu _ _ _) hg).more hg.size
      obtain⟨w3,hw3⟩:∃ w3,(w2.alloc (.cells #[.int .i64 S.e,.int .i64 S.st.rev] 42)).alloc (.cells (dC D dx) 45)=w3:=⟨_,rfl⟩
      have hb3:Below w2.heap.size w2 w3:=by rw [← hw3]; exact ((Below.refl _ _).alloc (Nat.le_refl _) _).alloc (by simp) _
      obtain⟨DB,hDB⟩:∃ DB,w2.heap.size+1=DB:=⟨_,rfl⟩
      have hd3:Blk w3 DB 45 (dC D dx):=by
       rw [← hw3,← hDB]
       have h:=heap_alloc_new (w2.alloc (.cells #[.int .i64 S.e,.int .i64 S.st.rev] 42)) (.cells (dC D dx) 45)
       rwa [show (w2.alloc (.cells #[.int .i64 S.e,.int .i64 S.st.rev] 42)).heap.size=w2.heap.size+1 by simp] at h
      have HS3:=hid (hS2.kept hb3)
      have HT3:=hid (ht2.below hb3 ht2.lt)
      have HY3:=hid (hy2.upS hb3)
      have HX3:=hid (hdx.upS hb3)
      have HD3:=hid hd3
      have Hts:=hid HL.out.ts
      have Hw3:=hid (show (w2.alloc (.cells #[.int .i64 S.e,.int .i64 S.st.rev] 42)).alloc (.cells #[.int .i64 D.from_,.int .i64 D.to_,.slice dx.aj dx.nj dx.cj,.slice dx.an dx.nn dx.cn,.slice dx.al dx.nl dx.cl,.slice dx.agj dx.ngj dx.cgj,.slice dx.agn dx.ngn dx.cgn,.slice dx.agl dx.ngl dx.cgl] 45)=w3 from hw3)
      have HDB:=hid hDB
      have HDe:=hid hDe
      have tL:=hid hrev
      have MA:=hid Lv
      have oC:=hid hok1
      obtain⟨e0,e1,e2,e3,e4,e5,e6,e7⟩:=Blk.c8 (hd3)
      have hlD:=hd3.lt
      clear hDe hdx hv hsv hg hok1 hrev Lv hR hS2 ht2 hy2 hw3 hb3 hDB hd3 HL HL1 HD c0 a0 c1 a1 c2 a2 c3 a3 c4 a4 c5 a5 c6 a6 c7 a7 c8 a8 c9 a9 c10 a10 c11 a11 c12 a12 c13 a13 hlq
      unfold dC
      obtain⟨CH,hCH⟩:∃ CH,S.ch=CH:=⟨_,rfl⟩
      have HCH:=hid hCH
      rw [hCH]
      clear hCH
      cases CH
      · have hst:S.st=st:=by
         have h:=HCH.out
         have hz:=Hsm.out
         exact hz h
        have HZ:=hid (show RpS w w3 V TB S.st S.now x1 y from ⟨HS3.out,by rw [hst]; exact HT3.out,by rw [hst]; exact HY3.out,Hts.out⟩)
        clear hst HS3 HT3 HY3 HX3 HD3 HDe tL oC
        go_wp2
        simp only [Hw3.out]
        go_roundw
        case rel=>exact⟨k+1,S.st,S.now,x1,y,by omega,by go_num,HZ.out⟩
        case measure=>simp [intOf]; omega
      · have hD1:cM st S.st=D:=by have:=HDe.out; rw [if_pos HCH.out] at this; exact this.symm
        have hrv:=aZ.1 (bC.1 MA.out).1
        have hfr:D.from_=st.rev:=by rw [← hD1]; rfl
        have hdE:cD D=0:=by rw [← hD1]; exact qR MA.out oC.out.1 (by rw [tL.out HCH.out]; omega)
        have hap:gC st D=(S.st,0):=by rw [← hD1]; exact yY MA.out oC.out.1 (by rw [tL.out HCH.out]; omega)
        have HEn:=hid (show Calls Tryz.prog 19 #[.agg #[.int .i64 D.from_,.int .i64 D.to_,.slice dx.aj dx.nj dx.cj,.slice dx.an dx.nn dx.cn,.slice dx.al dx.nl dx.cl,.slice dx.agj dx.ngj dx.cgj,.slice dx.agn dx.ngn dx.cgn,.slice dx.agl dx.ngl dx.cgl]] w3 (kR D w3) from vN D dx w3 HX3.out (HT.out.below HS3.out.below) (by omega) (by omega))
        have Hf1:=hid (show -9223372036854775808≤D.from_∧D.from_≤9223372036854775807 from ⟨by omega,by omega⟩)
        have HdE:=hid hdE
        have Hap:=hid hap
        clear hD1 hrv hfr hdE hap
        go_wp2_with fail
        simp only [Hw3.out,HDB.out]
        clear Hw3 HDB
        refine Calls.mono HEn.out ?_
        rintro e w4 ⟨rfl,hb4⟩
        have HS4:=hid (HS3.out.kept hb4)
        have HT4:=hid (HT3.out.below hb4 HT3.out.lt)
        have HY4:=hid (HY3.out.upS hb4)
        clear hb4 HEn HS3 HT3 HY3 HX3 HD3 e0 e1 e2 e3 e4 e5 e6 e7 hlD
        by_cases hlg:6000<(iD D).length
        · have hen:lG D=(⟨#[]⟩,2):=by unfold lG; rw [if_pos HdE.out,if_pos hlg]
          rw [hen]
          have Hz:=hid HS4.out.below
          clear hen hlg
          go_wp2
          go_ret
          exact⟨rfl,Hz.out⟩
        · have hen:lG D=(BA (iD D),0):=by unfold lG; rw [if_pos HdE.out,if_neg hlg]; rfl
          rw [hen]
          have HB:=hid (Dc HdE.out hlg)
          obtain⟨bb,hbb⟩:∃ bb,BA (iD D)=bb:=⟨_,rfl⟩
          have hbs:bb.size≤6000:=by rw [← hbb,jQ]; omega
          rw [hbb] at HB ⊢
          have HDc:=hid (Br bb w4 (by omega) (HT.out.below HS4.out.below))
          clear hen hlg hbb hbs
          go_wp2_with fail
          refine Calls.mono HDc.out ?_
          rintro e w5 ⟨D',dy,E',rfl,hdec,hdy,hb5⟩
          rw [HB.out] at hdec
          obtain⟨rfl,rfl⟩:D=D'∧0=E':=⟨congrArg Prod.fst hdec,congrArg Prod.snd hdec⟩
          obtain⟨w6,hw6⟩:∃ w6,w5.alloc (.cells (dC D dy) 45)=w6:=⟨_,rfl⟩
          have hb6:Below w5.heap.size w5 w6:=by rw [← hw6]; exact (Below.refl _ _).alloc (Nat.le_refl _) _
          have hd6:Blk w6 w5.heap.size 45 (dC D dy):=by rw [← hw6]; exact heap_alloc_new w5 _
          have HS6:=hid ((HS4.out.kept hb5).kept hb6)
          have ht5:=HT4.out.below hb5 HT4.out.lt
          have ht6:=ht5.below hb6 ht5.lt
          have hy6:=(HY4.out.upS hb5).upS hb6
          have HAp:=hid (show Calls Tryz.prog 21 #[.agg #[.int .i64 st.rev,.slice y.aj y.nj y.cj,.slice y.an y.nn y.cn,.slice y.al y.nl y.cl],.agg #[.int .i64 D.from_,.int .i64 D.to_,.slice dy.aj dy.nj dy.cj,.slice dy.an dy.nn dy.cn,.slice dy.al dy.nl dy.cl,.slice dy.agj dy.ngj dy.cgj,.slice dy.agn dy.ngn dy.cgn,.slice dy.agl dy.ngl dy.cgl]] w6 (uE st D w6) from EU st y D dy w6 hy6 (hdy.upS hb6) (HT.out.below HS6.out.below) Hf1.out.1 Hf1.out.2)
          obtain⟨e0,e1,e2,e3,e4,e5,e6,e7⟩:=Blk.c8 (hd6)
          obtain⟨t0,t1,t2,t3⟩:=Blk.c4 (ht6)
          obtain⟨s0,s1,s2,s3⟩:=Blk.c4 (ht5)
          have hlt5:=ht5.lt
          have hlt6:=ht6.lt
          have hld6:=hd6.lt
          have HT6:=hid ht6
          have Hw6:=hid (show w5.alloc (.cells #[.int .i64 D.from_,.int .i64 D.to_,.slice dy.aj dy.nj dy.cj,.slice dy.an dy.nn dy.cn,.slice dy.al dy.nl dy.cl,.slice dy.agj dy.ngj dy.cgj,.slice dy.agn dy.ngn dy.cgn,.slice dy.agl dy.ngl dy.cgl] 45)=w6 from hw6)
          clear hdec hdy hb5 hw6 hb6 hd6 ht5 ht6 hy6 HB HDc HS4 HT4 HY4
          unfold dC
          go_wp2_with fail
          simp only [Hw6.out]
          clear Hw6
          refine Calls.mono HAp.out ?_
          rintro e w7 ⟨st',y2,E',rfl,hap,hy7,hb7⟩
          rw [Hap.out] at hap
          obtain⟨rfl,rfl⟩:S.st=st'∧0=E':=⟨congrArg Prod.fst hap,congrArg Prod.snd hap⟩
          have hS7:=HS6.out.kept hb7
          have ht7:=HT6.out.below hb7 HT6.out.lt
          obtain⟨t0,t1,t2,t3⟩:=Blk.c4 (ht7)
          obtain⟨z0,z1,z2,z3⟩:=Blk.z4 (ht7)
          have hlt7:=ht7.lt
          have hVT:V≠TB:=bE hS7.v.blk ht7 (by decide)
          have hTB9:=(Blk.eq (Blk.set (Blk.eq (Blk.set (Blk.eq (Blk.set (Blk.eq (ht7.set 0 (.int .i64 S.st.rev)) (show _=#[.int .i64 S.st.rev,.slice y.aj y.nj y.cj,.slice y.an y.nn y.cn,.slice y.al y.nl y.cl] from rfl)) 1 (.slice y2.aj y2.nj y2.cj)) (show _=#[.int .i64 S.st.rev,.slice y2.aj y2.nj y2.cj,.slice y.an y.nn y.cn,.slice y.al y.nl y.cl] from rfl)) 2 (.slice y2.an y2.nn y2.cn)) (show _=#[.int .i64 S.st.rev,.slice y2.aj y2.nj y2.cj,.slice y2.an y2.nn y2.cn,.slice y.al y.nl y.cl] from rfl)) 3 (.slice y2.al y2.nl y2.cl)) (show _=#[.int .i64 S.st.rev,.slice y2.aj y2.nj y2.cj,.slice y2.an y2.nn y2.cn,.slice y2.al y2.nl y2.cl] from rfl))
          have hG9:=(aF (aF (aF (aF (cT w7 TB) 0 (.int .i64 S.st.rev)) 1 (.slice y2.aj y2.nj y2.cj)) 2 (.slice y2.an y2.nn y2.cn)) 3 (.slice y2.al y2.nl y2.cl))
          have HZ:=hid (show RpS w _ V TB S.st S.now x1 y2 from ⟨⟨aI hS7.below hG9 Hts.out,hS7.v.other ht7 (nM _ _) hG9 hVT,hS7.vs⟩,hTB9,(hy7.gS ht7 (nM _ _) hG9).more hG9.size,Hts.out⟩)
          clear hap hy7 hb7 hS7 ht7 hVT hTB9 hG9 HAp HS6 HT6 Hap e0 e1 e2 e3 e4 e5 e6 e7 s0 s1 s2 s3 hlt5 hlt6 hld6
          unfold stC
          go_wp2
          go_roundw
          case rel=>exact⟨k+1,S.st,S.now,x1,y2,by omega,by go_num,HZ.out.kept ((Below.refl _ _).alloc (Nat.le_refl _) _)⟩
          case measure=>simp [intOf]; omega
    · obtain rfl:k=n:=by omega
      clear hlt
      go_wp2_with fail
      refine rq (Γ:=Option StA) 86 (rpV V st y) [] (fun _ γ wx=>RpE w V TB st now x y γ wx) none ⟨HL.out.kept (Below.refl _ _).drew,fun _ h=>by cases h⟩ ?_ ?_
      · clear HL
        refine⟨?_,?_,?_,?_,?_,trivial⟩
        · refine okQ 0 0 fun p γ a wx _ _ hp hk=>?_
          have h1:=hk.k 7 rfl
          obtain⟨hc0,hc1,hc2,hc3⟩:=Blk.c4 ((show RpE w V TB st now x y γ wx from hp).1.t)
          simp [go_sem,Oper.wp,execOp,Act.eval,h1,hc0,hc1,hc2,hc3]
          exact⟨_,rfl,γ,fun _ _ _ h=>h,rfl,hp⟩
        · exact ok0 0 0 5 rfl fun _=>rfl
        · refine okQ 0 0 fun p γ a wx _ _ hp hk=>?_
          obtain⟨u1,h1,rfl⟩:=hk.g 1 83 rfl rfl
          have hp:=(show RpE w V TB st now x y γ wx from hp)
          simp [go_sem,Oper.wp,execOp,Act.eval,h1]
          refine (pM st x now V wx hp.1.s.v).mono ?_
          rintro e w' ⟨z,rfl,hz,hb⟩
          exact⟨_,rfl,some z,M3 _,⟨z,rfl,rfl⟩,hp.1.kept hb,fun z' e=>by injection e with e; subst e; exact hz⟩
        · refine okQ 0 0 fun p γ a wx _ _ hp hk=>?_
          obtain⟨u1,h1,rfl⟩:=hk.g 0 82 rfl rfl
          obtain⟨u2,h2,⟨z2,ez2,rfl⟩⟩:=hk.g 2 84 rfl rfl
          have hp:=(show RpE w V TB st now x y γ wx from hp)
          simp [go_sem,Oper.wp,execOp,Act.eval,h1,h2]
          refine (Il st st y z2 wx hp.1.y (hp.2 z2 ez2)).mono ?_
          rintro e w' ⟨t,rfl,ht,hb⟩
          obtain rfl:=ht.2 rfl
          exact⟨_,rfl,γ,fun _ _ _ h=>h,rfl,hp.1.kept hb,fun z e=>(hp.2 z e).upS hb⟩
        · exact ok1 0 0 3 85 rfl rfl (fun _ _ h=>h) fun _=>rfl
      intro γ act wz hd
      have hz:=(show RpE w V TB st now x y γ wz from hd.ph)
      obtain⟨fv,rfl,hfv⟩:=hd.frame [82,83,84,85,4] rfl
      have f4:fv 4 = .bool true:=hfv 4 _ 4 rfl rfl
      have Hz:=hid hz.1.s.below
      simp only [foldl_cons,foldl_nil,setIfInBounds_toArray,set_cons_succ,set_cons_zero,f4]
      clear hd hfv hz f4
      go_wp2
      go_ret
      exact⟨rfl,Hz.out⟩
end Go.Proofs.YtoeejfhdjmkpcaaGreatDoor
