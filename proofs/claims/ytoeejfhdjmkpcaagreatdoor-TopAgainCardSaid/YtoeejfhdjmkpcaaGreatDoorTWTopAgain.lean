/- Of the proof of a statement: Works, WTopAgain. -/
import Derived.Test.YtoeejfhdjmkpcaaGreatDoorTHubS
import Derived.Test.YtoeejfhdjmkpcaaGreatDoorTReqD1
set_option linter.unusedVariables false
set_option linter.unusedSimpArgs false
set_option maxRecDepth 100000
set_option maxHeartbeats 8000000
/- The walk of the tops' works: does a job come to be there, by bytes? -/
namespace Go.Proofs.YtoeejfhdjmkpcaaGreatDoor
open Go.Lib (hid)
open List (foldl_cons foldl_nil setIfInBounds_toArray set_cons_succ set_cons_zero)
open Go.RowKit
def wI (s:ByteArray) (b:Bool) (w:World) (e:Ending) (w':World):Prop:=e = .returned (.tuple #[.string s,.bool b])∧Below w.heap.size w w'
theorem C8 (q:aH) (w:World) (hq:q.kind=1) (hok:ROk q) (hT:Tabs w) (h0:bK q=0) (hl:(bI 1 ++ eU q.job 3).length≤6000) :
 Calls Tryz.prog 17 #[bP q] w (wI (BA (gu 3 3 (bI 1 ++ eU q.job 3))) true w):=by
 obtain⟨W,hW⟩:∃ W,w.alloc (.cells (aB q) 40)=W:=⟨_,rfl⟩
 have hb:Blk W w.heap.size 40 (aB q):=by rw [← hW]; exact heap_alloc_new w _
 have hbW:Below w.heap.size w W:=by rw [← hW]; exact (Below.refl _ _).alloc (Nat.le_refl _) _
 have HE:=hid (Dt q W hq hok (hT.below hbW) h0)
 obtain⟨c0,c1,c2,c3,c4,c5,c6,c7,c8,c9,c10,c11,c12,c13⟩:=Blk.c14 (hb)
 have hlt:=hb.lt
 have HbW:=hid hbW
 have HW:=hid hW
 obtain⟨L,hL⟩:∃ L,bI 1 ++ eU q.job 3=L:=⟨_,rfl⟩
 rw [hL] at hl HE ⊢
 have HF:=hid (fun w=>By 3 3 (BA L) w)
 have Hen:=hid (Ex (kind:=3) (p:=BA L) (by decide) (by rw [jQ]; exact hl))
 clear hb hbW hW hT hok h0 hq hL hl
 unfold bP at HE ⊢
 unfold aB at HE HW ⊢
 go_enter Tryz.func17,Tryz.ntmps17
 go_wp2_with fail
 try simp only [HW.out]
 clear HW
 refine Calls.mono HE.out ?_
 rintro e w1 ⟨rfl,hb1⟩
 have HF1:=hid (HF.out w1)
 have Hb1:=hid (HbW.out.trans (hb1.mono HbW.out.size))
 clear hb1 HE HF HbW c0 c1 c2 c3 c4 c5 c6 c7 c8 c9 c10 c11 c12 c13 hlt
 go_wp2_with fail
 refine Calls.mono HF1.out ?_
 rintro e w2 ⟨rfl,hb2⟩
 have aV:=hid (Hb1.out.trans (hb2.mono Hb1.out.size))
 rw [Hen.out]
 have hbl:(BA L).data.toList=L:=jr L
 rw [hbl]
 dsimp only
 clear hb2 hbl HF1 Hb1 Hen
 go_wp2
 go_ret2
 exact⟨rfl,aV.out⟩
def zSA:StA:=⟨none,0,0,none,0,0,none,0,0⟩
theorem IW (w:World) (B:Nat):StAt w B gW zSA:=
 ⟨aW.nil,aW.nil,aW.nil,rfl,rfl,rfl,by decide,by decide,by decide,(fun _ h=>by cases h),(fun _ h=>by cases h),(fun _ h=>by cases h)⟩
theorem Bl {g V:Nat} {fb:Nat→Nat} {wv:Nat→Value} {cs:Nat→bX} {st:ah} {x:StA} {now:Int} (w:World) (h:bV w g V fb wv cs st x now) :
 Calls Tryz.prog 29 #[.pointer (some ⟨g,0,none⟩)] w (nU st w):=by
 obtain⟨W,hW⟩:∃ W,w.alloc (.cells uY 26)=W:=⟨_,rfl⟩
 have hbW:Below w.heap.size w W:=by rw [← hW]; exact (Below.refl _ _).alloc (Nat.le_refl _) _
 have hR:Blk W w.heap.size 26 uY:=by rw [← hW]; exact heap_alloc_new w _
 have HS:=hid (kW st x now V W (h.below hbW).srv)
 have c0:w.cell? ⟨g,0,none⟩=some (.pointer (some ⟨V,0,none⟩)):=by rw [h.blk.cell]; exact qU
 have hlt:=h.blk.lt
 have HR:=hid hR
 have HbW:=hid hbW
 have HW:=hid hW
 clear h hR hbW hW
 go_enter Tryz.func29,Tryz.ntmps29
 go_wp2_with fail
 try rw [HW.out]
 clear HW
 refine Calls.mono HS.out ?_
 rintro e w2 ⟨y,rfl,hy,hb2⟩
 have hR2:=HR.out.below hb2 HR.out.lt
 have hB2:=HbW.out.trans (hb2.mono HbW.out.size)
 obtain⟨z0,z1,z2,z3⟩:=Blk.z4 (hR2)
 obtain⟨r0,r1,r2,r3⟩:=Blk.c4 (hR2)
 obtain⟨hR3,hG3⟩:=Blk.S4 (hR2) (.int .i64 st.rev) (.slice y.aj y.nj y.cj) (.slice y.an y.nn y.cn) (.slice y.al y.nl y.cl)
 obtain⟨y0,y1,y2,y3⟩:=Blk.c4 hR3
 have hlr:=hR2.lt
 have aV:=hid (show nU st w (.returned (.agg (stC st y))) _ from ⟨y,rfl,(hy.gG hR2 (pL ⟨0,[],[],[]⟩ ⟨none,0,0,none,0,0,none,0,0⟩) hG3).more hG3.size,dz hB2 hG3 (Nat.le_refl _)⟩)
 clear hy hb2 hR2 hB2 hR3 hG3 HS c0 hlt HR HbW
 unfold stC
 go_wp2
 refine bodyPost_ret (v:=.agg (stC st y)) (by simp [results,Tryz.results29,go_sem,stC, *]) rfl ?_
 exact aV.out
def rqA (b:ByteArray):aH × Int:=(kV,0)
def tlA (st:ah):List UInt8:=[]
theorem Jn:nE tlA rqA (uB gW) 0 (BA lN) [⟨3,3,BA sC⟩] lN.length 3=kR tlA ⟨gW,0,upd (uB gW).cs 0 (vX ((uB gW).cs 0) (BA lN) lN.length 3)⟩ 0 kV:=by
 unfold nE
 rw [if_neg (fun h=>h.1 rfl)]
 show dZ tlA rqA 0 _ [⟨3,3,BA sC⟩]=_
 rw [dZ,dZ,if_neg (by simp [uB,upd,vX])]
 unfold gY
 rw [if_neg (by simp),if_neg (by simp [rqA])]
 rfl
theorem Fr:(nE tlA rqA (uB gW) 0 (BA lN) [⟨3,3,BA sC⟩] lN.length 3).st=FA∧0<((nE tlA rqA (uB gW) 0 (BA lN) [⟨3,3,BA sC⟩] lN.length 3).cs 0).waits.length:=by
 rw [Jn]
 unfold kR
 dsimp only
 rw [srvA]
 dsimp only
 rw [if_pos rfl]
 refine⟨rfl,?_⟩
 show 0<((iM tlA FA _ _ _ 8) 0).waits.length
 unfold iM
 rw [if_pos (by decide),cD]
 have ha:∀ c:bX,jK tlA kV ⟨0,true,FA,0⟩ c=lH 0 1 c:=fun c=>by
  unfold jK
  rw [if_neg (by rintro⟨_,h | h⟩ <;> exact absurd h (by decide))]
  rfl
 rw [ha]
 unfold mJ
 rw [if_pos (.inr rfl)]
 show 0<([] ++ gu 3 4 _).length
 have h2:=qg 3 4 (iX 0 1).1.data.toList (by have:=lg 0 1; simp; omega)
 rw [List.nil_append]
 exact h2.1
theorem C9 (w:World) (hT:Tabs w):Calls Tryz.prog 11 #[] w fun e w'=>e = .returned (.bool true)∧Below w.heap.size w w':=by
 have HN:=hid (show Calls Tryz.prog 24 #[.agg uY] w (qG gW w) from E6 gW zSA w (IW w _) hT)
 have HT:=hid hT
 clear hT
 go_enter Tryz.func11,Tryz.ntmps11
 go_wp2_with fail
 refine Calls.mono HN.out ?_
 rintro e w1 ⟨hb1,⟨hbad,_⟩ | ⟨_,g,V,fb,x',rfl,hA,hlo⟩⟩
 · exact absurd FC hbad
 have hok:ROk kV:=⟨by decide,by decide,by decide,by decide,by decide,by decide,by decide⟩
 have HB:=hid (show Calls Tryz.prog 17 #[.agg #[.int .i64 1,.string ⟨#[97]⟩,.int .i64 0,.int .i64 0,.int .i64 0,.string ⟨#[]⟩,.string ⟨#[]⟩,.int .i64 0,.string ⟨#[]⟩,.string ⟨#[]⟩,.string ⟨#[]⟩,.int .i64 0,.string ⟨#[]⟩,.int .i64 0]] w1 (wI (BA lN) true w1) from C8 kV w1 rfl hok (HT.out.below hb1) yg (by show sC.length≤6000; decide +kernel))
 have HA:=hid hA
 have HI:=hid (show kY w w1 g V fb (fun _=>.slice none 0 0) from ⟨hb1,HT.out,hlo⟩)
 clear hA hlo hb1 HN
 go_wp2_with fail
 refine Calls.mono HB.out ?_
 rintro e w2 ⟨rfl,hb2⟩
 have hA2:=HA.out.below hb2
 have hI2:=HI.out.more hb2
 have hrun:=Ct tlA rqA (H:=uB gW) (k:=0) (s:=BA lN) (fs:=[⟨3,3,BA sC⟩]) (m:=lN.length) (e:=3) w2 (BA lN) (by show (⟨#[]⟩:ByteArray) ++ BA lN=BA lN; exact ByteArray.ext (by rw [ByteArray.data_append]; simp)) frsA hA2 (by decide) hI2 rfl rfl (by rw [jQ]; decide +kernel) (by decide)
  (fun f hf _ _ W hW=>by
   have e1:f=⟨3,3,BA sC⟩:=by simpa using hf
   subst e1
   exact E7 yc W Bo hW)
  (fun f _=>hok) (.inl ⟨fun _ _=>rfl,fun f _ h=>by
   rcases h with h | h
   · exact absurd (show (1:Int)=8 from h) (by decide)
   · exact absurd (show (1:Int)=9 from h) (by decide)⟩) (fun _=>Nat.zero_le _) (fun _ _=>Nat.zero_le _)
 obtain⟨SD,hSD⟩:∃ SD,nE tlA rqA (uB gW) 0 (BA lN) [⟨3,3,BA sC⟩] lN.length 3=SD:=⟨_,rfl⟩
 have hst:=Fr
 rw [hSD] at hrun hst
 obtain⟨FB,hFB⟩:∃ FB,BA lN=FB:=⟨_,rfl⟩
 rw [hFB] at hrun ⊢
 have HR:=hid (show Calls Tryz.prog 27 #[.pointer (some ⟨g,0,none⟩),.int .i64 0,.string FB] w2 (zn g V fb (fun _=>.slice none 0 0) SD 0 w2) from hrun)
 have Hst:=hid hst
 have HI2:=hid hI2
 clear hA2 hI2 hrun hst hSD hFB hok hb2 HA HI HB
 go_wp2_with fail
 refine Calls.mono HR.out ?_
 rintro e w3 ⟨rfl,wv3,x3,hA3,t3⟩
 have HI3:=hid (HI2.out.to t3)
 have HSt:=hid (Bl w3 hA3)
 obtain⟨s,hs⟩:∃ s,BA (SD.cs 0).waits=s:=⟨_,rfl⟩
 have hsz:s.size≠0:=by rw [← hs,jQ]; have:=Hst.out.2; omega
 rw [hs]
 have b1:=pF hsz
 have b2:=qE hsz
 have b3:(!s.toList.isEmpty)=true:=by have:=pF hsz; revert this; cases s.toList <;> simp
 have hlg:=hA3.blk.lt
 clear hA3 t3 hs hsz HR
 go_wp2_with fail
 refine Calls.mono HSt.out ?_
 rintro e w4 ⟨y,rfl,hy,hb4⟩
 have hnj:y.nj=1:=by have:=hy.lj; rw [Hst.out.1] at this; exact this.symm
 have Hb4:=hid (HI3.out.base.trans (hb4.mono HI3.out.base.size))
 have Hnj:=hid hnj
 clear hy hb4 HSt hnj
 unfold stC
 rw [Hnj.out]
 have hf:∀ W,(Instr.field 26 (.agg #[.int .i64 SD.st.rev,.slice y.aj 1 y.cj,.slice y.an y.nn y.cn,.slice y.al y.nl y.cl]) 1).run Tryz.prog W = .ok (.slice y.aj 1 y.cj) W:=fun _=>by kernel_rfl
 go_wp2
 go_ret
 exact⟨rfl,Hb4.out⟩
end Go.Proofs.YtoeejfhdjmkpcaaGreatDoor
/- The walk of the law TopAgain. -/
namespace Go.Proofs.YtoeejfhdjmkpcaaGreatDoor
open Go.Lib (hid)
open List (foldl_cons foldl_nil setIfInBounds_toArray set_cons_succ set_cons_zero)
open Go.RowKit
structure xS (w0:World) (V B:Nat) (st:ah) (now:Int) (x y:StA) (γ:Option StA) (w:World):Prop where
 s:AgS w0 w V st now x
 b:Blk w B 26 (stC st y)
 y:StAt w w.heap.size st y
 z:∀ z,γ=some z→StAt w w.heap.size st z
theorem xS.kept {w0 w w':World} {V B:Nat} {st:ah} {now:Int} {x y:StA} {γ:Option StA} (h:xS w0 V B st now x y γ w) (hb:Below w.heap.size w w'):xS w0 V B st now x y γ w':=
 ⟨h.s.kept hb,h.b.below hb h.b.lt,h.y.upS hb,fun z e=>(h.z z e).upS hb⟩
def agV (V:Nat) (st:ah) (y:StA) (γ:Option StA):Nat→Value→Prop
 | 0,u=>u = .bool false
 | 1,u=>u = .bool false
 | 2,u=>u = .agg #[.int .i64 st.rev,.slice y.aj y.nj y.cj,.slice y.an y.nn y.cn,.slice y.al y.nl y.cl]
 | 3,u=>u = .pointer (some ⟨V,0,none⟩)
 | 4,u=>∃ z,γ=some z∧u = .agg #[.int .i64 st.rev,.slice z.aj z.nj z.cj,.slice z.an z.nn z.cn,.slice z.al z.nl z.cl]
 | 5,u=>u = .bool true
 | 6,u=>u = .bool false
 | 7,u=>u = .bool false
 | _,_=>True
theorem Jo {V:Nat} {st:ah} {y:StA} {γ:Option StA} (g:Option StA):∀ j v,j≠4→agV V st y γ j v→agV V st y g j v:=by
 intro j v hj h
 unfold agV at *
 split at h
 all_goals first | exact h | exact absurd rfl hj
theorem xu (w:World) (s0:ah) (x0:StA) (qs:List aH) (A:Option Addr) (n c:Nat) (hs:StAt w w.heap.size s0 x0∧Dg s0) (hq:aW w w.heap.size 14 A n (au EM qs)) (hl:qs.length=n) (hn:n≤9223372036854775807) (hf:∀ q ∈ qs,qF q) (hT:Tabs w) :
 Calls Tryz.prog 3 #[.agg (stC s0 x0),.slice A n c] w fun e w'=>e = .returned (.bool true)∧Below w.heap.size w w':=by
 have hb1:Below w.heap.size w (w.alloc (.cells (stC s0 x0) 26)):=(Below.refl _ _).alloc (Nat.le_refl _) _
 obtain⟨W1,hW1⟩:∃ W1,w.alloc (.cells (stC s0 x0) 26)=W1:=⟨_,rfl⟩
 have hB:Blk W1 w.heap.size 26 (stC s0 x0):=by rw [← hW1]; exact heap_alloc_new w _
 rw [hW1] at hb1
 have HS:=hid hs.1
 have HF:=hid hf
 have Hl:=hid hl
 have HT:=hid hT
 have Hb1:=hid hb1
 have HB:=hid hB
 have HWk:=hid (C9 W1 (hT.below hb1))
 have HW1:=hid hW1
 obtain⟨CE,hCE⟩:∃ CE,aG s0=CE:=⟨_,rfl⟩
 have HCE:=hid hCE
 have HQ:=hid hq
 clear hs hf hl hT hb1 hB hW1 hCE hq
 unfold stC at HW1 ⊢
 go_enter Tryz.func3,Tryz.ntmps3
 go_wp2_with fail
 try rw [HW1.out]
 clear HW1
 refine Calls.mono HWk.out ?_
 rintro e w1 ⟨rfl,hbk⟩
 have Hbk:=hid (Hb1.out.trans (hbk.mono Hb1.out.size))
 have HBk:=hid (HB.out.below hbk HB.out.lt)
 have HN:=hid (show Calls Tryz.prog 12 #[.agg #[.int .i64 s0.rev,.slice x0.aj x0.nj x0.cj,.slice x0.an x0.nn x0.cn,.slice x0.al x0.nl x0.cl]] w1 (pN s0 w1) from vF s0 x0 w1 (HS.out.upS Hbk.out) (HT.out.below Hbk.out))
 obtain⟨c0,c1,c2,c3⟩:=Blk.c4 (HBk.out)
 have hlb:=HBk.out.lt
 have Hs1:=hid Hbk.out.size
 clear hbk HWk HB Hb1
 go_wp2_with fail
 refine Calls.mono HN.out ?_
 rintro e w2 ⟨hb2,hcase⟩
 rw [HCE.out] at hcase
 have Hb2:=hid (Hbk.out.trans (hb2.mono Hbk.out.size))
 clear hb2 HN HBk Hbk c0 c1 c2 c3 hlb
 rcases hcase with ⟨hbad,rfl⟩ | ⟨hgood,V,xv0,rfl,hV1,hV2⟩
 · have d1:(CE != 0)=true:=by simpa using hbad
   clear hbad
   go_wp2
   go_ret
   exact⟨rfl,Hb2.out⟩
 · subst hgood
   have HL:=hid (show AgS w w2 V s0 0 xv0 from ⟨Hb2.out,hV2,by have:=Hs1.out; omega⟩)
   clear hV1 hV2 Hb2 Hs1
   go_wp2
   go_loopw [34] (fun i wr=>∃ (k:Nat) (st:ah) (now:Int) (x:StA),k≤n∧i = .int .i64 k∧AgS w wr V st now x) (fun i _=>n - (intOf i).toNat)
   case atStart=>exact⟨0,s0,0,xv0,Nat.zero_le _,rfl,HL.out⟩
   case round=>
    obtain⟨k,st,now,x,hk,rfl,hL⟩:=hrel
    have HL:=hid hL
    clear hL
    by_cases hlt:k<n
    · obtain⟨q,hfq⟩:∃ q,qs[k]? = some q:=⟨_,List.getElem?_eq_getElem (by rw [Hl.out]; exact hlt)⟩
      obtain⟨b,off,rfl,hbB,hc⟩:=(HQ.out.below HL.out.below).cV zI Hl.out hfq
      have Hok:=hid (IV (HF.out q (List.mem_of_getElem? hfq)))
      have hwb:=HL.out.below.size
      obtain⟨c0,c1,c2,c3,c4,c5,c6,c7,c8,c9,c10,c11,c12,c13⟩:=rc14 hc
      have hlk:k*14+14≤n*14:=by omega
      have hbl:b<wr.heap.size:=by omega
      obtain⟨wq,hwq⟩:∃ wq,wr.alloc (.cells (aB q) 40)=wq:=⟨_,rfl⟩
      have hbQ:Below wr.heap.size wr wq:=by rw [← hwq]; exact (Below.refl _ _).alloc (Nat.le_refl _) _
      have HQ1:Blk wq wr.heap.size 40 (aB q):=by rw [← hwq]; exact heap_alloc_new wr _
      have HL1:=hid (HL.out.kept hbQ)
      have HD:=hid (show Calls Tryz.prog 13 #[.pointer (some ⟨V,0,none⟩),.agg (mg q)] wq (jP 109 V st (cW st now (dA st now q)) wq) from uz q st x now V _ HL1.out.v Hok.out (HT.out.below HL1.out.below))
      obtain⟨a0,a1,a2,a3,a4,a5,a6,a7,a8,a9,a10,a11,a12,a13⟩:=Blk.c14 (HQ1)
      have hlq:=HQ1.lt
      have HQ1:=hid HQ1
      have Hwq:=hid hwq
      clear hfq hc hbQ hwq
      unfold aB at Hwq
      go_wp2_with fail
      simp only [Hwq.out]
      clear Hwq
      refine Calls.mono HD.out ?_
      rintro e w2 ⟨D,dx,x1,rfl,-,-,hv,hsv,hg⟩
      have hok1:=xq (q:=q) HL.out.v.ok HL.out.v.t
      have hag:=fun hk7=>BV (now:=now) (q:=q) HL.out.v.ok hk7
      obtain⟨R,hR⟩:∃ R,cW st now (dA st now q)=R:=⟨_,rfl⟩
      rw [hR] at hv hsv hok1 hag ⊢
      have HL2:=hid (HL1.out.asked hg hv hsv hok1.1 hok1.2)
      have hq2:=aF hg HQ1.out (bC HQ1.out HL1.out.v.blk (by decide))
      have HQ2:=hid hq2
      have Hag:=hid hag
      have q0:w2.cell? ⟨wr.heap.size,0,none⟩=some (.int .i64 q.kind):=hq2.cell 0
      have Fm:=hq2.lt
      obtain⟨KD,hKD⟩:∃ KD,q.kind=KD:=⟨_,rfl⟩
      rw [hKD] at q0
      have HKD:=hid hKD
      clear hv hsv hg hok1 hag hR hq2 hKD HL HL1 HQ1 HD c0 a0 c1 a1 c2 a2 c3 a3 c4 a4 c5 a5 c6 a6 c7 a7 c8 a8 c9 a9 c10 a10 c11 a11 c12 a12 c13 a13 hlq
      by_cases h7:KD=7
      · subst h7
        clear HQ2 Hag
        go_wp2
        go_roundw
        case rel=>exact⟨k+1,R.st,R.now,x1,by omega,by go_num,HL2.out⟩
        case measure=>simp [intOf]; omega
      · have d7:(KD == 7)=false:=by simpa using h7
        have Hag:=hid (Hag.out (by rw [HKD.out]; exact h7))
        have HSt:=hid (kW R.st x1 R.now V w2 HL2.out.v)
        clear h7
        go_wp2_with fail
        refine Calls.mono HSt.out ?_
        rintro e w3 ⟨y,rfl,hy,hb3⟩
        obtain⟨w4,hw4⟩:∃ w4,w3.alloc (.cells (stC R.st y) 26)=w4:=⟨_,rfl⟩
        have hb4:Below w3.heap.size w3 w4:=by rw [← hw4]; exact (Below.refl _ _).alloc (Nat.le_refl _) _
        have hB4:Blk w4 w3.heap.size 26 (stC R.st y):=by rw [← hw4]; exact heap_alloc_new w3 _
        have hq4:=HQ2.out.below hb3 HQ2.out.lt
        have HL4:=hid ((HL2.out.kept hb3).kept hb4)
        have HD4:=hid (show Calls Tryz.prog 13 #[.pointer (some ⟨V,0,none⟩),.agg (mg q)] w4 (jP 109 V R.st (cW R.st R.now (dA R.st R.now q)) w4) from uz q R.st x1 R.now V _ HL4.out.v Hok.out (HT.out.below HL4.out.below))
        have HY:=hid (hy.upS hb4)
        have HB4:=hid hB4
        have Hw4:=hid hw4
        obtain⟨a0,a1,a2,a3,a4,a5,a6,a7,a8,a9,a10,a11,a12,a13⟩:=Blk.c14 (hq4)
        have hlq4:=hq4.lt
        have hlb4:=hB4.lt
        clear hy hb3 hw4 hb4 hB4 hq4 HSt HL2 HQ2 q0 Fm d7
        unfold stC at Hw4 ⊢
        go_wp2_with fail
        simp only [Hw4.out]
        clear Hw4
        refine Calls.mono HD4.out ?_
        rintro e w5 ⟨D2,dx2,x2,rfl,-,hdx2,hv5,hs5,hg5⟩
        have Fs:=xq (q:=q) HL4.out.v.ok HL4.out.v.t
        obtain⟨hch,hst⟩:=Hag.out
        obtain⟨⟨E2,ch2,st2,zR⟩,hR2⟩:∃ R2,cW R.st R.now (dA R.st R.now q)=R2:=⟨_,rfl⟩
        rw [hR2] at hv5 hs5 Fs hch hst ⊢
        dsimp only at hv5 hs5 Fs hch hst ⊢
        subst hch
        have HL5:=HL4.out.asked hg5 hv5 hs5 Fs.1 Fs.2
        have hB5:=aF hg5 HB4.out (bC HB4.out HL4.out.v.blk (by decide))
        have hY5:=(HY.out.gG HL4.out.v.blk (lK _ _ _) hg5).more hg5.size
        obtain⟨w6,hw6⟩:∃ w6,(w5.alloc (.cells #[.int .i64 E2,.int .i64 st2.rev] 42)).alloc (.cells (dC D2 dx2) 45)=w6:=⟨_,rfl⟩
        have hb6:Below w5.heap.size w5 w6:=by rw [← hw6]; exact ((Below.refl _ _).alloc (Nat.le_refl _) _).alloc (by simp) _
        obtain⟨B,hBn⟩:∃ B,w3.heap.size=B:=⟨_,rfl⟩
        rw [← hst] at hB5 hY5
        rw [hBn] at hB5
        have H6:=hid (show xS w V B st2 zR x2 y none w6 from ⟨HL5.kept hb6,hB5.below hb6 hB5.lt,hY5.upS hb6,fun z e=>by cases e⟩)
        have Hw6:=hid hw6
        have HBn:=hid hBn
        clear hdx2 hv5 hs5 hg5 Fs hst hR2 HL5 hB5 hY5 hw6 hb6 hBn HL4 HB4 HY HD4 Hag a0 a1 a2 a3 a4 a5 a6 a7 a8 a9 a10 a11 a12 a13 hlq4 hlb4
        unfold dC at Hw6 ⊢
        go_wp2_with fail
        simp only [Hw6.out,HBn.out]
        clear Hw6 HBn
        refine rq (Γ:=Option StA) 62 (agV V st2 y) [] (fun _ γ wx=>xS w V B st2 zR x2 y γ wx) none (H6.out.kept (Below.refl _ _).drew) ?_ ?_
        · clear H6
          refine⟨?_,?_,?_,?_,?_,?_,?_,?_,trivial⟩
          · exact ok0 0 0 12 rfl fun _=>rfl
          · exact ok1 0 0 0 53 rfl rfl (fun _ _ h=>h) fun _=>rfl
          · refine okR false 1 54 rfl rfl rfl (fun _ _ h=>h) fun p γ a wx _ _ hp hk=>?_
            have h1:=hk.k 9 rfl
            obtain⟨hc0,hc1,hc2,hc3⟩:=Blk.c4 ((show xS w V B st2 zR x2 y γ wx from hp).b)
            simp [go_sem,Oper.wp,execOp,Act.eval,h1,hc0,hc1,hc2,hc3]
            exact⟨_,rfl,γ,fun _ _ _ h=>h,rfl,hp⟩
          · refine okR false 1 54 rfl rfl rfl (fun _ _ h=>h) fun p γ a wx _ _ hp hk=>?_
            have h1:=hk.k 5 rfl
            simp [go_sem,Oper.wp,execOp,Act.eval,h1]
            exact⟨_,rfl,γ,fun _ _ _ h=>h,rfl,hp⟩
          · refine okR false 1 54 rfl rfl rfl (fun _ _ h=>h) fun p γ a wx _ _ hp hk=>?_
            obtain⟨u1,h1,rfl⟩:=hk.g 3 56 rfl rfl
            have hp:=(show xS w V B st2 zR x2 y γ wx from hp)
            simp [go_sem,Oper.wp,execOp,Act.eval,h1]
            refine (kW st2 x2 zR V wx hp.s.v).mono ?_
            rintro e w' ⟨z,rfl,hz,hb⟩
            exact⟨_,rfl,some z,Jo _,⟨z,rfl,rfl⟩,(hp.kept hb).s,(hp.kept hb).b,(hp.kept hb).y,fun z' e=>by injection e with e; subst e; exact hz⟩
          · refine okR false 1 54 rfl rfl rfl (fun _ _ h=>h) fun p γ a wx _ _ hp hk=>?_
            obtain⟨u1,h1,rfl⟩:=hk.g 2 55 rfl rfl
            obtain⟨u2,h2,⟨z2,ez2,rfl⟩⟩:=hk.g 4 57 rfl rfl
            have hp:=(show xS w V B st2 zR x2 y γ wx from hp)
            simp [go_sem,Oper.wp,execOp,Act.eval,h1,h2]
            refine (Fa st2 st2 y z2 wx hp.y (hp.z z2 ez2)).mono ?_
            rintro e w' ⟨t,rfl,ht,hb⟩
            obtain rfl:=ht.2 rfl
            exact⟨_,rfl,γ,fun _ _ _ h=>h,rfl,hp.kept hb⟩
          · refine okR false 1 54 rfl rfl rfl (fun _ _ h=>h) fun p γ a wx _ _ hp hk=>?_
            obtain⟨u1,h1,rfl⟩:=hk.g 5 58 rfl rfl
            simp [go_sem,Oper.wp,execOp,Act.eval,h1]
            exact⟨_,rfl,γ,fun _ _ _ h=>h,rfl,hp⟩
          · refine okQ 0 0 fun p γ a wx _ _ hp hk=>?_
            obtain⟨u1,h1,rfl⟩:=hk.g 1 54 rfl rfl
            obtain⟨u2,h2,rfl⟩:=hk.g 6 59 rfl rfl
            simp [go_sem,Oper.wp,execOp,Act.eval,h1,h2]
            exact⟨_,rfl,γ,fun _ _ _ h=>h,rfl,hp⟩
        intro γ act wz hd
        have hz:=(show xS w V B st2 zR x2 y γ wz from hd.ph)
        obtain⟨fv,rfl,hfv⟩:=hd.frame [53,54,55,56,57,58,59,60] rfl
        have f60:fv 60 = .bool false:=hfv 7 _ 60 rfl rfl
        have Hz:=hid hz.s
        simp only [foldl_cons,foldl_nil,setIfInBounds_toArray,set_cons_succ,set_cons_zero,f60]
        clear hd hfv hz f60 H6
        go_wp2
        go_roundw
        case rel=>exact⟨k+1,st2,zR,x2,by omega,by go_num,Hz.out⟩
        case measure=>simp [intOf]; omega
    · obtain rfl:k=n:=by omega
      clear hlt
      have Hz:=hid HL.out.below
      clear HL
      go_wp2
      go_ret
      exact⟨rfl,Hz.out⟩
end Go.Proofs.YtoeejfhdjmkpcaaGreatDoor
