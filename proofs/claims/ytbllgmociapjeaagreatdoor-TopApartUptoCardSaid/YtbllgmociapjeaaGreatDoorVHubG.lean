/- Of the proof of a statement: HubG. -/
import Derived.Test.YtbllgmociapjeaaGreatDoorVArgJk
set_option linter.unusedVariables false
set_option linter.unusedSimpArgs false
set_option maxRecDepth 100000
set_option maxHeartbeats 8000000
/- The walk of a hub's frame. -/
namespace Go.Proofs.YtbllgmociapjeaaGreatDoor
open Go.Lib (hid)
open List (foldl_cons foldl_nil setIfInBounds_toArray set_cons_succ set_cons_zero)
open Go.RowKit
theorem bL.other {w w':World} {g V r:Nat} {fb:Nat→Nat} {wv:Nat→Value} {cs:Nat→bQ} {st:ah} {x:StA} {now:Int} {t:TypeId} {c:Array Value} (h:bL w g V fb wv cs st x now) (hb:Blk w r t c) (hn:jf c) (h1:t ≠ 89) (h2:t ≠ 136) (h3:t ≠ 138) (h4:t ≠ 5) (hg:w.grownBy w' (some r)):bL w' g V fb wv cs st x now:=
 ⟨aD hg h.blk (aZ h.blk hb h1.symm),⟨aD hg h.srv.blk (aZ h.srv.blk hb h2.symm),(h.srv.at_.gR hb hn hg).more hg.size,h.srv.ok,h.srv.t⟩,fun i hi=>aD hg (h.feed i hi) (aZ (h.feed i hi) hb h3.symm),
  fun i hi=>(h.wait i hi).keep fun b hb'=>by
   obtain⟨c',h5,_⟩:=(h.wait i hi).blk hb'
   exact hg.block b h5.lt (fun e=>by injection e with e; exact aZ h5 hb h4.symm e),h.fbi,h.wvi⟩
theorem cT.new {g V r:Nat} {fb:Nat→Nat} {wv wv':Nat→Value} {w w1 w':World} (h:cT g V fb wv wv' w w1) (hg:w1.grownBy w' (some r)) (hr:w.heap.size≤r):cT g V fb wv wv' w w':=
 ⟨h.gr.trans (Gr.kr (S:=fun b=>b=r) hg fun b e=>by injection e with e; exact e.symm) fun b hb e=>by omega,fun i hi=>(h.own i hi)⟩
structure FrG where
 R:Option Nat
 D:Option Nat
 set:Bool
 dx:fP
 x:StA
def frV (g V:Nat) (q:aF) (E rev:Int) (D:aW) (ch:Bool) (γ:FrG):Nat→Value→Prop
 | 0,u=>u = .pointer (some ⟨g,0,none⟩)
 | 1,u=>u = .pointer (some ⟨g,0,none⟩)
 | 2,u=>u = .pointer (some ⟨g,0,none⟩)
 | 3,u=>u = .pointer (some ⟨V,0,none⟩)
 | 4,u=>u = .agg #[.int .i64 q.kind,.string q.job.name,.int .i64 q.job.prio,.int .i64 q.job.need,.int .i64 q.job.tries,.string q.job.tag,.string q.node.name,.int .i64 q.node.room,.string q.node.zone,.string q.lease.job,.string q.lease.node,.int .i64 q.lease.till,.string q.name,.int .i64 q.n]
 | 5,u=>γ.set=true∧u = .tuple #[.agg #[.int .i64 E,.int .i64 rev],.agg #[.int .i64 D.from_,.int .i64 D.to_,.slice γ.dx.aj γ.dx.nj γ.dx.cj,.slice γ.dx.an γ.dx.nn γ.dx.cn,.slice γ.dx.al γ.dx.nl γ.dx.cl,.slice γ.dx.agj γ.dx.ngj γ.dx.cgj,.slice γ.dx.agn γ.dx.ngn γ.dx.cgn,.slice γ.dx.agl γ.dx.ngl γ.dx.cgl],.bool ch]
 | 6,u=>γ.set=true∧u = .tuple #[.agg #[.int .i64 E,.int .i64 rev],.agg #[.int .i64 D.from_,.int .i64 D.to_,.slice γ.dx.aj γ.dx.nj γ.dx.cj,.slice γ.dx.an γ.dx.nn γ.dx.cn,.slice γ.dx.al γ.dx.nl γ.dx.cl,.slice γ.dx.agj γ.dx.ngj γ.dx.cgj,.slice γ.dx.agn γ.dx.ngn γ.dx.cgn,.slice γ.dx.agl γ.dx.ngl γ.dx.cgl],.bool ch]
 | 7,u=>u = .agg #[.int .i64 E,.int .i64 rev]
 | 8,u=>γ.set=true∧u = .agg #[.int .i64 D.from_,.int .i64 D.to_,.slice γ.dx.aj γ.dx.nj γ.dx.cj,.slice γ.dx.an γ.dx.nn γ.dx.cn,.slice γ.dx.al γ.dx.nl γ.dx.cl,.slice γ.dx.agj γ.dx.ngj γ.dx.cgj,.slice γ.dx.agn γ.dx.ngn γ.dx.cgn,.slice γ.dx.agl γ.dx.ngl γ.dx.cgl]
 | 9,u=>u = .bool ch
 | 10,u=>∃ r,γ.R=some r∧u = .pointer (some ⟨r,0,none⟩)
 | 11,u=>∃ d,γ.D=some d∧u = .pointer (some ⟨d,0,none⟩)
 | 14,u=>u = .bool ch
 | _,_=>True
section
variable {g V:Nat} {q:aF} {E rev:Int} {D:aW} {ch:Bool} {γ:FrG}
theorem I6 (hs:γ.set=false) (dx:fP) (x:StA):∀ j v,j≠5→frV g V q E rev D ch γ j v→frV g V q E rev D ch { γ with set:=true,dx:=dx,x:=x } j v:=by
 intro j v hj h
 unfold frV at *
 split at h
 all_goals first | exact h | exact absurd rfl hj | (rw [hs] at h; exact absurd h.1 (by decide))
theorem LF (r:Nat):∀ j v,j≠10→frV g V q E rev D ch γ j v→frV g V q E rev D ch { γ with R:=some r } j v:=by
 intro j v hj h
 unfold frV at *
 split at h
 all_goals first | exact h | exact absurd rfl hj
theorem LG (r:Nat):∀ j v,j≠11→frV g V q E rev D ch γ j v→frV g V q E rev D ch { γ with D:=some r } j v:=by
 intro j v hj h
 unfold frV at *
 split at h
 all_goals first | exact h | exact absurd rfl hj
end
def rC (E rev:Int) (p:Nat):Array Value:=if p<2 then #[.int .i64 0,.int .i64 0] else #[.int .i64 E,.int .i64 rev]
def deC (D:aW) (dx:fP) (p:Nat):Array Value:=if p<3 then fE else dC D dx
theorem I7 (E rev:Int) (p:Nat):jf (rC E rev p):=by
 unfold rC; split
 · exact iW 0 0
 · exact iW E rev
theorem F4 (D:aW) (dx:fP) (p:Nat):jf (deC D dx p):=by
 unfold deC; split
 · exact l7 zD zA
 · exact l7 D dx
structure kS (w0:World) (g V:Nat) (fb:Nat→Nat) (wv:Nat→Value) (H:dM) (x0:StA) (Q:Nat) (q:aF) (S:mM) (D:aW) (p:Nat) (γ:FrG) (w:World):Prop where
 tw:cT g V fb wv wv w0 w
 h0:p=0→γ.set=false∧bL w g V fb wv H.cs H.st x0 H.now
 h1:1≤p→bL w g V fb wv H.cs S.st γ.x S.now∧eF w w.heap.size D γ.dx
 q:Blk w Q 38 (aN q)
 r:∀ r,γ.R=some r→w0.heap.size≤r∧Blk w r 111 (rC S.e S.st.rev p)
 d:∀ d,γ.D=some d→w0.heap.size≤d∧Blk w d 113 (deC D γ.dx p)
section
variable {w0 w w':World} {g V:Nat} {fb:Nat→Nat} {wv:Nat→Value} {H:dM} {x0:StA} {Q:Nat} {q:aF} {S:mM} {D:aW} {p:Nat} {γ:FrG}
theorem F5 (D:aW) (dx dx':fP) {p:Nat} (hp:p<3):deC D dx p=deC D dx' 1:=by unfold deC; rw [if_pos hp,if_pos (by decide)]
theorem LH (E rev:Int) {p:Nat} (hp:p<2):rC E rev p=rC E rev 1:=by unfold rC; rw [if_pos hp,if_pos (by decide)]
theorem kS.drew (h:kS w0 g V fb wv H x0 Q q S D p γ w):kS w0 g V fb wv H x0 Q q S D p γ w.drew:=by
 have hb:Below w.heap.size w w.drew:=(Below.refl _ _).drew
 exact⟨h.tw.below_ hb,fun e=>⟨(h.h0 e).1,(h.h0 e).2.below hb⟩,fun e=>⟨(h.h1 e).1.below hb,(h.h1 e).2.upS hb⟩,h.q,h.r,h.d⟩
theorem kS.c0 (h:kS w0 g V fb wv H x0 Q q S D p γ w):w.cell? ⟨g,0,none⟩=some (.pointer (some ⟨V,0,none⟩)):=by
 rcases Nat.eq_zero_or_pos p with e | e
 · rw [(h.h0 e).2.blk.cell]; exact rU
 · rw [(h.h1 e).1.blk.cell]; exact rU
theorem kS.KK (h:kS w0 g V fb wv H x0 Q q S D p γ w) (hp:p<2):kS w0 g V fb wv H x0 Q q S D p { γ with R:=some w.heap.size } (w.alloc (.cells #[.int .i64 0,.int .i64 0] 111)):=by
 have hb:Below w.heap.size w (w.alloc (.cells #[.int .i64 0,.int .i64 0] 111)):=(Below.refl _ _).alloc (Nat.le_refl _) _
 refine⟨h.tw.below_ hb,fun e=>⟨(h.h0 e).1,(h.h0 e).2.below hb⟩,fun e=>⟨(h.h1 e).1.below hb,(h.h1 e).2.upS hb⟩,h.q.below hb h.q.lt,fun r hr=>?_,fun d hd=>⟨(h.d d hd).1,(h.d d hd).2.below hb (h.d d hd).2.lt⟩⟩
 injection hr with hr
 subst hr
 refine⟨h.tw.gr.size,?_⟩
 unfold rC
 rw [if_pos hp]
 exact heap_alloc_new w _
theorem kS.KL (h:kS w0 g V fb wv H x0 Q q S D p γ w) (hp:p<3):kS w0 g V fb wv H x0 Q q S D p { γ with D:=some w.heap.size } (w.alloc (.cells fE 113)):=by
 have hb:Below w.heap.size w (w.alloc (.cells fE 113)):=(Below.refl _ _).alloc (Nat.le_refl _) _
 refine⟨h.tw.below_ hb,fun e=>⟨(h.h0 e).1,(h.h0 e).2.below hb⟩,fun e=>⟨(h.h1 e).1.below hb,(h.h1 e).2.upS hb⟩,h.q.below hb h.q.lt,fun r hr=>⟨(h.r r hr).1,(h.r r hr).2.below hb (h.r r hr).2.lt⟩,fun d hd=>?_⟩
 injection hd with hd
 subst hd
 refine⟨h.tw.gr.size,?_⟩
 unfold deC
 rw [if_pos hp]
 exact heap_alloc_new w _
theorem kS.asked (h:kS w0 g V fb wv H x0 Q q S D 0 γ w) {dx:fP} {x':StA} (hd:eF w' w'.heap.size D dx) (hb:Blk w' V 136 (wY S.st x' S.now)) (hs:StAt w' w'.heap.size S.st x') (hc:aE S.st=0) (ht:0≤S.now∧S.now≤1099511627776) (hg:w.grownBy w' (some V)) :
 kS w0 g V fb wv H x0 Q q S D 1 { γ with set:=true,dx:=dx,x:=x' } w':=by
 obtain⟨_,h2⟩:=h.h0 rfl
 obtain⟨h3,h4⟩:=h2.asked hg hb hs hc ht
 refine⟨h.tw.gr_ h4,fun e=>absurd e (by decide),fun _=>⟨h3,hd⟩,aD hg h.q (aZ h.q h2.srv.blk (by decide)),fun r hr=>⟨(h.r r hr).1,?_⟩,fun d hd'=>⟨(h.d d hd').1,?_⟩⟩
 · rw [← LH S.e S.st.rev (p:=0) (by decide)]; exact aD hg (h.r r hr).2 (aZ (h.r r hr).2 h2.srv.blk (by decide))
 · rw [← F5 D γ.dx dx (p:=0) (by decide)]; exact aD hg (h.d d hd').2 (aZ (h.d d hd').2 h2.srv.blk (by decide))
theorem kS.BU (h:kS w0 g V fb wv H x0 Q q S D 1 γ w) {r:Nat} (hr:γ.R=some r) (hg:w.grownBy w' (some r)) (hb:Blk w' r 111 #[.int .i64 S.e,.int .i64 S.st.rev]):kS w0 g V fb wv H x0 Q q S D 2 γ w':=by
 obtain⟨h1,h2⟩:=h.r r hr
 obtain⟨h3,h4⟩:=h.h1 (Nat.le_refl _)
 have hn:=I7 S.e S.st.rev 1
 refine⟨h.tw.new hg h1,fun e=>absurd e (by decide),fun _=>⟨h3.other h2 hn (by decide) (by decide) (by decide) (by decide) hg,(h4.gR h2 hn hg).more hg.size⟩,aD hg h.q (aZ h.q h2 (by decide)),fun r' hr'=>?_,fun d hd=>⟨(h.d d hd).1,?_⟩⟩
 · rw [hr] at hr'
   injection hr' with hr'
   subst hr'
   exact⟨h1,hb⟩
 · rw [F5 D γ.dx γ.dx (p:=2) (by decide)]; exact aD hg (h.d d hd).2 (aZ (h.d d hd).2 h2 (by decide))
theorem kS.BV (h:kS w0 g V fb wv H x0 Q q S D 2 γ w) {d:Nat} (hd:γ.D=some d) (hg:w.grownBy w' (some d)) (hb:Blk w' d 113 (dC D γ.dx)):kS w0 g V fb wv H x0 Q q S D 3 γ w':=by
 obtain⟨h1,h2⟩:=h.d d hd
 obtain⟨h3,h4⟩:=h.h1 (by decide)
 have hn:=F4 D γ.dx 2
 refine⟨h.tw.new hg h1,fun e=>absurd e (by decide),fun _=>⟨h3.other h2 hn (by decide) (by decide) (by decide) (by decide) hg,(h4.gR h2 hn hg).more hg.size⟩,aD hg h.q (aZ h.q h2 (by decide)),fun r hr=>⟨(h.r r hr).1,aD hg (h.r r hr).2 (aZ (h.r r hr).2 h2 (by decide))⟩,fun d' hd'=>?_⟩
 rw [hd] at hd'
 injection hd' with hd'
 subst hd'
 exact⟨h1,hb⟩
end
theorem bL.F6 {w:World} {g V b:Nat} {fb:Nat→Nat} {wv:Nat→Value} {cs:Nat→bQ} {st:ah} {x:StA} {now:Int} {t:TypeId} {c:Array Value} (h:bL w g V fb wv cs st x now) (hb:Blk w b t c) (h1:t ≠ 89) (h2:t ≠ 136) (h3:t ≠ 138) (h4:t ≠ 5):¬ nP g V fb wv b:=by
 rintro (e | e | ⟨i,hi,e | e⟩)
 · exact aZ hb h.blk h1 e
 · exact aZ hb h.srv.blk h2 e
 · exact aZ hb (h.feed i hi) h3 e
 · obtain⟨c',h5,_⟩:=(h.wait i hi).blk e
   exact h4 (vJ hb h5)
theorem F7 {st:ah} {now:Int} {q:aF} (h:lB q):(iN st now (iI st now q)).ch=false:=by
 have hd:doR st now q=(0,st,now):=by
  unfold lB at h
  unfold doR
  rw [if_neg (by omega),if_neg (by omega),if_neg (by omega),if_neg (by omega),if_neg (by omega),if_neg (by omega),if_neg (by omega)]
 unfold iI
 by_cases h0:cu q=0
 · rw [if_pos h0,hd]
   unfold iN
   rw [if_pos rfl,if_pos ⟨rfl,rfl,rfl⟩]
 · rw [if_neg h0]
   unfold iN
   rw [if_neg h0]
theorem eF.grew {w w':World} {D:aW} {dx:fP} (h:eF w w.heap.size D dx) {v v':Value} {l:List UInt8} (hr:ByteRow w v l) (hg:bZ w w' v v'):eF w' w'.heap.size D dx:=by
 cases hv:v.ownBlock with
 | none=>
  have:=hg.grown
  rw [hv] at this
  exact h.upS ⟨this.os,this.tape,this.output,this.size,fun k hk=>this.block k hk (by simp)⟩
 | some b=>
  obtain⟨c,h1,h2⟩:=hr.blk hv
  have:=hg.grown
  rw [hv] at this
  exact (h.gR h1 h2 this).more this.size
theorem gE.del {g V k:Nat} {fb:Nat→Nat} {wv:Nat→Value} {cs:Nat→bQ} {st:ah} {x:StA} {now:Int} {w w':World} {e:Ending} {L:List UInt8} {D:aW} {dx:fP} (hp:gE g (1+k*4+3) (wv k) L w e w') (h:bL w g V fb wv cs st x now) (hk:k<8) (hd:eF w w.heap.size D dx):eF w' w'.heap.size D dx:=by
 obtain⟨_,w1,v',h2,h3,rfl⟩:=hp
 have hset:=bE w1 g (1+k*4+3) v'
 exact ((hd.grew (h.wait k hk) h3).gR (mL h.blk (by decide) (h.wait k hk) h3) h.BW hset).more hset.size
theorem F8 (tl:ah→List UInt8) {g V k:Nat} {fb:Nat→Nat} {wv:Nat→Value} {H:dM} {x:StA} {wb:World} (w:World) (pay:ByteArray) (q:aF) (h:bL w g V fb wv H.cs H.st x H.now) (hk:k<8) (hI:jZ wb w g V fb wv)
 (hrq:∀ W,Tabs W→Calls Tryz.prog 62 #[.string pay] W (eK q 0 W)) (hok:ROk q) (ht:((∀ i,i<8→(H.cs i).aH=false)∧¬ lB q)∨oQ tl) (htl:∀ st,(tl st).length≤7000) (hl:∀ i,i<8→(H.cs i).waits.length≤35184371000000) :
 Calls Tryz.prog 38 #[.pointer (some ⟨g,0,none⟩),.pointer (some ⟨g,1+k*4,none⟩),.agg #[.int .i64 3,.int .i64 3,.string pay]] w (gW g V fb wv (eV tl H k q) (.tuple #[]) w):=by
 obtain⟨W,hW⟩:∃ W,w.alloc (.cells #[.int .i64 3,.int .i64 3,.string pay] 40)=W:=⟨_,rfl⟩
 have hbW:Below w.heap.size w W:=by rw [← hW]; exact (Below.refl _ _).alloc (Nat.le_refl _) _
 have hb:Blk W w.heap.size 40 #[.int .i64 3,.int .i64 3,.string pay]:=by rw [← hW]; exact heap_alloc_new w _
 have HDc:=hid (hrq W (hI.more hbW).at_)
 have c0:W.cell? ⟨w.heap.size,0,none⟩=some (.int .i64 3):=hb.cell 0
 have c1:W.cell? ⟨w.heap.size,1,none⟩=some (.int .i64 3):=hb.cell 1
 have c2:W.cell? ⟨w.heap.size,2,none⟩=some (.string pay):=hb.cell 2
 have hlW:=hb.lt
 have HW:=hid hW
 have Hh:=hid (h.below hbW)
 have HI:=hid (hI.more hbW)
 have HT0:=hid ((cT.refl g V fb wv w).below_ hbW)
 have Hl:=hid hl
 have Ht:=hid ht
 have Htl:=hid htl
 have Hok:=hid hok
 have HIw0:=hid hI
 clear hbW hb hW h hI hrq hl ht htl hok
 go_enter Tryz.func38,Tryz.ntmps38
 go_wp2_with fail
 try simp only [HW.out]
 clear HW
 refine Calls.mono HDc.out ?_
 rintro e w2 ⟨rfl,hb2⟩
 obtain⟨w3,hw3⟩:∃ w3,w2.alloc (.cells (aN q) 38)=w3:=⟨_,rfl⟩
 have hb3:Below w2.heap.size w2 w3:=by rw [← hw3]; exact (Below.refl _ _).alloc (Nat.le_refl _) _
 have hq3:Blk w3 w2.heap.size 38 (aN q):=by rw [← hw3]; exact heap_alloc_new w2 _
 have H3:=hid ((Hh.out.below hb2).below hb3)
 have HI3:=hid ((HI.out.more hb2).more hb3)
 have HT3:=hid ((HT0.out.below_ hb2).below_ hb3)
 have Hsv:=hid H3.out.srv.ok
 obtain⟨S,hS⟩:∃ S,iN H.st H.now (iI H.st H.now q)=S:=⟨_,rfl⟩
 obtain⟨D,hD⟩:∃ D,(if S.ch=true then eW H.st S.st else zD)=D:=⟨_,rfl⟩
 have H0:=hid (show kS w3 g V fb wv H x w2.heap.size q S D 0 ⟨none,none,false,zA,x⟩ w3 from ⟨cT.refl _ _ _ _ _,fun _=>⟨rfl,H3.out⟩,fun e=>absurd e (by decide),hq3,(fun r e=>by cases e),(fun r e=>by cases e)⟩)
 have I8:=I9 (q:=q) H3.out.srv.ok H3.out.srv.t
 have HDo:=hid (fun (wx:World) (γ:FrG) (hp:kS w3 g V fb wv H x w2.heap.size q S D 0 γ wx)=>show Calls Tryz.prog 63 #[.pointer (some ⟨V,0,none⟩),.agg (pN q)] wx (fun e w'=>∃ dx x',e = .returned (.tuple #[.agg #[.int .i64 S.e,.int .i64 S.st.rev],.agg #[.int .i64 D.from_,.int .i64 D.to_,.slice dx.aj dx.nj dx.cj,.slice dx.an dx.nn dx.cn,.slice dx.al dx.nl dx.cl,.slice dx.agj dx.ngj dx.cgj,.slice dx.agn dx.ngn dx.cgn,.slice dx.agl dx.ngl dx.cgl],.bool S.ch])∧kS w3 g V fb wv H x w2.heap.size q S D 1 { γ with set:=true,dx:=dx,x:=x' } w') from by
  refine (F9 q H.st x H.now V wx (hp.h0 rfl).2.srv Hok.out (HI3.out.to hp.tw).at_).mono ?_
  rw [hS]
  rintro e w' ⟨D',dx,x',rfl,hD',hdx,hv,hs,hg⟩
  have e1:D'=D:=hD'.trans hD
  subst e1
  rw [hS] at I8
  exact⟨dx,x',rfl,hp.asked hdx hv hs I8.1 I8.2 hg⟩)
 have Hw3:=hid (show (w2.alloc (.cells (pN q) 38))=w3 from hw3)
 have HS:=hid hS
 have HDe:=hid hD
 have hlq3:=hq3.lt
 clear hw3 hb2 hb3 hq3 hS hD I8 Hh HI HT0 HDc c0 c1 c2
 unfold bH
 unfold aN
 go_wp2_with fail
 simp only [Hw3.out]
 clear Hw3
 refine rq (Γ:=FrG) 79 (fun γ=>frV g V q S.e S.st.rev D S.ch γ) [5,12,13] (fun p γ wx=>kS w3 g V fb wv H x w2.heap.size q S D p γ wx) ⟨none,none,false,zA,x⟩ H0.out.drew ?_ ?_
 · clear H0
   refine⟨?_,?_,?_,?_,?_,?_,?_,?_,?_,?_,?_,?_,?_,?_,?_,trivial⟩
   · exact ok0 0 3 0 rfl fun _=>rfl
   · exact ok1 0 3 0 35 rfl rfl (fun _ _ h=>h) fun _=>rfl
   · exact ok1 0 3 1 36 rfl rfl (fun _ _ h=>h) fun _=>rfl
   · refine okQ 0 3 fun p γ a wx hpl hph hp hk=>?_
     obtain⟨u1,h1,rfl⟩:=hk.g 2 37 rfl rfl
     have hc:=hp.c0
     simp [go_sem,Oper.wp,execOp,Act.eval,h1,hc]
     exact⟨_,rfl,γ,fun _ _ _ h=>h,rfl,hp⟩
   · refine okQ 0 3 fun p γ a wx hpl hph hp hk=>?_
     have h1:=hk.k 6 rfl
     obtain⟨hc0,hc1,hc2,hc3,hc4,hc5,hc6,hc7,hc8,hc9,KM,KN,KO,KP⟩:=Blk.c14 (hp.q)
     simp [go_sem,Oper.wp,execOp,Act.eval,h1,hc0,hc1,hc2,hc3,hc4,hc5,hc6,hc7,hc8,hc9,KM,KN,KO,KP]
     exact⟨_,rfl,γ,fun _ _ _ h=>h,rfl,hp⟩
   · refine .inl ⟨0,rfl,fun γ a wx hp hk=>bA rfl ?_⟩
     obtain⟨u1,h1,rfl⟩:=hk.g 3 38 rfl rfl
     obtain⟨u2,h2,rfl⟩:=hk.g 4 39 rfl rfl
     simp [go_sem,Oper.wp,execOp,Act.eval,h1,h2]
     obtain⟨hs0,hA⟩:=hp.h0 rfl
     refine (HDo.out wx γ hp).mono ?_
     rintro e w' ⟨dx,x',rfl,hp'⟩
     exact⟨_,rfl,_,I6 hs0 dx x',⟨rfl,rfl⟩,hp'⟩
   · refine okQ 0 3 fun p γ a wx hpl hph hp hk=>?_
     obtain⟨u1,h1,Av,rfl⟩:=hk.g 5 40 rfl rfl
     simp [go_sem,Oper.wp,execOp,Act.eval,h1]
     exact⟨_,rfl,γ,fun _ _ _ h=>h,⟨Av,rfl⟩,hp⟩
   · refine okQ 0 3 fun p γ a wx hpl hph hp hk=>?_
     obtain⟨u1,h1,Av,rfl⟩:=hk.g 6 34 rfl rfl
     simp [go_sem,Oper.wp,execOp,Act.eval,h1]
     exact⟨_,rfl,γ,fun _ _ _ h=>h,rfl,hp⟩
   · refine okQ 0 3 fun p γ a wx hpl hph hp hk=>?_
     obtain⟨u1,h1,Av,rfl⟩:=hk.g 6 34 rfl rfl
     simp [go_sem,Oper.wp,execOp,Act.eval,h1]
     exact⟨_,rfl,γ,fun _ _ _ h=>h,⟨Av,rfl⟩,hp⟩
   · refine okQ 0 3 fun p γ a wx hpl hph hp hk=>?_
     obtain⟨u1,h1,Av,rfl⟩:=hk.g 6 34 rfl rfl
     simp [go_sem,Oper.wp,execOp,Act.eval,h1]
     exact⟨_,rfl,γ,fun _ _ _ h=>h,rfl,hp⟩
   · refine okQ 0 1 fun p γ a wx hpl hph hp hk=>?_
     simp [go_sem,Oper.wp,execOp,Act.eval]
     exact⟨_,rfl,_,LF _,⟨_,rfl,rfl⟩,hp.KK (by omega)⟩
   · refine okQ 0 1 fun p γ a wx hpl hph hp hk=>?_
     simp [go_sem,Oper.wp,execOp,Act.eval]
     exact⟨_,rfl,_,LG _,⟨_,rfl,rfl⟩,hp.KL (by omega)⟩
   · refine .inl ⟨1,rfl,fun γ a wx hp hk=>bA rfl ?_⟩
     obtain⟨u1,h1,r1,er1,rfl⟩:=hk.g 10 8 rfl rfl
     obtain⟨u2,h2,rfl⟩:=hk.g 7 41 rfl rfl
     have hB:Blk wx r1 111 #[.int .i64 0,.int .i64 0]:=(hp.r r1 er1).2
     obtain⟨z0,z1⟩:=Blk.z2 (hB)
     obtain⟨c0,c1⟩:=Blk.c2 (hB)
     have hfin:=hp.BU er1 (aQ (aQ (cX wx r1) 0 (.int .i64 S.e)) 1 (.int .i64 S.st.rev)) (Blk.eq ((hB.set 0 (.int .i64 S.e)).set 1 (.int .i64 S.st.rev)) rfl)
     clear hB hp
     simp [go_sem,Oper.wp,execOp,Act.eval,h1,h2,c0,c1,z0,z1]
     exact⟨.int .i64 0,γ,fun _ _ _ h=>h,trivial,hfin⟩
   · refine .inl ⟨2,rfl,fun γ a wx hp hk=>bA rfl ?_⟩
     obtain⟨u1,h1,d1,ed1,rfl⟩:=hk.g 11 9 rfl rfl
     obtain⟨u2,h2,hset2,rfl⟩:=hk.g 8 42 rfl rfl
     have hB:Blk wx d1 113 fE:=(hp.d d1 ed1).2
     obtain⟨z0,z1,z2,z3,z4,z5,z6,z7⟩:=Blk.z8 (hB)
     obtain⟨c0,c1,c2,c3,c4,c5,c6,c7⟩:=Blk.c8 (hB)
     have hfin:=hp.BV ed1 (aQ (aQ (aQ (aQ (aQ (aQ (aQ (aQ (cX wx d1) 0 (.int .i64 D.from_)) 1 (.int .i64 D.to_)) 2 (.slice γ.dx.aj γ.dx.nj γ.dx.cj)) 3 (.slice γ.dx.an γ.dx.nn γ.dx.cn)) 4 (.slice γ.dx.al γ.dx.nl γ.dx.cl)) 5 (.slice γ.dx.agj γ.dx.ngj γ.dx.cgj)) 6 (.slice γ.dx.agn γ.dx.ngn γ.dx.cgn)) 7 (.slice γ.dx.agl γ.dx.ngl γ.dx.cgl)) (Blk.eq ((((((((hB.set 0 (.int .i64 D.from_)).set 1 (.int .i64 D.to_)).set 2 (.slice γ.dx.aj γ.dx.nj γ.dx.cj)).set 3 (.slice γ.dx.an γ.dx.nn γ.dx.cn)).set 4 (.slice γ.dx.al γ.dx.nl γ.dx.cl)).set 5 (.slice γ.dx.agj γ.dx.ngj γ.dx.cgj)).set 6 (.slice γ.dx.agn γ.dx.ngn γ.dx.cgn)).set 7 (.slice γ.dx.agl γ.dx.ngl γ.dx.cgl)) rfl)
     clear hB hp
     simp [go_sem,Oper.wp,execOp,Act.eval,h1,h2,c0,c1,c2,c3,c4,c5,c6,c7,z0,z1,z2,z3,z4,z5,z6,z7]
     exact⟨.int .i64 0,γ,fun _ _ _ h=>h,trivial,hfin⟩
   · exact ok1 0 3 9 43 rfl rfl (fun _ _ h=>h) fun _=>rfl
 intro γ a wy hd
 have hph:=hd.ph
 obtain⟨fv,rfl,hfv⟩:=hd.frame [35,36,37,38,39,40,34,41,42,43,8,9,10] rfl
 obtain⟨R,eR,h8⟩:=hfv 10 _ 8 rfl rfl
 obtain⟨DD,eD,h9⟩:=hfv 11 _ 9 rfl rfl
 have h10:fv 10 = .bool S.ch:=hfv 14 _ 10 rfl rfl
 clear hd hfv H0 HDo
 simp only [foldl_cons,foldl_nil,setIfInBounds_toArray,set_cons_succ,set_cons_zero,h8,h9,h10]
 clear h8 h9 h10
 obtain⟨hA,hdl⟩:=hph.h1 (by decide)
 have hrb:Blk wy R 111 #[.int .i64 S.e,.int .i64 S.st.rev]:=(hph.r R eR).2
 have hdb:Blk wy DD 113 (dC D γ.dx):=(hph.d DD eD).2
 have hqb:=hph.q
 have HTy:=hid (HT3.out.trans hph.tw)
 have HR:=hid (pV g (1+k*4) 89 _ (wv k) _ S.e S.st.rev wy hA.blk (by decide) (fX hk) (hA.wait k hk) (by have:=Hl.out k hk; omega))
 obtain⟨r0,r1⟩:=Blk.c2 (hrb)
 have hlr:=hrb.lt
 have HA:=hid hA
 have Hdl:=hid hdl
 have Hrb:=hid hrb
 have Hdb:=hid hdb
 have Hqb:=hid hqb
 clear hph hA hdl hrb hdb hqb H3 HT3 eR eD
 go_wp2_with fail
 refine Calls.mono HR.out ?_
 rintro e w5 hp
 have hd5:=hp.del HA.out hk Hdl.out
 obtain⟨rfl,wv5,h5,t5⟩:=hp.hub HA.out hk
 have h5:bL w5 g V fb wv5 (upd H.cs k (mq S.e S.st.rev (H.cs k))) S.st γ.x S.now:=h5
 have KQ:=t5.gr.blk Hrb.out (HA.out.F6 Hrb.out (by decide) (by decide) (by decide) (by decide))
 have KR:=t5.gr.blk Hqb.out (HA.out.F6 Hqb.out (by decide) (by decide) (by decide) (by decide))
 have KS:=t5.gr.blk Hdb.out (HA.out.F6 Hdb.out (by decide) (by decide) (by decide) (by decide))
 have T5:=HTy.out.trans t5
 have HD5:=hid hd5
 have H5:=hid h5
 have HT5:=hid T5
 have HIw:jZ wb w g V fb wv:=HIw0.out
 have HI5:=hid (HIw.to T5)
 have KT:=hid KQ
 have Aw:=hid KR
 have HDb5:=hid KS
 have hlr5:=KQ.lt
 have hlq5:=KR.lt
 have hld5:=KS.lt
 have hwl:(mq S.e S.st.rev (H.cs k)).waits.length≤35184371100000:=by
  have h1:=Hl.out k hk
  have h2:=jW 3 4 (gK S.e S.st.rev).1.data.toList (by have:=j5 S.e S.st.rev; simp; omega)
  show ((H.cs k).waits ++ cR 3 4 _).length≤_
  rw [List.length_append]; omega
 have Hwl:=hid hwl
 clear hp h5 t5 KQ KR KS T5 hd5 HIw hwl HR r0 r1 hlr HA Hdl Hrb Hdb Hqb HTy
 by_cases hE:S.e=0∧lB q
 · have hTA:oQ tl:=Ht.out.resolve_left (fun h=>h.2 hE.2)
   have hch:S.ch=false:=by rw [← HS.out]; exact F7 hE.2
   have hw5:ByteRow w5 (wv5 k) (mq S.e S.st.rev (H.cs k)).waits:=by have:=H5.out.wait k hk; rwa [bB] at this
   have HTl:=hid (hTA g (1+k*4) V 89 _ (wv5 k) _ S.st γ.x S.now w5 H5.out.blk (by decide) rU (fX hk) hw5 (by have:=Hwl.out; omega) H5.out.srv HI5.out.at_)
   have r0:w5.cell? ⟨R,0,none⟩=some (.int .i64 0):=by rw [← hE.1]; exact KT.out.cell 0
   obtain⟨AC,hAC⟩:∃ AC,eJ tl q S (H.cs k)=AC:=⟨_,rfl⟩
   have HAC:=hid hAC
   have HE:=hid hE
   rw [hch]
   clear hTA hw5 hAC
   rcases hE.2 with hkd | hkd
   all_goals clear hE
   · have q0:w5.cell? ⟨w2.heap.size,0,none⟩=some (.int .i64 8):=by rw [← hkd]; exact Aw.out.cell 0
     have Hkd:=hid hkd
     have Hch:=hid hch
     clear hkd hch
     go_wp2_with fail
     refine Calls.mono HTl.out ?_
     rintro e w6 hp6
     obtain⟨rfl,wv6,h6,t6⟩:=hp6.hub H5.out hk
     rw [qH] at h6
     simp only [bB] at h6
     have BX:=t6.gr.blk Aw.out (H5.out.F6 Aw.out (by decide) (by decide) (by decide) (by decide))
     have q6:w6.cell? ⟨w2.heap.size,0,none⟩=some (.int .i64 8):=by rw [← Hkd.out]; exact BX.cell 0
     have hlq6:=BX.lt
     have y6:w6.cell? ⟨g,1+k*4+2,none⟩=some (.bool (H.cs k).aH):=by rw [h6.blk.cell,mo hk,bB]; rfl
     have z6:w6.frozen? ⟨g,1+k*4+2,none⟩=false:=h6.blk.thaw _
     have hlg:=h6.blk.lt
     have H6:=hid h6
     have HT6:=hid (HT5.out.trans t6)
     clear hp6 h6 t6 BX HTl r0 q0
     have bI:Hid (∀ b,b=((H.cs k).aH || decide (q.kind=9))→gW g V fb wv (eV tl H k q) (.tuple #[]) w (.returned (.tuple #[])) (w6.setCell ⟨g,1+k*4+2,none⟩ (.bool b))):=hid fun b hb=>by
      obtain⟨h7,g7⟩:=H6.out.set1 hk b
      refine⟨rfl,wv6,γ.x,?_,HT6.out.gr_ g7⟩
      unfold eV
      dsimp only
      rw [HS.out,if_neg (by rw [Hch.out]; decide)]
      dsimp only
      unfold eJ
      rw [if_pos HE.out]
      subst hb
      exact h7
     cases hw:(H.cs k).aH
     all_goals
      rw [hw] at y6
      have F:=hid (bI.out _ (by rw [hw,Hkd.out]))
      clear hw bI
      go_wp2
      go_end0
      exact F.out
   · have q0:w5.cell? ⟨w2.heap.size,0,none⟩=some (.int .i64 9):=by rw [← hkd]; exact Aw.out.cell 0
     have Hkd:=hid hkd
     have Hch:=hid hch
     clear hkd hch
     go_wp2_with fail
     refine Calls.mono HTl.out ?_
     rintro e w6 hp6
     obtain⟨rfl,wv6,h6,t6⟩:=hp6.hub H5.out hk
     rw [qH] at h6
     simp only [bB] at h6
     have BX:=t6.gr.blk Aw.out (H5.out.F6 Aw.out (by decide) (by decide) (by decide) (by decide))
     have q6:w6.cell? ⟨w2.heap.size,0,none⟩=some (.int .i64 9):=by rw [← Hkd.out]; exact BX.cell 0
     have hlq6:=BX.lt
     have y6:w6.cell? ⟨g,1+k*4+2,none⟩=some (.bool (H.cs k).aH):=by rw [h6.blk.cell,mo hk,bB]; rfl
     have z6:w6.frozen? ⟨g,1+k*4+2,none⟩=false:=h6.blk.thaw _
     have hlg:=h6.blk.lt
     have H6:=hid h6
     have HT6:=hid (HT5.out.trans t6)
     clear hp6 h6 t6 BX HTl r0 q0
     have bI:Hid (∀ b,b=((H.cs k).aH || decide (q.kind=9))→gW g V fb wv (eV tl H k q) (.tuple #[]) w (.returned (.tuple #[])) (w6.setCell ⟨g,1+k*4+2,none⟩ (.bool b))):=hid fun b hb=>by
      obtain⟨h7,g7⟩:=H6.out.set1 hk b
      refine⟨rfl,wv6,γ.x,?_,HT6.out.gr_ g7⟩
      unfold eV
      dsimp only
      rw [HS.out,if_neg (by rw [Hch.out]; decide)]
      dsimp only
      unfold eJ
      rw [if_pos HE.out]
      subst hb
      exact h7
     cases hw:(H.cs k).aH
     all_goals
      rw [hw] at y6
      have F:=hid (bI.out _ (by rw [hw,Hkd.out]))
      clear hw bI
      go_wp2
      go_end0
      exact F.out
 · have hasks:eJ tl q S (H.cs k)=mq S.e S.st.rev (H.cs k):=by unfold eJ; rw [if_neg hE]
   have HAS:=hid hasks
   have HNE:=hid hE
   clear hasks hE
   have r0:w5.cell? ⟨R,0,none⟩=some (.int .i64 S.e):=KT.out.cell 0
   have q0:w5.cell? ⟨w2.heap.size,0,none⟩=some (.int .i64 q.kind):=Aw.out.cell 0
   have Hno:Hid (S.ch=false→gW g V fb wv (eV tl H k q) (.tuple #[]) w (.returned (.tuple #[])) w5):=hid fun hch=>by
    refine⟨rfl,wv5,γ.x,?_,HT5.out⟩
    unfold eV
    dsimp only
    rw [HS.out,if_neg (by rw [hch]; decide),HAS.out]
    exact H5.out
   have BY:Hid (S.ch=true→Calls Tryz.prog 66 #[.pointer (some ⟨g,0,none⟩),.agg #[.int .i64 D.from_,.int .i64 D.to_,.slice γ.dx.aj γ.dx.nj γ.dx.cj,.slice γ.dx.an γ.dx.nn γ.dx.cn,.slice γ.dx.al γ.dx.nl γ.dx.cl,.slice γ.dx.agj γ.dx.ngj γ.dx.cgj,.slice γ.dx.agn γ.dx.ngn γ.dx.cgn,.slice γ.dx.agl γ.dx.ngl γ.dx.cgl]] w5 (gW g V fb wv (eV tl H k q) (.tuple #[]) w)):=hid fun hch=>by
    have hD1:eW H.st S.st=D:=by have:=HDe.out; rwa [if_pos hch] at this
    have hfr:D.from_=H.st.rev:=by rw [← hD1]; rfl
    have hrv:=aL.1 (bP.1 Hsv.out).1
    refine (zE tl (H:=⟨S.st,S.now,upd H.cs k (mq S.e S.st.rev (H.cs k))⟩) w5 D γ.dx H5.out HI5.out HD5.out (by omega) (by omega) ?_ ?_).mono ?_
    · rcases Ht.out with h | h
      · refine .inl fun i hi=>?_
        show (upd H.cs k _ i).aH=false
        by_cases e:i=k
        · subst e; rw [bB]; exact h.1 i hi
        · rw [upd_ne _ _ e]; exact h.1 i hi
      · exact .inr h
    · intro i hi
      show (upd H.cs k _ i).waits.length≤_
      by_cases e:i=k
      · subst e; rw [bB]; have:=Hwl.out; omega
      · rw [upd_ne _ _ e]; have:=Hl.out i hi; omega
    · rintro e w' ⟨he,wv',x',h1,h2⟩
      refine⟨he,wv',x',?_,HT5.out.trans h2⟩
      unfold eV
      dsimp only
      rw [HS.out,if_pos hch,HAS.out,hD1]
      exact h1
   clear HD5 H5 HT5 HI5 KT Aw Hwl Ht Htl Hl HDe HS HAS
   obtain⟨a0,a1,a2,a3,a4,a5,a6,a7⟩:=Blk.c8 (HDb5.out)
   clear HDb5
   obtain⟨E,hEe⟩:∃ E,S.e=E:=⟨_,rfl⟩
   obtain⟨CH,hCH⟩:∃ CH,S.ch=CH:=⟨_,rfl⟩
   obtain⟨KD,hKD⟩:∃ KD,q.kind=KD:=⟨_,rfl⟩
   rw [hCH] at Hno BY ⊢
   rw [hEe] at r0
   rw [hKD] at q0
   have hcase:(E=0∧KD≠8∧KD≠9)∨E≠0:=by
    by_cases e:E=0
    · refine .inl ⟨e,fun h=>HNE.out ⟨by rw [hEe,e],.inl (by rw [hKD,h])⟩,fun h=>HNE.out ⟨by rw [hEe,e],.inr (by rw [hKD,h])⟩⟩
    · exact .inr e
   clear hEe hCH hKD HNE
   rcases hcase with ⟨rfl,h8,h9⟩ | hne
   · have d8:(KD == 8)=false:=by simpa using h8
     have d9:(KD == 9)=false:=by simpa using h9
     clear h8 h9
     cases CH
     · have F:=hid (Hno.out rfl)
       clear Hno BY
       go_wp2
       go_end0
       exact F.out
     · have F:=hid (BY.out rfl)
       clear Hno BY
       go_wp2_with fail
       refine Calls.mono F.out ?_
       rintro e w' hp
       have P:=hid hp
       obtain⟨rfl,_⟩:=hp
       clear F
       go_wp2
       go_end0
       exact P.out
   · have d0:(E == 0)=false:=by simpa using hne
     clear hne
     cases CH
     · have F:=hid (Hno.out rfl)
       clear Hno BY
       go_wp2
       go_end0
       exact F.out
     · have F:=hid (BY.out rfl)
       clear Hno BY
       go_wp2_with fail
       refine Calls.mono F.out ?_
       rintro e w' hp
       have P:=hid hp
       obtain⟨rfl,_⟩:=hp
       clear F
       go_wp2
       go_end0
       exact P.out
end Go.Proofs.YtbllgmociapjeaaGreatDoor
