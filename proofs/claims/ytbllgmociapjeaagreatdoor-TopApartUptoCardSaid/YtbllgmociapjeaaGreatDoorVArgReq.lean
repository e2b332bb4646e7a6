/- Of the proof of a statement: HubC, PlHub, SvTop, HubT, ArgReq. -/
import Derived.Test.YtbllgmociapjeaaGreatDoorVGrant
import Derived.Test.YtbllgmociapjeaaGreatDoorVHubMem
set_option linter.unusedVariables false
set_option linter.unusedSimpArgs false
set_option maxRecDepth 100000
set_option maxHeartbeats 8000000
/- The walks of a hub's connections: goes, reply, flush. -/
namespace Go.Proofs.YtbllgmociapjeaaGreatDoor
open Go.Lib (hid)
open Go.RowKit
def gE (g o:Nat) (v:Value) (L:List UInt8) (w:World) (e:Ending) (w':World):Prop:=
 e = .returned (.tuple #[])∧∃ w1 v',ByteRow w1 v' L∧bZ w w1 v v'∧w'=w1.setCell ⟨g,o,none⟩ v'
theorem bZ.of_below {w w0 w':World} {v v':Value} (hb:Below w.heap.size w w0) (h:bZ w0 w' v v'):bZ w w' v v':=
 bZ.trans ⟨⟨hb.os,hb.tape,hb.output,hb.size,fun k hk _=>hb.block k hk⟩,.inl rfl⟩ h
theorem gE.first {g o:Nat} {v:Value} {L:List UInt8} {w w0 w':World} {e:Ending} (hb:Below w.heap.size w w0) (h:gE g o v L w0 e w'):gE g o v L w e w':=by
 obtain⟨h1,w1,v',h2,h3,h4⟩:=h
 exact⟨h1,w1,v',h2,.of_below hb h3,h4⟩
theorem ByteRow.below {w w':World} {v:Value} {l:List UInt8} (h:ByteRow w v l) (hb:Below w.heap.size w w'):ByteRow w' v l:=
 h.keep fun b hb'=>hb.block b (by obtain⟨c,h1,_⟩:=h.blk hb'; exact h1.lt)
theorem jW (v k:Nat) (p:List UInt8) (hp:p.length≤6000):0<(cR v k p).length∧(cR v k p).length≤6020:=by
 have h4:(mJ (mK v k p)).length=4:=rfl
 have hn:=cH p.length
 unfold cR
 rw [List.length_append,h4]
 simp only [mK,List.length_append,List.length_cons,List.length_nil]
 omega
theorem Fk {kind:Int} {p:ByteArray} (hk:1≤kind∧kind≤4) (hp:p.size≤6000):pJ 3 kind p=(BA (cR 3 kind.toNat p.data.toList),0):=by
 unfold pJ
 rw [if_neg (by omega),if_neg (by omega)]
 rfl
theorem zF (g o:Nat) (T:TypeId) (cs:Array Value) (v:Value) (l:List UInt8) (kind:Int) (p:ByteArray) (w:World) (hb:Blk w g T cs) (ht:T ≠ 5) (hc:cs[o+3]? = some v) (hr:ByteRow w v l) (hk:1≤kind∧kind≤4) (hp:p.size≤6000) (hl:l.length≤35184372088832) :
 Calls Tryz.prog 100 #[.pointer (some ⟨g,o,none⟩),.int .i64 kind,.string p] w (gE g (o+3) v (l ++ cR 3 kind.toNat p.data.toList) w):=by
 have hcon:=hid (yF 3 kind p w)
 have hE:=Fk hk hp
 have hfl:=jW 3 kind.toNat p.data.toList (by simpa using hp)
 generalize hL:cR 3 kind.toNat p.data.toList=L at hE hfl ⊢
 have HE:=hid hE
 have HB:=hid hb
 have HC:=hid hc
 have HR:=hid hr
 have hbs:(BA L).size=L.length:=fY L
 have hbl:(BA L).data.toList=L:=iM L
 have hlt:=hb.lt
 clear hL hE hb hc hr hk hp
 go_enter Tryz.func100,Tryz.ntmps100
 go_wp2_with fail
 refine Calls.mono hcon.out ?_
 rintro e w0 ⟨rfl,hb0⟩
 rw [HE.out]
 dsimp only
 have hB0:=HB.out.below hb0 HB.out.lt
 have y0:w0.cell? ⟨g,o+3,none⟩=some v:=by rw [hB0.cell]; exact HC.out
 have hlt0:=hB0.lt
 have HR0:=hid (HR.out.below hb0)
 have Hb0:=hid hb0
 have HB0:=hid hB0
 obtain⟨s,hs⟩:∃ s,BA L=s:=⟨_,rfl⟩
 rw [hs] at hbs hbl ⊢
 have HS:=hid hs
 have Hbl:=hid hbl
 clear hcon HE hb0 hB0 HB HR hs hbl
 go_wp2_with (at_builtin; refine zJ rfl _ _ rfl v l rfl HR0.out s rfl (by omega) (by omega) ?_; intro v' w1 hr1 hg1; rw [Hbl.out] at hr1; obtain⟨A',c',rfl⟩:=hr1.shape; have hB1:=mL HB0.out ht HR0.out hg1; have z0:w1.cell? ⟨g,o+3,none⟩=some v:=(hB1.cell _).trans HC.out; have zt:w1.frozen? ⟨g,o+3,none⟩=false:=hB1.thaw _; have HR1:=hid hr1; have HG1:=hid hg1; clear hr1 hg1 hB1)
 go_end0
 exact⟨rfl,_,_,HR1.out,.of_below Hb0.out HG1.out,by rw [List.length_append]⟩
theorem j5 (c r:Int):(gK c r).1.size≤22:=by
 unfold gK
 split
 · have h1:=cH c.toNat
   have h2:=cH r.toNat
   show ((pU c r).toArray).size≤22
   rw [List.size_toArray,pU,List.length_append]
   omega
 · show 0≤22
   omega
theorem pV (g o:Nat) (T:TypeId) (cs:Array Value) (v:Value) (l:List UInt8) (c r:Int) (w:World) (hb:Blk w g T cs) (ht:T ≠ 5) (hc:cs[o+3]? = some v) (hr:ByteRow w v l) (hl:l.length≤35184372088832) :
 Calls Tryz.prog 64 #[.pointer (some ⟨g,o,none⟩),.agg #[.int .i64 c,.int .i64 r]] w (gE g (o+3) v (l ++ cR 3 4 (gK c r).1.data.toList) w):=by
 obtain⟨W,hW⟩:∃ W,w.alloc (.cells #[.int .i64 c,.int .i64 r] 111)=W:=⟨_,rfl⟩
 have hbW:Below w.heap.size w W:=by rw [← hW]; exact (Below.refl _ _).alloc (Nat.le_refl _) _
 have hbB:Blk W w.heap.size 111 #[.int .i64 c,.int .i64 r]:=by rw [← hW]; exact heap_alloc_new w _
 have HR:=hid (Dw c r W)
 obtain⟨c0,c1⟩:=Blk.c2 (hbB)
 have hlt:=hbB.lt
 have HG:=hid (fun (w0:World) (h:Below W.heap.size W w0)=>(have h2:Below w.heap.size w w0:=hbW.trans (h.mono hbW.size); And.intro h2 (zF g o T cs v l 4 (gK c r).1 w0 (hb.below h2 hb.lt) ht hc (hr.below h2) (by omega) (Nat.le_trans (j5 c r) (by omega)) hl)))
 have HW:=hid hW
 clear hW hbW hbB hb hc hr
 go_enter Tryz.func64,Tryz.ntmps64
 go_wp2_with fail
 try rw [HW.out]
 clear HW
 refine Calls.mono HR.out ?_
 rintro e w0 ⟨rfl,hb0⟩
 have H2:=hid (HG.out w0 hb0)
 clear HG hb0 HR c0 c1
 go_wp2_with fail
 refine Calls.mono H2.out.2 ?_
 rintro e w1 hp
 have HP:=hid (hp.first H2.out.1)
 obtain⟨rfl,_⟩:=hp
 clear H2
 go_wp2
 go_end0
 exact HP.out
def Dx (g o:Nat) (l:List UInt8) (w:World) (e:Ending) (w':World):Prop:=e = .returned (.string (BA l))∧w'=w.setCell ⟨g,o,none⟩ (.slice none 0 0)
theorem oS (g o:Nat) (T:TypeId) (cs:Array Value) (v:Value) (l:List UInt8) (w:World) (hb:Blk w g T cs) (hc:cs[o+3]? = some v) (hr:ByteRow w v l) :
 Calls Tryz.prog 40 #[.pointer (some ⟨g,o,none⟩)] w (Dx g (o+3) l w):=by
 obtain⟨A,c,rfl⟩:=hr.shape
 have hrun:=eU (P:=Tryz.prog) Tryz.underlying84 Tryz.underlying5 Tryz.underlying9 hr.owns
 have y0:w.cell? ⟨g,o+3,none⟩=some (.slice A l.length c):=by rw [hb.cell]; exact hc
 have zt:w.frozen? ⟨g,o+3,none⟩=false:=hb.thaw _
 have hlt:=hb.lt
 clear hb hc hr
 go_enter Tryz.func40,Tryz.ntmps40
 go_wp2
 go_ret
 exact⟨rfl,rfl⟩
end Go.Proofs.YtbllgmociapjeaaGreatDoor
/- What a hub does: plain. (tl: what it tells of a state; rq: what a request's bytes are.) -/
namespace Go.Proofs.YtbllgmociapjeaaGreatDoor
open Go.Lib (hid)
structure dM where
 st:ah
 now:Int
 cs:Nat→bQ
def Fj (k:Nat) (p:ByteArray) (c:bQ):bQ:={ c with waits:=c.waits ++ cR 3 k p.data.toList }
def mq (e r:Int) (c:bQ):bQ:=Fj 4 (gK e r).1 c
def IJ (l:List UInt8) (c:bQ):bQ:={ c with waits:=c.waits ++ l }
def yE (e r:Int) (c:bQ):bQ:={ mq e r c with closed:=true }
def iA (H:dM) (k:Nat) (e:Int):dM:={ H with cs:=upd H.cs k (yE e H.st.rev (H.cs k)) }
def jD (tl:ah→List UInt8) (st:ah) (b:ByteArray) (e:Int) (c:bQ):bQ:=if c.closed=true∨c.aH=false then c else if e=0 then Fj 2 b c else IJ (tl st) c
def fA (tl:ah→List UInt8) (st:ah) (b:ByteArray) (e:Int) (cs:Nat→bQ) (n:Nat):Nat→bQ:=fun i=>if i<n then jD tl st b e (cs i) else cs i
def jr (tl:ah→List UInt8) (H:dM) (D:aW):dM:={ H with cs:=fA tl H.st (jC D).1 (jC D).2 H.cs 8 }
def lB (q:aF):Prop:=q.kind=8∨q.kind=9
instance (q:aF):Decidable (lB q):=by unfold lB; exact inferInstance
def eJ (tl:ah→List UInt8) (q:aF) (R:mM) (c:bQ):bQ:=
 if R.e=0∧lB q then { IJ (tl R.st) (mq R.e R.st.rev c) with aH:=c.aH || decide (q.kind=9) } else mq R.e R.st.rev c
noncomputable def eV (tl:ah→List UInt8) (H:dM) (k:Nat) (q:aF):dM:=
 let R:=iN H.st H.now (iI H.st H.now q)
 let H1:dM:=⟨R.st,R.now,upd H.cs k (eJ tl q R (H.cs k))⟩
 if R.ch=true then jr tl H1 (eW H.st R.st) else H1
noncomputable def gP (tl:ah→List UInt8) (rq:ByteArray→aF × Int) (H:dM) (k:Nat) (f:dD):dM:=
 if f.ver≠3∨f.kind≠3 then iA H k 1 else if (rq f.pay).2≠0 then iA H k (rq f.pay).2 else eV tl H k (rq f.pay).1
noncomputable def dE (tl:ah→List UInt8) (rq:ByteArray→aF × Int) (k:Nat):dM→List dD→dM
 | H,[]=>H
 | H,f :: fs=>dE tl rq k (if (H.cs k).closed=true then H else gP tl rq H k f) fs
def jc (c:bQ) (s:ByteArray) (m e:Nat):bQ:={ c with rest:=if e=3 then s.extract m s.size else ⟨#[]⟩,far:=c.far+m,stuck:=if e=3 then 0 else e }
noncomputable def je (tl:ah→List UInt8) (rq:ByteArray→aF × Int) (H:dM) (k:Nat) (s:ByteArray) (fs:List dD) (m e:Nat):dM:=
 let H2:=dE tl rq k { H with cs:=upd H.cs k (jc (H.cs k) s m e) } fs
 if e≠3∧(H2.cs k).closed=false then iA H2 k e else H2
def rV (c:bQ):bQ:={ c with waits:=[] }
def lC (H:dM) (k:Nat):dM:={ H with cs:=upd H.cs k (rV (H.cs k)) }
def mA (st:ah):dM:=⟨st,0,fun _=>⟨⟨#[]⟩,0,0,false,false,[]⟩⟩
theorem xE (D:aW):(jC D).1.size≤6000:=by
 unfold jC
 split
 · split
   · exact Nat.zero_le _
   · rename_i h
     show ((nO D).toArray).size≤6000
     rw [List.size_toArray]; omega
 · exact Nat.zero_le _
end Go.Proofs.YtbllgmociapjeaaGreatDoor
/- The walks of serve.New, (*Server).State and (*Server).Now. -/
namespace Go.Proofs.YtbllgmociapjeaaGreatDoor
open Go.Lib (hid)
open Go.RowKit
def uC (st:ah) (w:World) (e:Ending) (w':World):Prop:=
 Below w.heap.size w w'∧((aE st≠0∧e = .returned (.tuple #[.pointer none,.int .i64 (aE st)])) ∨
  (aE st=0∧∃ V x',e = .returned (.tuple #[.pointer (some ⟨V,0,none⟩),.int .i64 0])∧w.heap.size≤V∧SrvAt w' 136 V st x' 0))
theorem Fl {w:World} {B:Nat} {st:ah} {x:StA} (h:StAt w B st x):mB st.jobs∧kN st.nodes∧jv st.leases:=⟨h.oj,h.on_,h.ol⟩
theorem Dy (st:ah) (x:StA) (w:World) (hS:StAt w w.heap.size st x) (hT:Tabs w) :
 Calls Tryz.prog 28 #[.agg (stC st x)] w (uC st w):=by
 obtain⟨W,hW⟩:∃ W,w.alloc (.cells (stC st x) 26)=W:=⟨_,rfl⟩
 have hbW:Below w.heap.size w W:=by rw [← hW]; exact (Below.refl _ _).alloc (Nat.le_refl _) _
 have hB:Blk W w.heap.size 26 (stC st x):=by rw [← hW]; exact heap_alloc_new w _
 have hS1:=hS.upS hbW
 have HC:=hid (show Calls Tryz.prog 58 #[.agg #[.int .i64 st.rev,.slice x.aj x.nj x.cj,.slice x.an x.nn x.cn,.slice x.al x.nl x.cl]] W _ from lD st x W hS1 (hT.below hbW))
 obtain⟨c0,c1,c2,c3⟩:=Blk.c4 (hB)
 have hlt:=hB.lt
 have HB:=hid hB
 have HbW:=hid hbW
 have HS:=hid hS1
 have HW:=hid hW
 obtain⟨E,hE⟩:∃ E,aE st=E:=⟨_,rfl⟩
 have HE:=hid hE
 clear hW hB hbW hS hS1 hT hE
 unfold stC at HW ⊢
 go_enter Tryz.func28,Tryz.ntmps28
 go_wp2_with fail
 try rw [HW.out]
 clear HW
 refine Calls.mono HC.out ?_
 rintro e w1 ⟨rfl,hb1⟩
 rw [HE.out]
 have HB1:=hid (HB.out.below hb1 HB.out.lt)
 have Hb1:=hid (HbW.out.trans (hb1.mono HbW.out.size))
 have HS1:=hid (HS.out.upS hb1)
 clear hb1 HC HB HbW HS c0 c1 c2 c3 hlt
 by_cases h0:E=0
 · have HE0:=hid (HE.out.trans h0)
   subst h0
   have hsz:=lE HS1.out HE0.out
   have HO:=hid (show Calls Tryz.prog 59 #[.agg #[.int .i64 st.rev,.slice x.aj x.nj x.cj,.slice x.an x.nn x.cn,.slice x.al x.nl x.cl]] w1 _ from lF st x w1 HS1.out (by omega) (by omega) (by omega))
   have Hsz:=hid hsz
   clear hsz HE
   obtain⟨c0,c1,c2,c3⟩:=Blk.c4 (HB1.out)
   have hlt:=HB1.out.lt
   go_wp2_with fail
   refine Calls.mono HO.out ?_
   rintro e w2 ⟨y,rfl,e1,e2,e3,ho,hb2⟩
   obtain⟨oj,on_,ol⟩:=Fl HS1.out
   have hA2:=ho.at2 (by have:=Hsz.out; omega) (by have:=Hsz.out; omega) (by have:=Hsz.out; omega) oj on_ ol
   have Hb2:=hid (Hb1.out.trans (hb2.mono Hb1.out.size))
   have HA2:=hid hA2
   have hb3:Below w2.heap.size w2 (w2.alloc (.cells (wY st y 0) 136)):=(Below.refl _ _).alloc (Nat.le_refl _) _
   have bI:=hid (show uC st w (.returned (.tuple #[.pointer (some ⟨w2.heap.size,0,none⟩),.int .i64 0])) (w2.alloc (.cells #[.int .i64 st.rev,.slice y.aj y.nj y.cj,.slice y.an y.nn y.cn,.slice y.al y.nl y.cl,.int .i64 0] 136)) from ⟨Hb2.out.trans (hb3.mono Hb2.out.size),.inr ⟨HE0.out,w2.heap.size,y,rfl,Hb2.out.size,heap_alloc_new w2 _,hA2.upS hb3,HE0.out,by omega⟩⟩)
   clear hA2 ho hb2 hb3 HO c0 c1 c2 c3 hlt oj on_ ol e1 e2 e3 Hsz
   unfold stC
   go_wp2
   go_ret2
   exact bI.out
 · have d1:(E != 0)=true:=by simpa using h0
   have bI:=hid (show uC st w (.returned (.tuple #[.pointer none,.int .i64 E])) w1 from ⟨Hb1.out,.inl ⟨by rw [HE.out]; exact h0,by rw [HE.out]⟩⟩)
   go_wp2
   go_ret2
   exact bI.out
def oT (st:ah) (w:World) (e:Ending) (w':World):Prop:=∃ y,e = .returned (.agg (stC st y))∧StAt w' w'.heap.size st y∧Below w.heap.size w w'
theorem nR (st:ah) (x:StA) (now:Int) (V:Nat) (w:World) (h:SrvAt w 136 V st x now) :
 Calls Tryz.prog 51 #[.pointer (some ⟨V,0,none⟩)] w (oT st w):=by
 obtain⟨W,hW⟩:∃ W,w.alloc (.cells rW 26)=W:=⟨_,rfl⟩
 have hbW:Below w.heap.size w W:=by rw [← hW]; exact (Below.refl _ _).alloc (Nat.le_refl _) _
 have hR:Blk W w.heap.size 26 rW:=by rw [← hW]; exact heap_alloc_new w _
 have h1:=h.below hbW
 have hsz:=lE h1.at_ h1.ok
 have HO:=hid (show Calls Tryz.prog 59 #[.agg #[.int .i64 st.rev,.slice x.aj x.nj x.cj,.slice x.an x.nn x.cn,.slice x.al x.nl x.cl]] W _ from lF st x W h1.at_ (by omega) (by omega) (by omega))
 obtain⟨c0,c1,c2,c3⟩:=Blk.c4 (h.blk)
 have hlt:=h1.blk.lt
 have hlV:=h.blk.lt
 have HR:=hid hR
 have HbW:=hid hbW
 have H1:=hid h1
 have HW:=hid hW
 have Hsz:=hid hsz
 clear hW hR hbW h h1 hsz
 go_enter Tryz.func51,Tryz.ntmps51
 go_wp2_with fail
 try rw [HW.out]
 clear HW
 refine Calls.mono HO.out ?_
 rintro e w2 ⟨y,rfl,e1,e2,e3,ho,hb2⟩
 obtain⟨oj,on_,ol⟩:=Fl H1.out.at_
 have hA2:=ho.at2 (by have:=Hsz.out; omega) (by have:=Hsz.out; omega) (by have:=Hsz.out; omega) oj on_ ol
 have hR2:=HR.out.below hb2 HR.out.lt
 have hB2:=HbW.out.trans (hb2.mono HbW.out.size)
 obtain⟨z0,z1,z2,z3⟩:=Blk.z4 (hR2)
 obtain⟨r0,r1,r2,r3⟩:=Blk.c4 (hR2)
 obtain⟨hR3,hG3⟩:=Blk.S4 (hR2) (.int .i64 st.rev) (.slice y.aj y.nj y.cj) (.slice y.an y.nn y.cn) (.slice y.al y.nl y.cl)
 obtain⟨y0,y1,y2,y3⟩:=Blk.c4 hR3
 have hlr:=hR2.lt
 have bI:=hid (show oT st w (.returned (.agg (stC st y))) _ from ⟨y,rfl,(hA2.gR hR2 (qG ⟨0,[],[],[]⟩ ⟨none,0,0,none,0,0,none,0,0⟩) hG3).more hG3.size,dR hB2 hG3 (Nat.le_refl _)⟩)
 clear hA2 ho hb2 hR2 hB2 hR3 hG3 HO c0 c1 c2 c3 hlt e1 e2 e3 oj on_ ol Hsz HR HbW H1
 unfold stC
 go_wp2
 refine bodyPost_ret (v:=.agg (stC st y)) (by simp [results,Tryz.results51,go_sem,stC, *]) rfl ?_
 exact bI.out
end Go.Proofs.YtbllgmociapjeaaGreatDoor
/- The walks of a hub: tell's contract, close, of. -/
namespace Go.Proofs.YtbllgmociapjeaaGreatDoor
open Go.Lib (hid)
open Go.RowKit
def gW (g V:Nat) (fb:Nat→Nat) (wv:Nat→Value) (H:dM) (r:Value) (w:World) (e:Ending) (w':World):Prop:=
 e = .returned r∧∃ wv' x',bL w' g V fb wv' H.cs H.st x' H.now∧cT g V fb wv wv' w w'
theorem cT.put {g V k:Nat} {fb:Nat→Nat} {wv:Nat→Value} {w w1 w':World} {v':Value} (hs:Gr (nP g V fb wv) w w') (hg:bZ w w1 (wv k) v'):cT g V fb wv (upd wv k v') w w':=
 ⟨hs,fun i hi=>by
  by_cases e:i=k
  · subst e
    rw [bB]
    rcases hg.own with h | h
    · exact .inr (.inl h)
    · exact .inr (.inr h)
  · rw [upd_ne _ _ e]; exact .inr (.inl rfl)⟩
theorem gE.hub {g V k:Nat} {fb:Nat→Nat} {wv:Nat→Value} {cs:Nat→bQ} {st:ah} {x:StA} {now:Int} {w w':World} {e:Ending} {L:List UInt8} (h:bL w g V fb wv cs st x now) (hk:k<8) (hp:gE g (1+k*4+3) (wv k) L w e w') :
 e = .returned (.tuple #[])∧∃ wv',bL w' g V fb wv' (upd cs k { cs k with waits:=L }) st x now∧cT g V fb wv wv' w w':=by
 obtain⟨h1,w1,v',h2,h3,rfl⟩:=hp
 obtain⟨h4,_,h6⟩:=h.put hk h3 h2
 exact⟨h1,_,h4,.put h6 h3⟩
def oQ (tl:ah→List UInt8):Prop:=
 ∀ (g o V:Nat) (T:TypeId) (cs:Array Value) (v:Value) (l:List UInt8) (st:ah) (x:StA) (now:Int) (w:World),Blk w g T cs→T ≠ 5 → cs[0]? = some (.pointer (some ⟨V,0,none⟩))→cs[o+3]? = some v→ByteRow w v l→l.length≤35184372088832→SrvAt w 136 V st x now→Tabs w →
  Calls Tryz.prog 65 #[.pointer (some ⟨g,0,none⟩),.pointer (some ⟨g,o,none⟩)] w (gE g (o+3) v (l ++ tl st) w)
theorem Bp (g:Nat) (k:Nat) (w:World) (hk:k<8) :
 Calls Tryz.prog 36 #[.pointer (some ⟨g,0,none⟩),.int .i64 (k:Int)] w fun e w'=>e = .returned (.pointer (some ⟨g,1+k*4,none⟩))∧Below w.heap.size w w':=by
 go_enter Tryz.func36,Tryz.ntmps36
 go_wp2
 go_ret
 exact⟨rfl,Below.refl _ _⟩
theorem bL.set0 {w:World} {g V k:Nat} {fb:Nat→Nat} {wv:Nat→Value} {cs:Nat→bQ} {st:ah} {x:StA} {now:Int} {c0:bQ} (h:bL w g V fb wv (upd cs k c0) st x now) (hk:k<8) (b:Bool) :
 bL (w.setCell ⟨g,1+k*4+1,none⟩ (.bool b)) g V fb wv (upd cs k { c0 with closed:=b }) st x now∧Gr (nP g V fb wv) w (w.setCell ⟨g,1+k*4+1,none⟩ (.bool b)):=by
 have h1:=h.cell hk (j:=1+k*4+1) (u:=.bool b) (c:={ c0 with closed:=b }) (v:=wv k) (by rw [nQ]; exact uM hk { c0 with closed:=b } (by rw [bB])) (by rw [bB]) (by rw [bB]) (by rw [bB]) (.inl ⟨rfl,by rw [bB]⟩)
 rw [nQ,qH] at h1
 exact h1
theorem bL.set1 {w:World} {g V k:Nat} {fb:Nat→Nat} {wv:Nat→Value} {cs:Nat→bQ} {st:ah} {x:StA} {now:Int} {c0:bQ} (h:bL w g V fb wv (upd cs k c0) st x now) (hk:k<8) (b:Bool) :
 bL (w.setCell ⟨g,1+k*4+2,none⟩ (.bool b)) g V fb wv (upd cs k { c0 with aH:=b }) st x now∧Gr (nP g V fb wv) w (w.setCell ⟨g,1+k*4+2,none⟩ (.bool b)):=by
 have h1:=h.cell hk (j:=1+k*4+2) (u:=.bool b) (c:={ c0 with aH:=b }) (v:=wv k) (by rw [nQ]; exact rX hk { c0 with aH:=b } (by rw [bB])) (by rw [bB]) (by rw [bB]) (by rw [bB]) (.inl ⟨rfl,by rw [bB]⟩)
 rw [nQ,qH] at h1
 exact h1
theorem cT.gr_ {g V:Nat} {fb:Nat→Nat} {wv wv':Nat→Value} {w w1 w':World} (h:cT g V fb wv wv' w w1) (hg:Gr (nP g V fb wv') w1 w'):cT g V fb wv wv' w w':=h.trans ⟨hg,fun _ _=>.inr (.inl rfl)⟩
theorem rY {g V k:Nat} {fb:Nat→Nat} {wv:Nat→Value} {H:dM} {x:StA} (w:World) (h:bL w g V fb wv H.cs H.st x H.now) (hk:k<8) (E:Int) (hl:(H.cs k).waits.length≤35184372088832) :
 Calls Tryz.prog 39 #[.pointer (some ⟨g,0,none⟩),.pointer (some ⟨g,1+k*4,none⟩),.int .i64 E] w (gW g V fb wv (iA H k E) (.tuple #[]) w):=by
 have HS:=hid (nR H.st x H.now V w h.srv)
 have c0:w.cell? ⟨g,0,none⟩=some (.pointer (some ⟨V,0,none⟩)):=by rw [h.blk.cell]; exact rU
 have hlt:=h.blk.lt
 have Hh:=hid h
 have Hl:=hid hl
 obtain⟨rev,hrev⟩:∃ r,H.st.rev=r:=⟨_,rfl⟩
 have wZ:=hid hrev
 clear h hl hrev
 go_enter Tryz.func39,Tryz.ntmps39
 go_wp2_with fail
 refine Calls.mono HS.out ?_
 rintro e w1 ⟨y,rfl,_,hb1⟩
 have h1:=Hh.out.below hb1
 have HR:=hid (pV g (1+k*4) 89 _ (wv k) _ E H.st.rev w1 h1.blk (by decide) (fX hk) (h1.wait k hk) Hl.out)
 rw [wZ.out] at HR
 have H1:=hid h1
 have Hb1:=hid hb1
 have hlt1:=h1.blk.lt
 unfold stC
 rw [wZ.out]
 clear h1 hb1 HS c0
 have hf:∀ W,(Instr.field 26 (.agg #[.int .i64 rev,.slice y.aj y.nj y.cj,.slice y.an y.nn y.cn,.slice y.al y.nl y.cl]) 0).run Tryz.prog W = .ok (.int .i64 rev) W:=fun _=>by kernel_rfl
 go_wp2_with fail
 refine Calls.mono HR.out ?_
 rintro e w2 hp
 obtain⟨rfl,wv',h2,ht⟩:=hp.hub H1.out hk
 obtain⟨h3,hg3⟩:=h2.set0 hk true
 have y0:w2.cell? ⟨g,1+k*4+1,none⟩=some (.bool (H.cs k).closed):=by rw [h2.blk.cell,iZ hk,bB]
 have z0:w2.frozen? ⟨g,1+k*4+1,none⟩=false:=h2.blk.thaw _
 have hlt2:=h2.blk.lt
 have H3:=hid h3
 have HT:=hid (((cT.refl g V fb wv w).below_ Hb1.out).trans ht |>.gr_ hg3)
 clear hp h2 ht h3 hg3 HR
 go_wp2
 go_end0
 refine⟨rfl,wv',x,?_,HT.out⟩
 have:=H3.out
 rw [← wZ.out] at this
 exact this
end Go.Proofs.YtbllgmociapjeaaGreatDoor
/- An argument that is a list of requests, opened. -/
namespace Go.Proofs.YtbllgmociapjeaaGreatDoor
open Go.Lib (hid)
open Go.ChangeShapes Go.WideShapes Go.ChangeAt Go.RowKit
structure qI (q:aF):Prop where
 kind:I64 q.kind
 job:uD q.job
 node:qJ q.node
 lease:oU q.lease
 name:Short q.name
 n:I64 q.n
def Fm (q:aF):List Value:=(aN q).toList
theorem zK (q:aF):(Fm q).length=14:=rfl
theorem zL : Tryz.prog.cellsOf 38 = 14:=by kernel_rfl
theorem IK {H:Type} {enc:TypeId × Value→H} {W:World} {held:Bool} (n:Nat) (cs:List Value) (y:DataW H × List MemPlace) (h:DataW.trod enc Tryz.prog W 0 (fun _=>true) held n 38 cs=some y):∃ a:aF,cs=Fm a∧qI a:=by
 obtain⟨xs,m,-,-,hl,hxs,hall⟩:=DataW.trod_struct Tryz.underlying38 h
 have hl2:cs.length=14:=hl.trans zL
 have Kw:xs.length=6:=hxs
 match cs,hl2 with
 | [v0,v1,v2,v3,v4,v5,v6,v7,v8,v9,v10,v11,v12,v13],_=>
  have q0:=hall 0 _ rfl
  rw [List.getElem?_eq_getElem (by omega)] at q0
  obtain⟨kd,e0,-,z0⟩:=DataW.trod_int Tryz.underlying3 q0
  replace e0:[v0]=[_]:=e0
  obtain rfl:=(List.cons.inj e0).1
  have q1:=hall 1 _ rfl
  rw [List.getElem?_eq_getElem (by omega)] at q1
  obtain⟨jb,e1,z1⟩:=CY _ _ _ q1
  replace e1:[v1,v2,v3,v4,v5]=aI jb:=e1
  simp only [aI,List.cons.injEq,and_true] at e1
  obtain⟨rfl,rfl,rfl,rfl,rfl⟩:=e1
  have q2:=hall 2 _ rfl
  rw [List.getElem?_eq_getElem (by omega)] at q2
  obtain⟨nd,e2,z2⟩:=zM _ _ _ q2
  replace e2:[v6,v7,v8]=aB nd:=e2
  simp only [aB,List.cons.injEq,and_true] at e2
  obtain⟨rfl,rfl,rfl⟩:=e2
  have q3:=hall 3 _ rfl
  rw [List.getElem?_eq_getElem (by omega)] at q3
  obtain⟨ls,e3,z3⟩:=xH _ _ _ q3
  replace e3:[v9,v10,v11]=av ls:=e3
  simp only [av,List.cons.injEq,and_true] at e3
  obtain⟨rfl,rfl,rfl⟩:=e3
  have q4:=hall 4 _ rfl
  rw [List.getElem?_eq_getElem (by omega)] at q4
  obtain⟨nm,e4,-,z4⟩:=DataW.trod_string Tryz.underlying9 q4
  replace e4:[v12]=[_]:=e4
  obtain rfl:=(List.cons.inj e4).1
  have q5:=hall 5 _ rfl
  rw [List.getElem?_eq_getElem (by omega)] at q5
  obtain⟨nn,e5,-,z5⟩:=DataW.trod_int Tryz.underlying3 q5
  replace e5:[v13]=[_]:=e5
  obtain rfl:=(List.cons.inj e5).1
  exact⟨⟨kd,jb,nd,ls,nm,nn⟩,rfl,eP z0,z1,z2,z3,lG z4,eP z5⟩
theorem Dz {H:Type} {enc:TypeId × Value→H} {W:World} {r:Reach} {b0:Nat} {held:Bool} {v:Value} {d:DataW H} {p:List MemPlace}
 (hval:Value.okWide Tryz.prog W r b0 27 v) (hd:DataW.Trod enc Tryz.prog W 0 (fun _=>true) held 27 v d p) (hlt:∀ x ∈ p,x.block<W.heap.size) :
 ∃ (qs:List aF) (A:Option Addr) (n c:Nat),v = .slice A n c∧qs.length=n∧n≤9223372036854775807∧aU W W.heap.size 14 A n (au Fm qs)∧∀ q ∈ qs,qI q:=by
 obtain⟨A,n,c,rfl⟩:=okWide_slice Tryz.underlying27 hval
 obtain⟨fuel,hf⟩:=hd
 obtain⟨qs,A',n',c',e,h1,h2,h3,h4⟩:=oV Fm qI ⟨0,⟨⟨#[]⟩,0,0,0,⟨#[]⟩⟩,⟨⟨#[]⟩,0,⟨#[]⟩⟩,⟨⟨#[]⟩,⟨#[]⟩,0⟩,⟨#[]⟩,0⟩ Tryz.underlying27 zL (by omega) zK (fun n cs y h=>IK n cs y h) hf hlt
 simp only [Value.cells,List.cons.injEq,Value.slice.injEq,and_true] at e
 obtain⟨rfl,rfl,rfl⟩:=e
 exact⟨qs,_,_,_,rfl,h1,h2,h3,h4⟩
end Go.Proofs.YtbllgmociapjeaaGreatDoor
