/- Of the proof of a statement: HubC, PlHub, HubT, PlHubS, BytesOf, PlEncV, WEnc, PlApp2. -/
import Derived.Test.YtcpgnjmaampglaaGreatDoorWChg
import Derived.Test.YtcpgnjmaampglaaGreatDoorWFrmEncP
set_option linter.unusedVariables false
set_option linter.unusedSimpArgs false
set_option maxRecDepth 100000
set_option maxHeartbeats 8000000
/- The walks of a hub's connections: goes, reply, flush. -/
namespace Go.Proofs.YtcpgnjmaampglaaGreatDoor
open Go.Lib (hid)
open Go.RowKit
open Go.Op (bytesLess)
def gT (g o:Nat) (v:Value) (L:List UInt8) (w:World) (e:Ending) (w':World):Prop:=
 e = .returned (.tuple #[])∧∃ w1 v',ByteRow w1 v' L∧dE w w1 v v'∧w'=w1.setCell ⟨g,o,none⟩ v'
theorem dE.of_below {w w0 w':World} {v v':Value} (hb:Below w.heap.size w w0) (h:dE w0 w' v v'):dE w w' v v':=
 dE.trans ⟨⟨hb.os,hb.tape,hb.output,hb.size,fun k hk _=>hb.block k hk⟩,.inl rfl⟩ h
theorem gT.first {g o:Nat} {v:Value} {L:List UInt8} {w w0 w':World} {e:Ending} (hb:Below w.heap.size w w0) (h:gT g o v L w0 e w'):gT g o v L w e w':=by
 obtain⟨h1,w1,v',h2,h3,h4⟩:=h
 exact⟨h1,w1,v',h2,.of_below hb h3,h4⟩
theorem ByteRow.below {w w':World} {v:Value} {l:List UInt8} (h:ByteRow w v l) (hb:Below w.heap.size w w'):ByteRow w' v l:=
 h.keep fun b hb'=>hb.block b (by obtain⟨c,h1,_⟩:=h.blk hb'; exact h1.lt)
theorem rJ (v k:Nat) (p:List UInt8) (hp:p.length≤6000):0<(gB v k p).length∧(gB v k p).length≤6020:=by
 have h4:(oP (oQ v k p)).length=4:=rfl
 have hn:=dP p.length
 unfold gB
 rw [List.length_append,h4]
 simp only [oQ,List.length_append,List.length_cons,List.length_nil]
 omega
theorem MN {kind:Int} {p:ByteArray} (hk:1≤kind∧kind≤4) (hp:p.size≤6000):sV 3 kind p=(BA (gB 3 kind.toNat p.data.toList),0):=by
 unfold sV
 rw [if_neg (by omega),if_neg (by omega)]
 rfl
theorem D2 (g o:Nat) (T:TypeId) (cs:Array Value) (v:Value) (l:List UInt8) (kind:Int) (p:ByteArray) (w:World) (hb:Blk w g T cs) (ht:T ≠ 5) (hc:cs[o+3]? = some v) (hr:ByteRow w v l) (hk:1≤kind∧kind≤4) (hp:p.size≤6000) (hl:l.length≤35184372088832) :
 Calls Tryz.prog 167 #[.pointer (some ⟨g,o,none⟩),.int .i64 kind,.string p] w (gT g (o+3) v (l ++ gB 3 kind.toNat p.data.toList) w):=by
 have hcon:=hid (Cx 3 kind p w)
 have hE:=MN hk hp
 have hfl:=rJ 3 kind.toNat p.data.toList (by simpa using hp)
 generalize hL:gB 3 kind.toNat p.data.toList=L at hE hfl ⊢
 have HE:=hid hE
 have HB:=hid hb
 have HC:=hid hc
 have HR:=hid hr
 have hbs:(BA L).size=L.length:=cT L
 have hbl:(BA L).data.toList=L:=ko L
 have hlt:=hb.lt
 clear hL hE hb hc hr hk hp
 go_enter Tryz.func167,Tryz.ntmps167
 go_wp2_with fail
 refine Calls.mono hcon.out ?_
 rintro e w0 ⟨rfl,hb0⟩
 rw [HE.out]
 dsimp only
 have hB0:=HB.out.below hb0 HB.out.lt
 have y0:w0.cell? ⟨g,o+3,none⟩=some v:=by rw [hB0.cell]; exact HC.out
 have hlt0:=hB0.lt
 have HR0:=hid (HR.out.below hb0)
 have Hb0:=hid hb0
 have HB0:=hid hB0
 obtain⟨s,hs⟩:∃ s,BA L=s:=⟨_,rfl⟩
 rw [hs] at hbs hbl ⊢
 have HS:=hid hs
 have Hbl:=hid hbl
 clear hcon HE hb0 hB0 HB HR hs hbl
 go_wp2_with (at_builtin; refine Mb rfl _ _ rfl v l rfl HR0.out s rfl (by omega) (by omega) ?_; intro v' w1 hr1 hg1; rw [Hbl.out] at hr1; obtain⟨A',c',rfl⟩:=hr1.shape; have hB1:=qB HB0.out ht HR0.out hg1; have z0:w1.cell? ⟨g,o+3,none⟩=some v:=(hB1.cell _).trans HC.out; have zt:w1.frozen? ⟨g,o+3,none⟩=false:=hB1.thaw _; have HR1:=hid hr1; have HG1:=hid hg1; clear hr1 hg1 hB1)
 go_end0
 exact⟨rfl,_,_,HR1.out,.of_below Hb0.out HG1.out,by rw [List.length_append]⟩
theorem nI (c r:Int):(jX c r).1.size≤22:=by
 unfold jX
 split
 · have h1:=dP c.toNat
   have h2:=dP r.toNat
   show ((tF c r).toArray).size≤22
   rw [List.size_toArray,tF,List.length_append]
   omega
 · show 0≤22
   omega
theorem zy (g o:Nat) (T:TypeId) (cs:Array Value) (v:Value) (l:List UInt8) (c r:Int) (w:World) (hb:Blk w g T cs) (ht:T ≠ 5) (hc:cs[o+3]? = some v) (hr:ByteRow w v l) (hl:l.length≤35184372088832) :
 Calls Tryz.prog 119 #[.pointer (some ⟨g,o,none⟩),.agg #[.int .i64 c,.int .i64 r]] w (gT g (o+3) v (l ++ gB 3 4 (jX c r).1.data.toList) w):=by
 obtain⟨W,hW⟩:∃ W,w.alloc (.cells #[.int .i64 c,.int .i64 r] 224)=W:=⟨_,rfl⟩
 have hbW:Below w.heap.size w W:=by rw [← hW]; exact (Below.refl _ _).alloc (Nat.le_refl _) _
 have hbB:Blk W w.heap.size 224 #[.int .i64 c,.int .i64 r]:=by rw [← hW]; exact heap_alloc_new w _
 have HR:=hid (Kf c r W)
 obtain⟨c0,c1⟩:=Blk.c2 (hbB)
 have hlt:=hbB.lt
 have HG:=hid (fun (w0:World) (h:Below W.heap.size W w0)=>(have h2:Below w.heap.size w w0:=hbW.trans (h.mono hbW.size); And.intro h2 (D2 g o T cs v l 4 (jX c r).1 w0 (hb.below h2 hb.lt) ht hc (hr.below h2) (by omega) (Nat.le_trans (nI c r) (by omega)) hl)))
 have HW:=hid hW
 clear hW hbW hbB hb hc hr
 go_enter Tryz.func119,Tryz.ntmps119
 go_wp2_with fail
 try rw [HW.out]
 clear HW
 refine Calls.mono HR.out ?_
 rintro e w0 ⟨rfl,hb0⟩
 have H2:=hid (HG.out w0 hb0)
 clear HG hb0 HR c0 c1
 go_wp2_with fail
 refine Calls.mono H2.out.2 ?_
 rintro e w1 hp
 have HP:=hid (hp.first H2.out.1)
 obtain⟨rfl,_⟩:=hp
 clear H2
 go_wp2
 go_end0
 exact HP.out
def Ku (g o:Nat) (l:List UInt8) (w:World) (e:Ending) (w':World):Prop:=e = .returned (.string (BA l))∧w'=w.setCell ⟨g,o,none⟩ (.slice none 0 0)
theorem vV (g o:Nat) (T:TypeId) (cs:Array Value) (v:Value) (l:List UInt8) (w:World) (hb:Blk w g T cs) (hc:cs[o+3]? = some v) (hr:ByteRow w v l) :
 Calls Tryz.prog 59 #[.pointer (some ⟨g,o,none⟩)] w (Ku g (o+3) l w):=by
 obtain⟨A,c,rfl⟩:=hr.shape
 have hrun:=cN (P:=Tryz.prog) Tryz.underlying118 Tryz.underlying5 Tryz.underlying9 hr.owns
 have y0:w.cell? ⟨g,o+3,none⟩=some (.slice A l.length c):=by rw [hb.cell]; exact hc
 have zt:w.frozen? ⟨g,o+3,none⟩=false:=hb.thaw _
 have hlt:=hb.lt
 clear hb hc hr
 go_enter Tryz.func59,Tryz.ntmps59
 go_wp2
 go_ret
 exact⟨rfl,rfl⟩
structure gZ where
 st:ah
 now:Int
 cs:Nat→cu
def Lq (k:Nat) (p:ByteArray) (c:cu):cu:={ c with waits:=c.waits ++ gB 3 k p.data.toList }
def nY (e r:Int) (c:cu):cu:=Lq 4 (jX e r).1 c
def NF (l:List UInt8) (c:cu):cu:={ c with waits:=c.waits ++ l }
def MO (e r:Int) (c:cu):cu:={ nY e r c with closed:=true }
def nZ (H:gZ) (k:Nat) (e:Int):gZ:={ H with cs:=upd H.cs k (MO e H.st.rev (H.cs k)) }
def qh (tl:ah→List UInt8) (st:ah) (b:ByteArray) (e:Int) (c:cu):cu:=if c.closed=true∨c.aL=false then c else if e=0 then Lq 2 b c else NF (tl st) c
def jI (tl:ah→List UInt8) (st:ah) (b:ByteArray) (e:Int) (cs:Nat→cu) (n:Nat):Nat→cu:=fun i=>if i<n then qh tl st b e (cs i) else cs i
def qP (tl:ah→List UInt8) (H:gZ) (D:aK):gZ:={ H with cs:=jI tl H.st (oS D).1 (oS D).2 H.cs 8 }
def mZ (q:cJ):Prop:=q.kind=8∨q.kind=9
instance (q:cJ):Decidable (mZ q):=by unfold mZ; exact inferInstance
def lW (tl:ah→List UInt8) (q:cJ) (R:DE) (c:cu):cu:=
 if R.e=0∧mZ q then { NF (tl R.st) (nY R.e R.st.rev c) with aL:=c.aL || decide (q.kind=9) } else nY R.e R.st.rev c
noncomputable def ng (tl:ah→List UInt8) (H:gZ) (k:Nat) (q:cJ):gZ:=
 let R:=qp H.st H.now (pR H.st H.now q)
 let H1:gZ:=⟨R.st,R.now,upd H.cs k (lW tl q R (H.cs k))⟩
 if R.ch=true then qP tl H1 (cF H.st R.st) else H1
noncomputable def je (tl:ah→List UInt8) (rq:ByteArray→cJ × Int) (H:gZ) (k:Nat) (f:bL):gZ:=
 if f.ver≠3∨f.kind≠3 then nZ H k 1 else if (rq f.pay).2≠0 then nZ H k (rq f.pay).2 else ng tl H k (rq f.pay).1
noncomputable def eF (tl:ah→List UInt8) (rq:ByteArray→cJ × Int) (k:Nat):gZ→List bL→gZ
 | H,[]=>H
 | H,f :: fs=>eF tl rq k (if (H.cs k).closed=true then H else je tl rq H k f) fs
def ug (c:cu) (s:ByteArray) (m e:Nat):cu:={ c with rest:=if e=3 then s.extract m s.size else ⟨#[]⟩,far:=c.far+m,stuck:=if e=3 then 0 else e }
noncomputable def qQ (tl:ah→List UInt8) (rq:ByteArray→cJ × Int) (H:gZ) (k:Nat) (s:ByteArray) (fs:List bL) (m e:Nat):gZ:=
 let H2:=eF tl rq k { H with cs:=upd H.cs k (ug (H.cs k) s m e) } fs
 if e≠3∧(H2.cs k).closed=false then nZ H2 k e else H2
def FX (c:cu):cu:={ c with waits:=[] }
def PZ (H:gZ) (k:Nat):gZ:={ H with cs:=upd H.cs k (FX (H.cs k)) }
def zC (st:ah):gZ:=⟨st,0,fun _=>⟨⟨#[]⟩,0,0,false,false,[]⟩⟩
theorem Bw (D:aK):(oS D).1.size≤6000:=by
 unfold oS
 split
 · split
   · exact Nat.zero_le _
   · rename_i h
     show ((qI D).toArray).size≤6000
     rw [List.size_toArray]; omega
 · exact Nat.zero_le _
def iV (g V:Nat) (fb:Nat→Nat) (wv:Nat→Value) (H:gZ) (r:Value) (w:World) (e:Ending) (w':World):Prop:=
 e = .returned r∧∃ wv' x',cC w' g V fb wv' H.cs H.st x' H.now∧dN g V fb wv wv' w w'
theorem dN.put {g V k:Nat} {fb:Nat→Nat} {wv:Nat→Value} {w w1 w':World} {v':Value} (hs:Gr (sE g V fb wv) w w') (hg:dE w w1 (wv k) v'):dN g V fb wv (upd wv k v') w w':=
 ⟨hs,fun i hi=>by
  by_cases e:i=k
  · subst e
    rw [cL]
    rcases hg.own with h | h
    · exact .inr (.inl h)
    · exact .inr (.inr h)
  · rw [upd_ne _ _ e]; exact .inr (.inl rfl)⟩
theorem gT.hub {g V k:Nat} {fb:Nat→Nat} {wv:Nat→Value} {cs:Nat→cu} {st:ah} {x:StA} {now:Int} {w w':World} {e:Ending} {L:List UInt8} (h:cC w g V fb wv cs st x now) (hk:k<8) (hp:gT g (1+k*4+3) (wv k) L w e w') :
 e = .returned (.tuple #[])∧∃ wv',cC w' g V fb wv' (upd cs k { cs k with waits:=L }) st x now∧dN g V fb wv wv' w w':=by
 obtain⟨h1,w1,v',h2,h3,rfl⟩:=hp
 obtain⟨h4,_,h6⟩:=h.put hk h3 h2
 exact⟨h1,_,h4,.put h6 h3⟩
def uf (tl:ah→List UInt8):Prop:=
 ∀ (g o V:Nat) (T:TypeId) (cs:Array Value) (v:Value) (l:List UInt8) (st:ah) (x:StA) (now:Int) (w:World),Blk w g T cs→T ≠ 5 → cs[0]? = some (.pointer (some ⟨V,0,none⟩))→cs[o+3]? = some v→ByteRow w v l→l.length≤35184372088832→SrvAt w 215 V st x now→Tabs w →
  Calls Tryz.prog 120 #[.pointer (some ⟨g,0,none⟩),.pointer (some ⟨g,o,none⟩)] w (gT g (o+3) v (l ++ tl st) w)
theorem P0 (g:Nat) (k:Nat) (w:World) (hk:k<8) :
 Calls Tryz.prog 56 #[.pointer (some ⟨g,0,none⟩),.int .i64 (k:Int)] w fun e w'=>e = .returned (.pointer (some ⟨g,1+k*4,none⟩))∧Below w.heap.size w w':=by
 go_enter Tryz.func56,Tryz.ntmps56
 go_wp2
 go_ret
 exact⟨rfl,Below.refl _ _⟩
theorem cC.set0 {w:World} {g V k:Nat} {fb:Nat→Nat} {wv:Nat→Value} {cs:Nat→cu} {st:ah} {x:StA} {now:Int} {c0:cu} (h:cC w g V fb wv (upd cs k c0) st x now) (hk:k<8) (b:Bool) :
 cC (w.setCell ⟨g,1+k*4+1,none⟩ (.bool b)) g V fb wv (upd cs k { c0 with closed:=b }) st x now∧Gr (sE g V fb wv) w (w.setCell ⟨g,1+k*4+1,none⟩ (.bool b)):=by
 have h1:=h.cell hk (j:=1+k*4+1) (u:=.bool b) (c:={ c0 with closed:=b }) (v:=wv k) (by rw [qA]; exact yA hk { c0 with closed:=b } (by rw [cL])) (by rw [cL]) (by rw [cL]) (by rw [cL]) (.inl ⟨rfl,by rw [cL]⟩)
 rw [qA,xZ] at h1
 exact h1
theorem cC.set1 {w:World} {g V k:Nat} {fb:Nat→Nat} {wv:Nat→Value} {cs:Nat→cu} {st:ah} {x:StA} {now:Int} {c0:cu} (h:cC w g V fb wv (upd cs k c0) st x now) (hk:k<8) (b:Bool) :
 cC (w.setCell ⟨g,1+k*4+2,none⟩ (.bool b)) g V fb wv (upd cs k { c0 with aL:=b }) st x now∧Gr (sE g V fb wv) w (w.setCell ⟨g,1+k*4+2,none⟩ (.bool b)):=by
 have h1:=h.cell hk (j:=1+k*4+2) (u:=.bool b) (c:={ c0 with aL:=b }) (v:=wv k) (by rw [qA]; exact u7 hk { c0 with aL:=b } (by rw [cL])) (by rw [cL]) (by rw [cL]) (by rw [cL]) (.inl ⟨rfl,by rw [cL]⟩)
 rw [qA,xZ] at h1
 exact h1
theorem dN.gr_ {g V:Nat} {fb:Nat→Nat} {wv wv':Nat→Value} {w w1 w':World} (h:dN g V fb wv wv' w w1) (hg:Gr (sE g V fb wv') w1 w'):dN g V fb wv wv' w w':=h.trans ⟨hg,fun _ _=>.inr (.inl rfl)⟩
theorem vU {g V k:Nat} {fb:Nat→Nat} {wv:Nat→Value} {H:gZ} {x:StA} (w:World) (h:cC w g V fb wv H.cs H.st x H.now) (hk:k<8) (E:Int) (hl:(H.cs k).waits.length≤35184372088832) :
 Calls Tryz.prog 58 #[.pointer (some ⟨g,0,none⟩),.pointer (some ⟨g,1+k*4,none⟩),.int .i64 E] w (iV g V fb wv (nZ H k E) (.tuple #[]) w):=by
 have HS:=hid (wZ H.st x H.now V w h.srv)
 have c0:w.cell? ⟨g,0,none⟩=some (.pointer (some ⟨V,0,none⟩)):=by rw [h.blk.cell]; exact uZ
 have hlt:=h.blk.lt
 have Hh:=hid h
 have Hl:=hid hl
 obtain⟨rev,hrev⟩:∃ r,H.st.rev=r:=⟨_,rfl⟩
 have wA:=hid hrev
 clear h hl hrev
 go_enter Tryz.func58,Tryz.ntmps58
 go_wp2_with fail
 refine Calls.mono HS.out ?_
 rintro e w1 ⟨y,rfl,_,hb1⟩
 have h1:=Hh.out.below hb1
 have HR:=hid (zy g (1+k*4) 123 _ (wv k) _ E H.st.rev w1 h1.blk (by decide) (iB hk) (h1.wait k hk) Hl.out)
 rw [wA.out] at HR
 have H1:=hid h1
 have Hb1:=hid hb1
 have hlt1:=h1.blk.lt
 unfold stC
 rw [wA.out]
 clear h1 hb1 HS c0
 have hf:∀ W,(Instr.field 26 (.agg #[.int .i64 rev,.slice y.aj y.nj y.cj,.slice y.an y.nn y.cn,.slice y.al y.nl y.cl]) 0).run Tryz.prog W = .ok (.int .i64 rev) W:=fun _=>by kernel_rfl
 go_wp2_with fail
 refine Calls.mono HR.out ?_
 rintro e w2 hp
 obtain⟨rfl,wv',h2,ht⟩:=hp.hub H1.out hk
 obtain⟨h3,hg3⟩:=h2.set0 hk true
 have y0:w2.cell? ⟨g,1+k*4+1,none⟩=some (.bool (H.cs k).closed):=by rw [h2.blk.cell,lH hk,cL]
 have z0:w2.frozen? ⟨g,1+k*4+1,none⟩=false:=h2.blk.thaw _
 have hlt2:=h2.blk.lt
 have H3:=hid h3
 have HT:=hid (((dN.refl g V fb wv w).below_ Hb1.out).trans ht |>.gr_ hg3)
 clear hp h2 ht h3 hg3 HR
 go_wp2
 go_end0
 refine⟨rfl,wv',x,?_,HT.out⟩
 have:=H3.out
 rw [← wA.out] at this
 exact this
section
variable {tl:ah→List UInt8} {rq:ByteArray→cJ × Int}
theorem uh {k:Nat} {f:bL}:∀ {fs:List bL} {n:Nat} {H:gZ},fs[n]? = some f→eF tl rq k H (fs.take (n+1))=(if ((eF tl rq k H (fs.take n)).cs k).closed=true then eF tl rq k H (fs.take n) else je tl rq (eF tl rq k H (fs.take n)) k f)
 | [],_,_,h=>by simp at h
 | a :: fs,0,H,h=>by
  have e:a=f:=by simpa using h
  subst e
  rfl
 | a :: fs,n+1,H,h=>by
  have h':fs[n]? = some f:=by simpa using h
  show eF tl rq k _ (fs.take (n+1))=_
  rw [uh h']
  rfl
theorem Ff (st:ah) (b:ByteArray) (e:Int) (c:cu):(qh tl st b e c).aL=c.aL:=by
 unfold qh
 split
 · rfl
 · split <;> rfl
theorem AK (H:gZ) (D:aK) (i:Nat):((qP tl H D).cs i).aL=(H.cs i).aL:=by
 show (jI tl H.st (oS D).1 (oS D).2 H.cs 8 i).aL=_
 unfold jI
 split
 · exact Ff _ _ _ _
 · rfl
theorem rS {cs:Nat→cu} {k i:Nat} {c:cu} (h:c.aL=(cs k).aL):(upd cs k c i).aL=(cs i).aL:=by
 by_cases e:i=k
 · subst e; rw [cL]; exact h
 · rw [upd_ne _ _ e]
theorem Dh {H:gZ} {k:Nat} {f:bL} (hn:¬ mZ (rq f.pay).1) (i:Nat):((je tl rq H k f).cs i).aL=(H.cs i).aL:=by
 unfold je
 split
 · exact rS rfl
 · split
   · exact rS rfl
   · unfold ng
     have ha:(lW tl (rq f.pay).1 (qp H.st H.now (pR H.st H.now (rq f.pay).1)) (H.cs k)).aL=(H.cs k).aL:=by
      unfold lW
      rw [if_neg (fun h=>hn h.2)]
      rfl
     dsimp only
     split
     · exact (AK _ _ i).trans (rS ha)
     · exact rS ha
theorem tJ (e r:Int) (c:cu):(nY e r c).waits.length≤c.waits.length+6020:=by
 show (c.waits ++ gB 3 4 _).length≤_
 have h2:=rJ 3 4 (jX e r).1.data.toList (by have:=nI e r; simp; omega)
 rw [List.length_append]; omega
theorem Fg (htl:∀ st,(tl st).length≤7000) (st:ah) (c:cu):(NF (tl st) c).waits.length≤c.waits.length+7000:=by
 show (c.waits ++ tl st).length≤_
 have:=htl st
 rw [List.length_append]; omega
theorem Kv (htl:∀ st,(tl st).length≤7000) (st:ah) (D:aK) (c:cu):(qh tl st (oS D).1 (oS D).2 c).waits.length≤c.waits.length+7000:=by
 unfold qh
 split
 · omega
 · split
   · show (c.waits ++ gB 3 2 _).length≤_
     have h2:=rJ 3 2 (oS D).1.data.toList (by have:=Bw D; simpa using this)
     rw [List.length_append]; omega
   · exact Fg htl _ _
theorem Di {cs:Nat→cu} {k:Nat} {c:cu} {n:Nat} (h:c.waits.length≤(cs k).waits.length+n) (i:Nat):(upd cs k c i).waits.length≤(cs i).waits.length+n:=by
 by_cases e:i=k
 · subst e; rw [cL]; exact h
 · rw [upd_ne _ _ e]; omega
theorem G5 (htl:∀ st,(tl st).length≤7000) (H:gZ) (k:Nat) (f:bL) (i:Nat):((je tl rq H k f).cs i).waits.length≤(H.cs i).waits.length+21000:=by
 have hc:∀ e,((nZ H k e).cs i).waits.length≤(H.cs i).waits.length+21000:=fun e=>Di (c:=MO e H.st.rev (H.cs k)) (n:=21000) (Nat.le_trans (tJ e H.st.rev (H.cs k)) (by omega)) i
 unfold je
 split
 · exact hc _
 · split
   · exact hc _
   · unfold ng
     have ha:(lW tl (rq f.pay).1 (qp H.st H.now (pR H.st H.now (rq f.pay).1)) (H.cs k)).waits.length≤(H.cs k).waits.length+14000:=by
      unfold lW
      split
      · refine Nat.le_trans (Fg htl _ _) ?_
        have:=tJ (qp H.st H.now (pR H.st H.now (rq f.pay).1)).e (qp H.st H.now (pR H.st H.now (rq f.pay).1)).st.rev (H.cs k)
        omega
      · refine Nat.le_trans (tJ _ _ _) ?_; omega
     dsimp only
     split
     · have h2:∀ (G:gZ) (D:aK),((qP tl G D).cs i).waits.length≤(G.cs i).waits.length+7000:=fun G D=>by
        show (jI tl G.st (oS D).1 (oS D).2 G.cs 8 i).waits.length≤_
        unfold jI
        split
        · exact Kv htl _ _ _
        · omega
       refine Nat.le_trans (h2 _ _) ?_
       have:=Di (cs:=H.cs) (k:=k) ha i
       dsimp only at this ⊢
       omega
     · refine Nat.le_trans (Di (cs:=H.cs) (k:=k) ha i) ?_
       omega
theorem qR {k:Nat} (htl:∀ st,(tl st).length≤7000):∀ (fs:List bL) (H:gZ),(∀ i,((eF tl rq k H fs).cs i).waits.length≤(H.cs i).waits.length+fs.length*21000)∧((∀ f ∈ fs,¬ mZ (rq f.pay).1)→∀ i,((eF tl rq k H fs).cs i).aL=(H.cs i).aL)
 | [],H=>⟨fun _=>Nat.le_add_right _ _,fun _ _=>rfl⟩
 | f :: fs,H=>by
  obtain⟨h1,h2⟩:=qR (k:=k) htl fs (if (H.cs k).closed=true then H else je tl rq H k f)
  refine⟨fun i=>?_,fun hn i=>?_⟩
  · refine Nat.le_trans (h1 i) ?_
    rw [List.length_cons]
    split
    · omega
    · have:=G5 (rq:=rq) htl H k f i; omega
  · refine (h2 (fun g hg=>hn g (List.mem_cons_of_mem _ hg)) i).trans ?_
    split
    · rfl
    · exact Dh (hn f List.mem_cons_self) i
end
def wP (s:ByteArray) (b:Bool) (w:World) (e:Ending) (w':World):Prop:=e = .returned (.tuple #[.string s,.bool b])∧Below w.heap.size w w'
theorem G6 (q:cJ) (L:List UInt8) (w:World) (hT:Tabs w) (hl:L.length≤6000) (hE:∀ W,Tabs W→Calls Tryz.prog 55 #[gY q] W (Nz q L W)) :
 Calls Tryz.prog 17 #[gY q] w (wP (BA (gB 3 3 L)) true w):=by
 obtain⟨W,hW⟩:∃ W,w.alloc (.cells (eM q) 65)=W:=⟨_,rfl⟩
 have hb:Blk W w.heap.size 65 (eM q):=by rw [← hW]; exact heap_alloc_new w _
 have hbW:Below w.heap.size w W:=by rw [← hW]; exact (Below.refl _ _).alloc (Nat.le_refl _) _
 have HE:=hid (hE W (hT.below hbW))
 obtain⟨c0,c1,c2,c3,c4,c5,c6,c7,c8,c9,c10,c11,c12,c13⟩:=Blk.c14 (hb)
 have hlt:=hb.lt
 have HbW:=hid hbW
 have HW:=hid hW
 have HF:=hid (fun w=>Cx 3 3 (BA L) w)
 have Hen:=hid (MN (kind:=3) (p:=BA L) (by decide) (by rw [cT]; exact hl))
 clear hb hbW hW hT hE hl
 unfold gY at HE ⊢
 unfold eM at HE HW ⊢
 go_enter Tryz.func17,Tryz.ntmps17
 go_wp2_with fail
 try simp only [HW.out]
 clear HW
 refine Calls.mono HE.out ?_
 rintro e w1 ⟨rfl,hb1⟩
 have HF1:=hid (HF.out w1)
 have Hb1:=hid (HbW.out.trans (hb1.mono HbW.out.size))
 clear hb1 HE HF HbW c0 c1 c2 c3 c4 c5 c6 c7 c8 c9 c10 c11 c12 c13 hlt
 go_wp2_with fail
 refine Calls.mono HF1.out ?_
 rintro e w2 ⟨rfl,hb2⟩
 have bJ:=hid (Hb1.out.trans (hb2.mono Hb1.out.size))
 rw [Hen.out]
 have hbl:(BA L).data.toList=L:=ko L
 rw [hbl]
 dsimp only
 clear hb2 hbl HF1 Hb1 Hen
 go_wp2
 go_ret2
 exact⟨rfl,bJ.out⟩
def jc (st:ah) (v:Int):List UInt8:=(if 2<v then bg st.rev.toNat else []) ++ Ir st.jobs st.nodes st.leases v
def jK (st:ah) (v:Int):ByteArray × Int:=if ay st≠0 then (⟨#[]⟩,ay st) else if ranged v 1 3=false then (⟨#[]⟩,1) else if o7 st v=false then (⟨#[]⟩,4) else (⟨(jc st v).toArray⟩,0)
theorem Fh {st:ah} {v:Int} (h:ay st≠0):jK st v=(⟨#[]⟩,ay st):=by unfold jK; rw [if_pos h]
theorem Kw {st:ah} {v:Int} (h:ay st=0) (h2:ranged v 1 3=false):jK st v=(⟨#[]⟩,1):=by unfold jK; rw [if_neg (by simp [h]),if_pos h2]
theorem G7 {st:ah} {v:Int} (h:ay st=0) (h2:ranged v 1 3=true) (h3:o7 st v=false):jK st v=(⟨#[]⟩,4):=by unfold jK; rw [if_neg (by simp [h]),if_neg (by simp [h2]),if_pos h3]
theorem zR {st:ah} {v:Int} (h:ay st=0) (h2:ranged v 1 3=true) (h3:o7 st v=true):jK st v=(⟨(jc st v).toArray⟩,0):=by unfold jK; rw [if_neg (by simp [h]),if_neg (by simp [h2]),if_neg (by simp [h3])]
theorem SGood.jobs {st:ah} (h:SGood st):∀ x ∈ st.jobs,xQ x:=fun _ hx=>IM (cI h.ej hx)
theorem SGood.nodes {st:ah} (h:SGood st):∀ x ∈ st.nodes,sB x:=fun _ hx=>E9 (cI h.en hx)
theorem SGood.leases {st:ah} (h:SGood st):∀ x ∈ st.leases,Ae x:=fun _ hl=>by
 obtain⟨h1,h2,h3⟩:=h.lease hl
 exact⟨by omega,by omega,by omega⟩
def zQ (st:ah) (v:Int) (w:World) (e:Ending) (w':World):Prop:=e = .returned (.tuple #[.string (jK st v).1,.int .i64 (jK st v).2])∧Below w.heap.size w w'
theorem zQ.mk' {st:ah} {v E:Int} {s:ByteArray} {w w':World} (h:jK st v=(s,E)) (hb:Below w.heap.size w w'):zQ st v w (.returned (.tuple #[.string s,.int .i64 E])) w':=⟨by rw [h],hb⟩
structure VGo (w0 w:World) (base g p S Q:Nat) (v:Int) (l:List UInt8) (cs:Array Value) (N:Nat):Prop where
 ok:eL w base g l
 keep:cM base g w0 w
 bS:Blk w S 26 cs
 bq:Blk w Q 3 #[.int .i64 v]
 bp:Blk w p 132 #[.pointer (some ⟨g,0,none⟩)]
 nS:S≠g
 nq:Q≠g
 np:p≠g
 len:l.length≤N
theorem VGo.next {w0 w w':World} {base g p S Q N:Nat} {v:Int} {l k:List UInt8} {cs:Array Value} (h:VGo w0 w base g p S Q v l cs N) (ha:eL w' base g (l ++ k)) (hk:cM base g w w') (hkl:k.length≤4000):VGo w0 w' base g p S Q v (l ++ k) cs (N+4000):=
 ⟨ha,h.keep.trans hk,hk.blk h.bS (by decide) h.nS,hk.blk h.bq (by decide) h.nq,hk.blk h.bp (by decide) h.np,h.nS,h.nq,h.np,by have:=h.len; rw [List.length_append]; omega⟩
theorem Ep (st:ah) (x:StA) (v:Int) (w:World) (hS:StAt w w.heap.size st x) (hT:Tabs w) :
 Calls Tryz.prog 20 #[.agg (stC st x),.int .i64 v] w (zQ st v w):=by
 have hb1:Below w.heap.size w (w.alloc (.cells (stC st x) 26)):=(Below.refl _ _).alloc (Nat.le_refl _) _
 have hb2:=hb1.alloc hb1.size (.cells #[.int .i64 v] 3)
 have hBS:Blk ((w.alloc (.cells (stC st x) 26)).alloc (.cells #[.int .i64 v] 3)) w.heap.size 26 (stC st x):=Blk.alloc (show Blk _ _ _ _ from heap_alloc_new w _) _
 have hBQ:Blk ((w.alloc (.cells (stC st x) 26)).alloc (.cells #[.int .i64 v] 3)) (w.heap.size+1) 3 #[.int .i64 v]:=by
  have h:=heap_alloc_new (w.alloc (.cells (stC st x) 26)) (.cells #[.int .i64 v] 3)
  rwa [show (w.alloc (.cells (stC st x) 26)).heap.size=w.heap.size+1 by simp] at h
 have HFit:=hid (MP st x v _ (hS.up hb2) (hT.below hb2))
 have cX:=hid (fun s E (h:jK st v=(s,E)) w'=>zQ.mk' (w:=w) (w':=w') h)
 have HS:=hid hS
 have HT:=hid hT
 have Hb2:=hid hb2
 have HBS:=hid hBS
 have HBQ:=hid hBQ
 have hF:AL st v=if ay st≠0 then (false,ay st) else if ranged v 1 3=false then (false,1) else (o7 st v,0):=rfl
 have HF:=hid hF
 clear hb1 hb2 hS hBS hBQ hT hF
 obtain⟨rev,jobs,nodes,leases⟩:=st
 obtain⟨aj,nj,cj,an,nn,cn,al,nl,cl⟩:=x
 unfold stC at *
 dsimp only at *
 go_enter Tryz.func20,Tryz.ntmps20
 go_wp2_with fail
 refine Calls.mono HFit.out ?_
 rintro e w1 ⟨rfl,hb⟩
 have HbA:=hid (Hb2.out.trans (hb.mono Hb2.out.size))
 have HB1:=hid (HBS.out.below hb HBS.out.lt)
 have HQ1:=hid (HBQ.out.below hb HBQ.out.lt)
 have hsz:w.heap.size+1<w1.heap.size:=HQ1.out.lt
 rw [HF.out]
 clear hb HFit HBS HBQ
 obtain⟨E,hE⟩:∃ E,ay ⟨rev,jobs,nodes,leases⟩=E:=⟨_,rfl⟩
 obtain⟨fit,hfit⟩:∃ f,o7 ⟨rev,jobs,nodes,leases⟩ v=f:=⟨_,rfl⟩
 have HE:=hid hE
 have MQ:=hid hfit
 rw [hE,hfit]
 clear hE hfit HF
 by_cases h0:E=0
 rotate_left
 · rw [if_pos h0]
   have e2:(E != 0)=true:=bne_iff_ne.2 h0
   have hend:=hid (cX.out _ _ (by rw [Fh (by rw [HE.out]; exact h0),HE.out]) _ HbA.out)
   go_wp2
   go_ret2
   exact hend.out
 subst h0
 rw [if_neg (by simp)]
 cases hr:ranged v 1 3
 · rw [if_pos rfl]
   have hend:=hid (cX.out _ _ (Kw HE.out hr) _ HbA.out)
   clear hr
   go_wp2
   go_ret2
   exact hend.out
 rw [if_neg (by simp)]
 have Hr:=hid hr
 have hv:=aZ.1 hr
 clear hr
 cases fit
 · have hend:=hid (cX.out _ _ (G7 HE.out Hr.out MQ.out) _ HbA.out)
   go_wp2
   go_ret2
   exact hend.out
 have hend:=hid (cX.out _ _ (zR HE.out Hr.out MQ.out))
 have G:=hid (Ea HE.out)
 have HGJ:=hid (G.out.jobs)
 have HGN:=hid (G.out.nodes)
 have HGL:=hid (G.out.leases)
 have gr0:=G.out.r0
 have gr1:=G.out.r1
 have gnj:=G.out.nj
 have gnn:=G.out.nn
 have gnl:=G.out.nl
 have hl1:=HS.out.lj
 have hl2:=HS.out.ln
 have hl3:=HS.out.ll
 dsimp only at gr0 gr1 gnj gnn gnl hl1 hl2 hl3
 have hTl:=HT.out.lt
 have hw0:=eL.new (HT.out.below HbA.out) hTl.1 hTl.2 (show w.heap.size≤w1.heap.size by omega)
 have hbW:Below w1.heap.size w1 (w1.alloc (.cells #[.slice none 0 0] 134)):=(Below.refl _ _).alloc (Nat.le_refl _) _
 have hsW:(w1.alloc (.cells #[.slice none 0 0] 134)).heap.size=w1.heap.size+1:=by simp
 have hbP:Below (w1.alloc (.cells #[.slice none 0 0] 134)).heap.size (w1.alloc (.cells #[.slice none 0 0] 134)) ((w1.alloc (.cells #[.slice none 0 0] 134)).alloc (.cells #[.pointer (some ⟨w1.heap.size,0,none⟩)] 132)):=(Below.refl _ _).alloc (Nat.le_refl _) _
 have hbp:Blk ((w1.alloc (.cells #[.slice none 0 0] 134)).alloc (.cells #[.pointer (some ⟨w1.heap.size,0,none⟩)] 132)) (w1.heap.size+1) 132 #[.pointer (some ⟨w1.heap.size,0,none⟩)]:=by
  have:=heap_alloc_new (w1.alloc (.cells #[.slice none 0 0] 134)) (.cells #[.pointer (some ⟨w1.heap.size,0,none⟩)] 132)
  rw [hsW] at this
  exact this
 have H0:=hid (VGo.mk (w0:=w) (N:=0) (hw0.below hbP) (((cM.of_below HbA.out).trans (cM.of_below hbW)).trans (cM.of_below hbP)) ((HB1.out.alloc _).alloc _) ((HQ1.out.alloc _).alloc _) hbp (show w.heap.size≠w1.heap.size by omega) (show w.heap.size+1≠w1.heap.size by omega) (by omega) (by simp))
 obtain⟨y0,y1,y2,y3⟩:=Blk.c4 (H0.out.bS)
 have yq:((w1.alloc (.cells #[.slice none 0 0] 134)).alloc (.cells #[.pointer (some ⟨w1.heap.size,0,none⟩)] 132)).cell? ⟨w.heap.size+1,0,none⟩=some (.int .i64 v):=H0.out.bq.cell 0
 clear hTl hw0 hbW hsW hbP hbp HbA
 by_cases h2:2<v
 · have d2:decide (2<v)=true:=decide_eq_true h2
   go_wp2_with fail
   refine Calls.mono (mT w.heap.size w1.heap.size _ rev _ (by omega) H0.out.ok (by have:=H0.out.len; omega)) ?_
   rintro e wk1 ⟨rfl,ok1,k1⟩
   have H1:=hid (H0.out.next ok1 k1 (vH _))
   clear ok1 k1 H0 y0 y1 y2 y3 yq
   have yp:wk1.cell? ⟨w1.heap.size+1,0,none⟩=some (.pointer (some ⟨w1.heap.size,0,none⟩)):=H1.out.bp.cell 0
   have hpl:w1.heap.size+1<wk1.heap.size:=H1.out.bp.lt
   have y1:wk1.cell? ⟨w.heap.size,1,none⟩=some (.slice aj nj cj):=H1.out.bS.cell 1
   have y2:wk1.cell? ⟨w.heap.size,2,none⟩=some (.slice an nn cn):=H1.out.bS.cell 2
   have y3:wk1.cell? ⟨w.heap.size,3,none⟩=some (.slice al nl cl):=H1.out.bS.cell 3
   go_wp2_with fail
   refine Calls.mono (p8.1 w.heap.size w1.heap.size (w1.heap.size+1) (w.heap.size+1) v _ jobs _ _ _ _ (HS.out.j.below (H1.out.keep.below (show w.heap.size≤w1.heap.size by omega) (Nat.le_refl _))) HS.out.lj (by first | omega | (dsimp only; omega)) HGJ.out H1.out.ok (by have:=H1.out.len; omega) H1.out.bp H1.out.np H1.out.bq H1.out.nq) ?_
   rintro e wk3 ⟨rfl,ok3,k3⟩
   have H3:=hid (H1.out.next ok3 k3 (fR (fun x=>oI x v) gnj))
   clear ok3 k3 yp hpl y1 y2 y3
   have yp:wk3.cell? ⟨w1.heap.size+1,0,none⟩=some (.pointer (some ⟨w1.heap.size,0,none⟩)):=H3.out.bp.cell 0
   have hpl:w1.heap.size+1<wk3.heap.size:=H3.out.bp.lt
   have y2:wk3.cell? ⟨w.heap.size,2,none⟩=some (.slice an nn cn):=H3.out.bS.cell 2
   have y3:wk3.cell? ⟨w.heap.size,3,none⟩=some (.slice al nl cl):=H3.out.bS.cell 3
   go_wp2_with fail
   refine Calls.mono (p8.2 w.heap.size w1.heap.size (w1.heap.size+1) (w.heap.size+1) v _ nodes _ _ _ _ (HS.out.n.below (H3.out.keep.below (show w.heap.size≤w1.heap.size by omega) (Nat.le_refl _))) HS.out.ln (by first | omega | (dsimp only; omega)) HGN.out H3.out.ok (by have:=H3.out.len; omega) H3.out.bp H3.out.np H3.out.bq H3.out.nq) ?_
   rintro e wk4 ⟨rfl,ok4,k4⟩
   have H4:=hid (H3.out.next ok4 k4 (fR (fun x=>oJ x v) (by omega)))
   clear ok4 k4 yp hpl y2 y3
   have yp:wk4.cell? ⟨w1.heap.size+1,0,none⟩=some (.pointer (some ⟨w1.heap.size,0,none⟩)):=H4.out.bp.cell 0
   have hpl:w1.heap.size+1<wk4.heap.size:=H4.out.bp.lt
   have y3:wk4.cell? ⟨w.heap.size,3,none⟩=some (.slice al nl cl):=H4.out.bS.cell 3
   go_wp2_with fail
   refine Calls.mono (vI w.heap.size w1.heap.size (w1.heap.size+1) _ leases _ _ _ _ (HS.out.l.below (H4.out.keep.below (show w.heap.size≤w1.heap.size by omega) (Nat.le_refl _))) HS.out.ll (by first | omega | (dsimp only; omega)) HGL.out H4.out.ok (by have:=H4.out.len; omega)) ?_
   rintro e wk5 ⟨rfl,ok5,k5⟩
   have H5:=hid (H4.out.next ok5 k5 (fR (fun x=>pL x) (by omega)))
   clear ok5 k5 yp hpl y3
   have yp:wk5.cell? ⟨w1.heap.size+1,0,none⟩=some (.pointer (some ⟨w1.heap.size,0,none⟩)):=H5.out.bp.cell 0
   have hpl:w1.heap.size+1<wk5.heap.size:=H5.out.bp.lt
   have hL:[] ++ bg rev.toNat ++ fM (fun x=>eC x v) jobs ++ fM (fun x=>cZ x v) nodes ++ fM eQ leases=jc ⟨rev,jobs,nodes,leases⟩ v:=by unfold jc Ir; rw [if_pos (by omega)]; simp only [List.append_assoc,List.nil_append]
   have hat:=H5.out.ok.at_
   rw [hL] at hat
   obtain⟨_,AA,m,c,hB,ho⟩:=hat
   have z0:wk5.cell? ⟨w1.heap.size,0,none⟩=some (.slice AA m c):=hB.cell 0
   have hrun:=cN Tryz.underlying118 Tryz.underlying5 Tryz.underlying9 ho
   have bJ:=hid (hend.out _ (H5.out.keep.below (show w.heap.size≤w1.heap.size by omega) (Nat.le_refl _)))
   clear hL hB ho
   go_wp2
   go_ret2
   exact bJ.out
 · have d2:decide (2<v)=false:=decide_eq_false h2
   have hsw:w1.heap.size<w1.heap.size+1:=by omega
   go_wp2_with fail
   refine Calls.mono (p8.1 w.heap.size w1.heap.size (w1.heap.size+1) (w.heap.size+1) v _ jobs _ _ _ _ (HS.out.j.below (H0.out.keep.below (show w.heap.size≤w1.heap.size by omega) (Nat.le_refl _))) HS.out.lj (by first | omega | (dsimp only; omega)) HGJ.out H0.out.ok (by have:=H0.out.len; omega) H0.out.bp H0.out.np H0.out.bq H0.out.nq) ?_
   rintro e wk3 ⟨rfl,ok3,k3⟩
   have H3:=hid (H0.out.next ok3 k3 (fR (fun x=>oI x v) gnj))
   clear ok3 k3 y0 y1 y2 y3 yq
   have yp:wk3.cell? ⟨w1.heap.size+1,0,none⟩=some (.pointer (some ⟨w1.heap.size,0,none⟩)):=H3.out.bp.cell 0
   have hpl:w1.heap.size+1<wk3.heap.size:=H3.out.bp.lt
   have y2:wk3.cell? ⟨w.heap.size,2,none⟩=some (.slice an nn cn):=H3.out.bS.cell 2
   have y3:wk3.cell? ⟨w.heap.size,3,none⟩=some (.slice al nl cl):=H3.out.bS.cell 3
   go_wp2_with fail
   refine Calls.mono (p8.2 w.heap.size w1.heap.size (w1.heap.size+1) (w.heap.size+1) v _ nodes _ _ _ _ (HS.out.n.below (H3.out.keep.below (show w.heap.size≤w1.heap.size by omega) (Nat.le_refl _))) HS.out.ln (by first | omega | (dsimp only; omega)) HGN.out H3.out.ok (by have:=H3.out.len; omega) H3.out.bp H3.out.np H3.out.bq H3.out.nq) ?_
   rintro e wk4 ⟨rfl,ok4,k4⟩
   have H4:=hid (H3.out.next ok4 k4 (fR (fun x=>oJ x v) (by omega)))
   clear ok4 k4 yp hpl y2 y3
   have yp:wk4.cell? ⟨w1.heap.size+1,0,none⟩=some (.pointer (some ⟨w1.heap.size,0,none⟩)):=H4.out.bp.cell 0
   have hpl:w1.heap.size+1<wk4.heap.size:=H4.out.bp.lt
   have y3:wk4.cell? ⟨w.heap.size,3,none⟩=some (.slice al nl cl):=H4.out.bS.cell 3
   go_wp2_with fail
   refine Calls.mono (vI w.heap.size w1.heap.size (w1.heap.size+1) _ leases _ _ _ _ (HS.out.l.below (H4.out.keep.below (show w.heap.size≤w1.heap.size by omega) (Nat.le_refl _))) HS.out.ll (by first | omega | (dsimp only; omega)) HGL.out H4.out.ok (by have:=H4.out.len; omega)) ?_
   rintro e wk5 ⟨rfl,ok5,k5⟩
   have H5:=hid (H4.out.next ok5 k5 (fR (fun x=>pL x) (by omega)))
   clear ok5 k5 yp hpl y3
   have yp:wk5.cell? ⟨w1.heap.size+1,0,none⟩=some (.pointer (some ⟨w1.heap.size,0,none⟩)):=H5.out.bp.cell 0
   have hpl:w1.heap.size+1<wk5.heap.size:=H5.out.bp.lt
   have hL:[] ++ fM (fun x=>eC x v) jobs ++ fM (fun x=>cZ x v) nodes ++ fM eQ leases=jc ⟨rev,jobs,nodes,leases⟩ v:=by unfold jc Ir; rw [if_neg (by omega)]; simp only [List.append_assoc,List.nil_append]
   have hat:=H5.out.ok.at_
   rw [hL] at hat
   obtain⟨_,AA,m,c,hB,ho⟩:=hat
   have z0:wk5.cell? ⟨w1.heap.size,0,none⟩=some (.slice AA m c):=hB.cell 0
   have hrun:=cN Tryz.underlying118 Tryz.underlying5 Tryz.underlying9 ho
   have bJ:=hid (hend.out _ (H5.out.keep.below (show w.heap.size≤w1.heap.size by omega) (Nat.le_refl _)))
   clear hL hB ho
   go_wp2
   go_ret2
   exact bJ.out
section
variable {α:Type} {key:α→ByteArray}
theorem iY {E:α→Int} {l:List α} (h:bM E key l=0):aT key l:=(lU none l h).2
theorem vG {rows set:List α} {gone:List ByteArray} {z:α} (h:z ∈ bR key rows set gone):z ∈ rows∨z ∈ set:=by
 unfold bR at h
 have gen:∀ (set l:List α),z ∈ set.foldl (pK key) l→z ∈ l∨z ∈ set:=by
  intro set
  induction set with
  | nil=>intro l h; exact .inl h
  | cons s set ih=>
   intro l h
   rw [List.foldl_cons] at h
   rcases ih _ h with h1 | h1
   · unfold pK at h1
     rcases (gL s z l false).1 h1 with h2 | h2
     · exact .inr (by rw [h2.2]; exact List.mem_cons_self)
     · exact .inl h2.1
   · exact .inr (List.mem_cons_of_mem _ h1)
 rcases gen _ _ h with h1 | h1
 · exact .inl (List.mem_filter.1 h1).1
 · exact .inr h1
end
theorem AM {has:ByteArray→Bool}:∀ (p:Option ByteArray) (l:List ByteArray),dI has p l=0→(∀ x ∈ l,before p x=true)∧l.Pairwise fun a b=>bytesLess a.toList b.toList=true
 | _,[],_=>⟨by simp,List.Pairwise.nil⟩
 | p,s :: l,h=>by
  rw [dI] at h
  by_cases h1:cK s=true
  · rw [if_pos h1] at h
    by_cases h2:before p s=true
    · rw [if_pos h2] at h
      by_cases h3:has s=true
      · rw [if_pos h3] at h; omega
      · rw [if_neg h3] at h
        obtain⟨i1,i2⟩:=AM (some s) l h
        refine⟨fun y hy=>?_,List.pairwise_cons.2 ⟨fun y hy=>i1 y hy,i2⟩⟩
        rcases List.mem_cons.1 hy with rfl | hy
        · exact h2
        · have h4:=i1 y hy
          unfold before at h2 h4 ⊢
          cases p with
          | none=>rfl
          | some q=>exact pJ _ _ _ h2 h4
    · rw [if_neg h2] at h; omega
  · rw [if_neg h1] at h; omega
theorem Dj {has:ByteArray→Bool} {l:List ByteArray} (h:nE has l=0):l.Pairwise fun a b=>a≠b:=
 (AM none l h).2.imp fun {a b} hlt e=>by rw [e,lP] at hlt; cases hlt
theorem xM:∀ {l:List Int},iF l=0→∀ e ∈ l,e=0
 | [],_,e,he=>by cases he
 | a :: l,h,e,he=>by
  unfold iF at h
  split at h
  · rename_i h0
    rcases List.mem_cons.1 he with rfl | he
    · exact h0
    · exact xM h e he
  · rename_i h0; exact absurd h h0
structure Qt (s:ah) (d:aK):Prop where
 sj:aT aB.name s.jobs
 sn:aT av.name s.nodes
 sl:aT ak.job s.leases
 dj:aT aB.name d.jobs
 dn:aT av.name d.nodes
 dl:aT ak.job d.leases
 gj:d.gj.Pairwise fun a b=>a≠b
 gn:d.gn.Pairwise fun a b=>a≠b
 gl:d.gl.Pairwise fun a b=>a≠b
 nsj:s.jobs.length≤40
 nsn:s.nodes.length≤20
 nsl:s.leases.length≤40
 ndj:d.jobs.length≤40
 ndn:d.nodes.length≤20
 ndl:d.leases.length≤40
 ngj:d.gj.length≤40
 ngn:d.gn.length≤20
 ngl:d.gl.length≤40
theorem Fi {s:ah} (h:ay s=0):dR s=true∧bM eZ aB.name s.jobs=0∧bM eV av.name s.nodes=0∧bM (eN s) ak.job s.leases=0:=by
 unfold ay at h
 split at h
 · omega
 · split at h
   · omega
   · rename_i h2
     split at h
     · rename_i h3; exact absurd h h3
     · rename_i h3
       split at h
       · rename_i h4; exact absurd h h4
       · rename_i h4
         split at h
         · rename_i h5; exact absurd h h5
         · rename_i h5
           exact⟨by simpa using h2,by simpa using h3,by simpa using h4,by simpa using h5⟩
theorem Px {s:ah} {d:aK} (h1:ay s=0) (h2:cW d=0):Qt s d:=by
 obtain⟨a1,a2,a3,a4⟩:=Fi h1
 unfold dR at a1
 simp only [Bool.and_eq_true,decide_eq_true_eq] at a1
 unfold cW at h2
 split at h2
 · omega
 · split at h2
   · omega
   · rename_i h3
     have h3':jR d=true:=by simpa using h3
     unfold jR at h3'
     simp only [Bool.and_eq_true,decide_eq_true_eq] at h3'
     have hr:=xM h2
     unfold wV at hr
     simp only [List.mem_cons,List.not_mem_nil,or_false,forall_eq_or_imp,forall_eq] at hr
     obtain⟨r1,r2,r3,r4,r5,r6⟩:=hr
     exact⟨iY a2,iY a3,iY a4,iY r1,iY r2,iY r3,Dj r4,Dj r5,Dj r6,by omega,by omega,by omega,by omega,by omega,by omega,by omega,by omega,by omega⟩
section
variable {s:ah} {d:aK}
theorem KN (h:ay s≠0):gN s d=(aY,ay s):=by unfold gN; rw [if_pos h]
theorem KO (h:ay s=0) (h2:cW d≠0):gN s d=(aY,cW d):=by unfold gN; rw [if_neg (by simp [h]),if_pos h2]
theorem Pv (h:ay s=0) (h2:cW d=0) (h3:d.from_≠s.rev):gN s d=(aY,10):=by unfold gN; rw [if_neg (by simp [h]),if_neg (by simp [h2]),if_pos h3]
theorem Ng (h:ay s=0) (h2:cW d=0) (h3:d.from_=s.rev) (h4:(aW aB.name s.jobs d.gj || aW av.name s.nodes d.gn || aW ak.job s.leases d.gl)=true):gN s d=(aY,6):=by
 unfold gN; rw [if_neg (by simp [h]),if_neg (by simp [h2]),if_neg (by simp [h3]),if_pos h4]
theorem Pw (h:ay s=0) (h2:cW d=0) (h3:d.from_=s.rev) (h4:aW aB.name s.jobs d.gj=false) (h5:aW av.name s.nodes d.gn=false) (h6:aW ak.job s.leases d.gl=false) (h7:ay (kJ s d)≠0) :
 gN s d=(aY,ay (kJ s d)):=by
 unfold gN; rw [if_neg (by simp [h]),if_neg (by simp [h2]),if_neg (by simp [h3]),if_neg (by simp [h4,h5,h6]),if_pos h7]
theorem QM (h:ay s=0) (h2:cW d=0) (h3:d.from_=s.rev) (h4:aW aB.name s.jobs d.gj=false) (h5:aW av.name s.nodes d.gn=false) (h6:aW ak.job s.leases d.gl=false) (h7:ay (kJ s d)=0) :
 gN s d=(kJ s d,0):=by
 unfold gN; rw [if_neg (by simp [h]),if_neg (by simp [h2]),if_neg (by simp [h3]),if_neg (by simp [h4,h5,h6]),if_neg (by simp [h7])]
end
end Go.Proofs.YtcpgnjmaampglaaGreatDoor
