/- Of the proof of a statement: HubC, PlHub, HubT, PlHubS, PlBtw, PlApp2. -/
import Derived.Test.YtoeejfhdjmkpcaaGreatDoorUHubMem
set_option linter.unusedVariables false
set_option linter.unusedSimpArgs false
set_option maxRecDepth 100000
set_option maxHeartbeats 8000000
/- The walks of a hub's connections: goes, reply, flush. -/
namespace Go.Proofs.YtoeejfhdjmkpcaaGreatDoor
open Go.Lib (hid)
open Go.RowKit
def gM (g o:Nat) (v:Value) (L:List UInt8) (w:World) (e:Ending) (w':World):Prop:=
 e = .returned (.tuple #[])∧∃ w1 v',ByteRow w1 v' L∧cE w w1 v v'∧w'=w1.setCell ⟨g,o,none⟩ v'
theorem cE.of_below {w w0 w':World} {v v':Value} (hb:Below w.heap.size w w0) (h:cE w0 w' v v'):cE w w' v v':=
 cE.trans ⟨⟨hb.os,hb.tape,hb.output,hb.size,fun k hk _=>hb.block k hk⟩,.inl rfl⟩ h
theorem gM.first {g o:Nat} {v:Value} {L:List UInt8} {w w0 w':World} {e:Ending} (hb:Below w.heap.size w w0) (h:gM g o v L w0 e w'):gM g o v L w e w':=by
 obtain⟨h1,w1,v',h2,h3,h4⟩:=h
 exact⟨h1,w1,v',h2,.of_below hb h3,h4⟩
theorem ByteRow.below {w w':World} {v:Value} {l:List UInt8} (h:ByteRow w v l) (hb:Below w.heap.size w w'):ByteRow w' v l:=
 h.keep fun b hb'=>hb.block b (by obtain⟨c,h1,_⟩:=h.blk hb'; exact h1.lt)
theorem tE (v k:Nat) (p:List UInt8) (hp:p.length≤6000):0<(gU v k p).length∧(gU v k p).length≤6020:=by
 have h4:(nG (nH v k p)).length=4:=rfl
 have hn:=dM p.length
 unfold gU
 rw [List.length_append,h4]
 simp only [nH,List.length_append,List.length_cons,List.length_nil]
 omega
theorem IM {kind:Int} {p:ByteArray} (hk:1≤kind∧kind≤4) (hp:p.size≤6000):Ar 3 kind p=(BA (gU 3 kind.toNat p.data.toList),0):=by
 unfold Ar
 rw [if_neg (by omega),if_neg (by omega)]
 rfl
theorem BW (g o:Nat) (T:TypeId) (cs:Array Value) (v:Value) (l:List UInt8) (kind:Int) (p:ByteArray) (w:World) (hb:Blk w g T cs) (ht:T ≠ 5) (hc:cs[o+3]? = some v) (hr:ByteRow w v l) (hk:1≤kind∧kind≤4) (hp:p.size≤6000) (hl:l.length≤35184372088832) :
 Calls Tryz.prog 287 #[.pointer (some ⟨g,o,none⟩),.int .i64 kind,.string p] w (gM g (o+3) v (l ++ gU 3 kind.toNat p.data.toList) w):=by
 have hcon:=hid (Ep 3 kind p w)
 have hE:=IM hk hp
 have hfl:=tE 3 kind.toNat p.data.toList (by simpa using hp)
 generalize hL:gU 3 kind.toNat p.data.toList=L at hE hfl ⊢
 have HE:=hid hE
 have HB:=hid hb
 have HC:=hid hc
 have HR:=hid hr
 have hbs:(BA L).size=L.length:=jQ L
 have hbl:(BA L).data.toList=L:=kB L
 have hlt:=hb.lt
 clear hL hE hb hc hr hk hp
 go_enter Tryz.func287,Tryz.ntmps287
 go_wp2_with fail
 refine Calls.mono hcon.out ?_
 rintro e w0 ⟨rfl,hb0⟩
 rw [HE.out]
 dsimp only
 have hB0:=HB.out.below hb0 HB.out.lt
 have y0:w0.cell? ⟨g,o+3,none⟩=some v:=by rw [hB0.cell]; exact HC.out
 have hlt0:=hB0.lt
 have HR0:=hid (HR.out.below hb0)
 have Hb0:=hid hb0
 have HB0:=hid hB0
 obtain⟨s,hs⟩:∃ s,BA L=s:=⟨_,rfl⟩
 rw [hs] at hbs hbl ⊢
 have HS:=hid hs
 have Hbl:=hid hbl
 clear hcon HE hb0 hB0 HB HR hs hbl
 go_wp2_with (at_builtin; refine Gv rfl _ _ rfl v l rfl HR0.out s rfl (by omega) (by omega) ?_; intro v' w1 hr1 hg1; rw [Hbl.out] at hr1; obtain⟨A',c',rfl⟩:=hr1.shape; have hB1:=pJ HB0.out ht HR0.out hg1; have z0:w1.cell? ⟨g,o+3,none⟩=some v:=(hB1.cell _).trans HC.out; have zt:w1.frozen? ⟨g,o+3,none⟩=false:=hB1.thaw _; have HR1:=hid hr1; have HG1:=hid hg1; clear hr1 hg1 hB1)
 go_end0
 exact⟨rfl,_,_,HR1.out,.of_below Hb0.out HG1.out,by rw [List.length_append]⟩
theorem mQ (c r:Int):(jR c r).1.size≤22:=by
 unfold jR
 split
 · have h1:=dM c.toNat
   have h2:=dM r.toNat
   show ((rR c r).toArray).size≤22
   rw [List.size_toArray,rR,List.length_append]
   omega
 · show 0≤22
   omega
theorem xU (g o:Nat) (T:TypeId) (cs:Array Value) (v:Value) (l:List UInt8) (c r:Int) (w:World) (hb:Blk w g T cs) (ht:T ≠ 5) (hc:cs[o+3]? = some v) (hr:ByteRow w v l) (hl:l.length≤35184372088832) :
 Calls Tryz.prog 197 #[.pointer (some ⟨g,o,none⟩),.agg #[.int .i64 c,.int .i64 r]] w (gM g (o+3) v (l ++ gU 3 4 (jR c r).1.data.toList) w):=by
 obtain⟨W,hW⟩:∃ W,w.alloc (.cells #[.int .i64 c,.int .i64 r] 42)=W:=⟨_,rfl⟩
 have hbW:Below w.heap.size w W:=by rw [← hW]; exact (Below.refl _ _).alloc (Nat.le_refl _) _
 have hbB:Blk W w.heap.size 42 #[.int .i64 c,.int .i64 r]:=by rw [← hW]; exact heap_alloc_new w _
 have HR:=hid (FM c r W)
 obtain⟨c0,c1⟩:=Blk.c2 (hbB)
 have hlt:=hbB.lt
 have HG:=hid (fun (w0:World) (h:Below W.heap.size W w0)=>(have h2:Below w.heap.size w w0:=hbW.trans (h.mono hbW.size); And.intro h2 (BW g o T cs v l 4 (jR c r).1 w0 (hb.below h2 hb.lt) ht hc (hr.below h2) (by omega) (Nat.le_trans (mQ c r) (by omega)) hl)))
 have HW:=hid hW
 clear hW hbW hbB hb hc hr
 go_enter Tryz.func197,Tryz.ntmps197
 go_wp2_with fail
 try rw [HW.out]
 clear HW
 refine Calls.mono HR.out ?_
 rintro e w0 ⟨rfl,hb0⟩
 have H2:=hid (HG.out w0 hb0)
 clear HG hb0 HR c0 c1
 go_wp2_with fail
 refine Calls.mono H2.out.2 ?_
 rintro e w1 hp
 have HP:=hid (hp.first H2.out.1)
 obtain⟨rfl,_⟩:=hp
 clear H2
 go_wp2
 go_end0
 exact HP.out
def FN (g o:Nat) (l:List UInt8) (w:World) (e:Ending) (w':World):Prop:=e = .returned (.string (BA l))∧w'=w.setCell ⟨g,o,none⟩ (.slice none 0 0)
theorem uV (g o:Nat) (T:TypeId) (cs:Array Value) (v:Value) (l:List UInt8) (w:World) (hb:Blk w g T cs) (hc:cs[o+3]? = some v) (hr:ByteRow w v l) :
 Calls Tryz.prog 114 #[.pointer (some ⟨g,o,none⟩)] w (FN g (o+3) l w):=by
 obtain⟨A,c,rfl⟩:=hr.shape
 have hrun:=iE (P:=Tryz.prog) Tryz.underlying129 Tryz.underlying5 Tryz.underlying9 hr.owns
 have y0:w.cell? ⟨g,o+3,none⟩=some (.slice A l.length c):=by rw [hb.cell]; exact hc
 have zt:w.frozen? ⟨g,o+3,none⟩=false:=hb.thaw _
 have hlt:=hb.lt
 clear hb hc hr
 go_enter Tryz.func114,Tryz.ntmps114
 go_wp2
 go_ret
 exact⟨rfl,rfl⟩
end Go.Proofs.YtoeejfhdjmkpcaaGreatDoor
/- What a hub does: plain. (tl: what it tells of a state; rq: what a request's bytes are.) -/
namespace Go.Proofs.YtoeejfhdjmkpcaaGreatDoor
open Go.Lib (hid)
structure ig where
 st:ak
 now:Int
 cs:Nat→cu
def Is (k:Nat) (p:ByteArray) (c:cu):cu:={ c with waits:=c.waits ++ gU 3 k p.data.toList }
def mY (e r:Int) (c:cu):cu:=Is 4 (jR e r).1 c
def Kg (l:List UInt8) (c:cu):cu:={ c with waits:=c.waits ++ l }
def IN (e r:Int) (c:cu):cu:={ mY e r c with closed:=true }
def mZ (H:ig) (k:Nat) (e:Int):ig:={ H with cs:=upd H.cs k (IN e H.st.rev (H.cs k)) }
def oK (tl:ak→List UInt8) (st:ak) (b:ByteArray) (e:Int) (c:cu):cu:=if c.closed=true∨c.aN=false then c else if e=0 then Is 2 b c else Kg (tl st) c
def jF (tl:ak→List UInt8) (st:ak) (b:ByteArray) (e:Int) (cs:Nat→cu) (n:Nat):Nat→cu:=fun i=>if i<n then oK tl st b e (cs i) else cs i
def pH (tl:ak→List UInt8) (H:ig) (D:aM):ig:={ H with cs:=jF tl H.st (lG D).1 (lG D).2 H.cs 8 }
def mD (q:aU):Prop:=q.kind=8∨q.kind=9
instance (q:aU):Decidable (mD q):=by unfold mD; exact inferInstance
def kU (tl:ak→List UInt8) (q:aU) (R:qI) (c:cu):cu:=
 if R.e=0∧mD q then { Kg (tl R.st) (mY R.e R.st.rev c) with aN:=c.aN || decide (q.kind=9) } else mY R.e R.st.rev c
noncomputable def mE (tl:ak→List UInt8) (H:ig) (k:Nat) (q:aU):ig:=
 let R:=iI H.st H.now (iR H.st H.now q)
 let H1:ig:=⟨R.st,R.now,upd H.cs k (kU tl q R (H.cs k))⟩
 if R.ch=true then pH tl H1 (cM H.st R.st) else H1
noncomputable def iX (tl:ak→List UInt8) (rq:ByteArray→aU × Int) (H:ig) (k:Nat) (f:dF):ig:=
 if f.ver≠3∨f.kind≠3 then mZ H k 1 else if (rq f.pay).2≠0 then mZ H k (rq f.pay).2 else mE tl H k (rq f.pay).1
noncomputable def eL (tl:ak→List UInt8) (rq:ByteArray→aU × Int) (k:Nat):ig→List dF→ig
 | H,[]=>H
 | H,f :: fs=>eL tl rq k (if (H.cs k).closed=true then H else iX tl rq H k f) fs
def zM (c:cu) (s:ByteArray) (m e:Nat):cu:={ c with rest:=if e=3 then s.extract m s.size else ⟨#[]⟩,far:=c.far+m,stuck:=if e=3 then 0 else e }
noncomputable def pK (tl:ak→List UInt8) (rq:ByteArray→aU × Int) (H:ig) (k:Nat) (s:ByteArray) (fs:List dF) (m e:Nat):ig:=
 let H2:=eL tl rq k { H with cs:=upd H.cs k (zM (H.cs k) s m e) } fs
 if e≠3∧(H2.cs k).closed=false then mZ H2 k e else H2
def Dt (c:cu):cu:={ c with waits:=[] }
def L8 (H:ig) (k:Nat):ig:={ H with cs:=upd H.cs k (Dt (H.cs k)) }
def xY (st:ak):ig:=⟨st,0,fun _=>⟨⟨#[]⟩,0,0,false,false,[]⟩⟩
theorem zK (D:aM):(lG D).1.size≤6000:=by
 unfold lG
 split
 · split
   · exact Nat.zero_le _
   · rename_i h
     show ((iD D).toArray).size≤6000
     rw [List.size_toArray]; omega
 · exact Nat.zero_le _
end Go.Proofs.YtoeejfhdjmkpcaaGreatDoor
/- The walks of a hub: tell's contract, close, of. -/
namespace Go.Proofs.YtoeejfhdjmkpcaaGreatDoor
open Go.Lib (hid)
open Go.RowKit
def iQ (g V:Nat) (fb:Nat→Nat) (wv:Nat→Value) (H:ig) (r:Value) (w:World) (e:Ending) (w':World):Prop:=
 e = .returned r∧∃ wv' x',cC w' g V fb wv' H.cs H.st x' H.now∧dO g V fb wv wv' w w'
theorem dO.put {g V k:Nat} {fb:Nat→Nat} {wv:Nat→Value} {w w1 w':World} {v':Value} (hs:Gr (rQ g V fb wv) w w') (hg:cE w w1 (wv k) v'):dO g V fb wv (upd wv k v') w w':=
 ⟨hs,fun i hi=>by
  by_cases e:i=k
  · subst e
    rw [cJ]
    rcases hg.own with h | h
    · exact .inr (.inl h)
    · exact .inr (.inr h)
  · rw [upd_ne _ _ e]; exact .inr (.inl rfl)⟩
theorem gM.hub {g V k:Nat} {fb:Nat→Nat} {wv:Nat→Value} {cs:Nat→cu} {st:ak} {x:StA} {now:Int} {w w':World} {e:Ending} {L:List UInt8} (h:cC w g V fb wv cs st x now) (hk:k<8) (hp:gM g (1+k*4+3) (wv k) L w e w') :
 e = .returned (.tuple #[])∧∃ wv',cC w' g V fb wv' (upd cs k { cs k with waits:=L }) st x now∧dO g V fb wv wv' w w':=by
 obtain⟨h1,w1,v',h2,h3,rfl⟩:=hp
 obtain⟨h4,_,h6⟩:=h.put hk h3 h2
 exact⟨h1,_,h4,.put h6 h3⟩
def tD (tl:ak→List UInt8):Prop:=
 ∀ (g o V:Nat) (T:TypeId) (cs:Array Value) (v:Value) (l:List UInt8) (st:ak) (x:StA) (now:Int) (w:World),Blk w g T cs→T ≠ 5 → cs[0]? = some (.pointer (some ⟨V,0,none⟩))→cs[o+3]? = some v→ByteRow w v l→l.length≤35184372088832→SrvAt w 109 V st x now→Tabs w →
  Calls Tryz.prog 198 #[.pointer (some ⟨g,0,none⟩),.pointer (some ⟨g,o,none⟩)] w (gM g (o+3) v (l ++ tl st) w)
theorem L9 (g:Nat) (k:Nat) (w:World) (hk:k<8) :
 Calls Tryz.prog 111 #[.pointer (some ⟨g,0,none⟩),.int .i64 (k:Int)] w fun e w'=>e = .returned (.pointer (some ⟨g,1+k*4,none⟩))∧Below w.heap.size w w':=by
 go_enter Tryz.func111,Tryz.ntmps111
 go_wp2
 go_ret
 exact⟨rfl,Below.refl _ _⟩
theorem cC.set0 {w:World} {g V k:Nat} {fb:Nat→Nat} {wv:Nat→Value} {cs:Nat→cu} {st:ak} {x:StA} {now:Int} {c0:cu} (h:cC w g V fb wv (upd cs k c0) st x now) (hk:k<8) (b:Bool) :
 cC (w.setCell ⟨g,1+k*4+1,none⟩ (.bool b)) g V fb wv (upd cs k { c0 with closed:=b }) st x now∧Gr (rQ g V fb wv) w (w.setCell ⟨g,1+k*4+1,none⟩ (.bool b)):=by
 have h1:=h.cell hk (j:=1+k*4+1) (u:=.bool b) (c:={ c0 with closed:=b }) (v:=wv k) (by rw [pI]; exact xV hk { c0 with closed:=b } (by rw [cJ])) (by rw [cJ]) (by rw [cJ]) (by rw [cJ]) (.inl ⟨rfl,by rw [cJ]⟩)
 rw [pI,wS] at h1
 exact h1
theorem cC.set1 {w:World} {g V k:Nat} {fb:Nat→Nat} {wv:Nat→Value} {cs:Nat→cu} {st:ak} {x:StA} {now:Int} {c0:cu} (h:cC w g V fb wv (upd cs k c0) st x now) (hk:k<8) (b:Bool) :
 cC (w.setCell ⟨g,1+k*4+2,none⟩ (.bool b)) g V fb wv (upd cs k { c0 with aN:=b }) st x now∧Gr (rQ g V fb wv) w (w.setCell ⟨g,1+k*4+2,none⟩ (.bool b)):=by
 have h1:=h.cell hk (j:=1+k*4+2) (u:=.bool b) (c:={ c0 with aN:=b }) (v:=wv k) (by rw [pI]; exact uT hk { c0 with aN:=b } (by rw [cJ])) (by rw [cJ]) (by rw [cJ]) (by rw [cJ]) (.inl ⟨rfl,by rw [cJ]⟩)
 rw [pI,wS] at h1
 exact h1
theorem dO.gr_ {g V:Nat} {fb:Nat→Nat} {wv wv':Nat→Value} {w w1 w':World} (h:dO g V fb wv wv' w w1) (hg:Gr (rQ g V fb wv') w1 w'):dO g V fb wv wv' w w':=h.trans ⟨hg,fun _ _=>.inr (.inl rfl)⟩
theorem uU {g V k:Nat} {fb:Nat→Nat} {wv:Nat→Value} {H:ig} {x:StA} (w:World) (h:cC w g V fb wv H.cs H.st x H.now) (hk:k<8) (E:Int) (hl:(H.cs k).waits.length≤35184372088832) :
 Calls Tryz.prog 113 #[.pointer (some ⟨g,0,none⟩),.pointer (some ⟨g,1+k*4,none⟩),.int .i64 E] w (iQ g V fb wv (mZ H k E) (.tuple #[]) w):=by
 have HS:=hid (pM H.st x H.now V w h.srv)
 have c0:w.cell? ⟨g,0,none⟩=some (.pointer (some ⟨V,0,none⟩)):=by rw [h.blk.cell]; exact uS
 have hlt:=h.blk.lt
 have Hh:=hid h
 have Hl:=hid hl
 obtain⟨rev,hrev⟩:∃ r,H.st.rev=r:=⟨_,rfl⟩
 have tL:=hid hrev
 clear h hl hrev
 go_enter Tryz.func113,Tryz.ntmps113
 go_wp2_with fail
 refine Calls.mono HS.out ?_
 rintro e w1 ⟨y,rfl,_,hb1⟩
 have h1:=Hh.out.below hb1
 have HR:=hid (xU g (1+k*4) 184 _ (wv k) _ E H.st.rev w1 h1.blk (by decide) (iH hk) (h1.wait k hk) Hl.out)
 rw [tL.out] at HR
 have H1:=hid h1
 have Hb1:=hid hb1
 have hlt1:=h1.blk.lt
 unfold stC
 rw [tL.out]
 clear h1 hb1 HS c0
 have hf:∀ W,(Instr.field 26 (.agg #[.int .i64 rev,.slice y.aj y.nj y.cj,.slice y.an y.nn y.cn,.slice y.al y.nl y.cl]) 0).run Tryz.prog W = .ok (.int .i64 rev) W:=fun _=>by kernel_rfl
 go_wp2_with fail
 refine Calls.mono HR.out ?_
 rintro e w2 hp
 obtain⟨rfl,wv',h2,ht⟩:=hp.hub H1.out hk
 obtain⟨h3,hg3⟩:=h2.set0 hk true
 have y0:w2.cell? ⟨g,1+k*4+1,none⟩=some (.bool (H.cs k).closed):=by rw [h2.blk.cell,kJ hk,cJ]
 have z0:w2.frozen? ⟨g,1+k*4+1,none⟩=false:=h2.blk.thaw _
 have hlt2:=h2.blk.lt
 have H3:=hid h3
 have HT:=hid (((dO.refl g V fb wv w).below_ Hb1.out).trans ht |>.gr_ hg3)
 clear hp h2 ht h3 hg3 HR
 go_wp2
 go_end0
 refine⟨rfl,wv',x,?_,HT.out⟩
 have:=H3.out
 rw [← tL.out] at this
 exact this
end Go.Proofs.YtoeejfhdjmkpcaaGreatDoor
/- What a hub does: what stays within bounds: plain. -/
namespace Go.Proofs.YtoeejfhdjmkpcaaGreatDoor
open Go.Lib (hid)
section
variable {tl:ak→List UInt8} {rq:ByteArray→aU × Int}
theorem tG {k:Nat} {f:dF}:∀ {fs:List dF} {n:Nat} {H:ig},fs[n]? = some f→eL tl rq k H (fs.take (n+1))=(if ((eL tl rq k H (fs.take n)).cs k).closed=true then eL tl rq k H (fs.take n) else iX tl rq (eL tl rq k H (fs.take n)) k f)
 | [],_,_,h=>by simp at h
 | a :: fs,0,H,h=>by
  have e:a=f:=by simpa using h
  subst e
  rfl
 | a :: fs,n+1,H,h=>by
  have h':fs[n]? = some f:=by simpa using h
  show eL tl rq k _ (fs.take (n+1))=_
  rw [tG h']
  rfl
theorem B2 (st:ak) (b:ByteArray) (e:Int) (c:cu):(oK tl st b e c).aN=c.aN:=by
 unfold oK
 split
 · rfl
 · split <;> rfl
theorem xZ (H:ig) (D:aM) (i:Nat):((pH tl H D).cs i).aN=(H.cs i).aN:=by
 show (jF tl H.st (lG D).1 (lG D).2 H.cs 8 i).aN=_
 unfold jF
 split
 · exact B2 _ _ _ _
 · rfl
theorem qE {cs:Nat→cu} {k i:Nat} {c:cu} (h:c.aN=(cs k).aN):(upd cs k c i).aN=(cs i).aN:=by
 by_cases e:i=k
 · subst e; rw [cJ]; exact h
 · rw [upd_ne _ _ e]
theorem AE {H:ig} {k:Nat} {f:dF} (hn:¬ mD (rq f.pay).1) (i:Nat):((iX tl rq H k f).cs i).aN=(H.cs i).aN:=by
 unfold iX
 split
 · exact qE rfl
 · split
   · exact qE rfl
   · unfold mE
     have ha:(kU tl (rq f.pay).1 (iI H.st H.now (iR H.st H.now (rq f.pay).1)) (H.cs k)).aN=(H.cs k).aN:=by
      unfold kU
      rw [if_neg (fun h=>hn h.2)]
      rfl
     dsimp only
     split
     · exact (xZ _ _ i).trans (qE ha)
     · exact qE ha
theorem rS (e r:Int) (c:cu):(mY e r c).waits.length≤c.waits.length+6020:=by
 show (c.waits ++ gU 3 4 _).length≤_
 have h2:=tE 3 4 (jR e r).1.data.toList (by have:=mQ e r; simp; omega)
 rw [List.length_append]; omega
theorem B3 (htl:∀ st,(tl st).length≤7000) (st:ak) (c:cu):(Kg (tl st) c).waits.length≤c.waits.length+7000:=by
 show (c.waits ++ tl st).length≤_
 have:=htl st
 rw [List.length_append]; omega
theorem FO (htl:∀ st,(tl st).length≤7000) (st:ak) (D:aM) (c:cu):(oK tl st (lG D).1 (lG D).2 c).waits.length≤c.waits.length+7000:=by
 unfold oK
 split
 · omega
 · split
   · show (c.waits ++ gU 3 2 _).length≤_
     have h2:=tE 3 2 (lG D).1.data.toList (by have:=zK D; simpa using this)
     rw [List.length_append]; omega
   · exact B3 htl _ _
theorem AF {cs:Nat→cu} {k:Nat} {c:cu} {n:Nat} (h:c.waits.length≤(cs k).waits.length+n) (i:Nat):(upd cs k c i).waits.length≤(cs i).waits.length+n:=by
 by_cases e:i=k
 · subst e; rw [cJ]; exact h
 · rw [upd_ne _ _ e]; omega
theorem Dx (htl:∀ st,(tl st).length≤7000) (H:ig) (k:Nat) (f:dF) (i:Nat):((iX tl rq H k f).cs i).waits.length≤(H.cs i).waits.length+21000:=by
 have hc:∀ e,((mZ H k e).cs i).waits.length≤(H.cs i).waits.length+21000:=fun e=>AF (c:=IN e H.st.rev (H.cs k)) (n:=21000) (Nat.le_trans (rS e H.st.rev (H.cs k)) (by omega)) i
 unfold iX
 split
 · exact hc _
 · split
   · exact hc _
   · unfold mE
     have ha:(kU tl (rq f.pay).1 (iI H.st H.now (iR H.st H.now (rq f.pay).1)) (H.cs k)).waits.length≤(H.cs k).waits.length+14000:=by
      unfold kU
      split
      · refine Nat.le_trans (B3 htl _ _) ?_
        have:=rS (iI H.st H.now (iR H.st H.now (rq f.pay).1)).e (iI H.st H.now (iR H.st H.now (rq f.pay).1)).st.rev (H.cs k)
        omega
      · refine Nat.le_trans (rS _ _ _) ?_; omega
     dsimp only
     split
     · have h2:∀ (G:ig) (D:aM),((pH tl G D).cs i).waits.length≤(G.cs i).waits.length+7000:=fun G D=>by
        show (jF tl G.st (lG D).1 (lG D).2 G.cs 8 i).waits.length≤_
        unfold jF
        split
        · exact FO htl _ _ _
        · omega
       refine Nat.le_trans (h2 _ _) ?_
       have:=AF (cs:=H.cs) (k:=k) ha i
       dsimp only at this ⊢
       omega
     · refine Nat.le_trans (AF (cs:=H.cs) (k:=k) ha i) ?_
       omega
theorem pL {k:Nat} (htl:∀ st,(tl st).length≤7000):∀ (fs:List dF) (H:ig),(∀ i,((eL tl rq k H fs).cs i).waits.length≤(H.cs i).waits.length+fs.length*21000)∧((∀ f ∈ fs,¬ mD (rq f.pay).1)→∀ i,((eL tl rq k H fs).cs i).aN=(H.cs i).aN)
 | [],H=>⟨fun _=>Nat.le_add_right _ _,fun _ _=>rfl⟩
 | f :: fs,H=>by
  obtain⟨h1,h2⟩:=pL (k:=k) htl fs (if (H.cs k).closed=true then H else iX tl rq H k f)
  refine⟨fun i=>?_,fun hn i=>?_⟩
  · refine Nat.le_trans (h1 i) ?_
    rw [List.length_cons]
    split
    · omega
    · have:=Dx (rq:=rq) htl H k f i; omega
  · refine (h2 (fun g hg=>hn g (List.mem_cons_of_mem _ hg)) i).trans ?_
    split
    · rfl
    · exact AE (hn f List.mem_cons_self) i
end
end Go.Proofs.YtoeejfhdjmkpcaaGreatDoor
/- What lies between two states leads from one to the other: plain. -/
namespace Go.Proofs.YtoeejfhdjmkpcaaGreatDoor
open Go.Lib (hid)
open Go.Op (bytesLess)
section
variable {α:Type} {key:α→ByteArray}
theorem tM {a b:List α} {z:α}:z ∈ newL a b↔z ∈ b∧z ∉ a:=by
 unfold newL
 rw [List.mem_filter]
 refine and_congr_right fun _=>?_
 rw [Bool.not_eq_true',← Bool.not_eq_true,List.any_eq_true]
 constructor
 · exact fun h hz=>h ⟨z,hz,by simp [eqB]⟩
 · rintro h ⟨x,hx,he⟩
   have:z=x:=by simpa [eqB] using he
   exact h (this ▸ hx)
theorem tN {a b:List α} {s:ByteArray}:s ∈ bM key a b↔∃ x ∈ a,key x=s∧∀ y ∈ b,key y≠s:=by
 unfold bM
 rw [List.mem_map]
 constructor
 · rintro⟨x,hx,rfl⟩
   obtain⟨h1,h2⟩:=List.mem_filter.1 hx
   refine⟨x,h1,rfl,fun y hy e=>?_⟩
   rw [Bool.not_eq_true',← Bool.not_eq_true,List.any_eq_true] at h2
   exact h2 ⟨y,hy,by simpa using e⟩
 · rintro⟨x,hx,rfl,h⟩
   refine⟨x,List.mem_filter.2 ⟨hx,?_⟩,rfl⟩
   rw [Bool.not_eq_true',← Bool.not_eq_true,List.any_eq_true]
   rintro⟨y,hy,e⟩
   exact h y hy (by simpa using e)
theorem ng {a b:List α} (ha:aK key a) (hb:aK key b):bV key a (newL a b) (bM key a b)=b:=by
 have hA:=cF ha
 have hB:=cF hb
 have hs:aK key (newL a b):=List.Pairwise.filter _ hb
 refine (zq ha hs hb fun z=>?_).symm
 have uniq:∀ {l:List α},l.Pairwise (fun a b=>key a≠key b)→∀ {x y:α},x ∈ l→y ∈ l→key x=key y→x=y:=by
  intro l hl x y hx hy e
  have h1:=jW hl hx
  have h2:=jW hl hy
  rw [e,h2] at h1
  injection h1 with h1
  exact h1.symm
 constructor
 · intro hz
   unfold eA
   by_cases hza:z ∈ a
   · have hf:(newL a b).find? (fun x=>decide (key x=key z))=none:=by
      rw [List.find?_eq_none]
      intro x hx hk
      obtain⟨h1,h2⟩:=tM.1 hx
      exact h2 (uniq hB h1 hz (by simpa using hk) ▸ hza)
     rw [hf]
     dsimp only
     rw [if_neg]
     · exact jW hA hza
     · rw [List.any_eq_true]
       rintro⟨q,hq,e⟩
       obtain⟨x,_,_,h3⟩:=tN.1 hq
       exact h3 z hz (by simpa using Eq.symm (by simpa using e))
   · rw [jW (cF hs) (tM.2 ⟨hz,hza⟩)]
 · intro h
   unfold eA at h
   cases hf:(newL a b).find? (fun x=>decide (key x=key z)) with
   | some y=>
    rw [hf] at h
    injection h with h
    subst h
    exact (tM.1 (nA hf).2).1
   | none=>
    rw [hf] at h
    dsimp only at h
    split at h
    · cases h
    · rename_i hg
      obtain⟨_,hza⟩:=nA h
      rw [List.any_eq_true] at hg
      have hy:∃ y ∈ b,key y=key z:=Classical.byContradiction fun hn=>hg ⟨key z,tN.2 ⟨z,hza,rfl,fun y hy e=>hn ⟨y,hy,e⟩⟩,by simp⟩
      obtain⟨y,hyb,hyk⟩:=hy
      by_cases hya:y ∈ a
      · rw [← uniq hA hya hza hyk]; exact hyb
      · have:=List.find?_eq_none.1 hf y (tM.2 ⟨hyb,hya⟩)
        simp [hyk] at this
theorem wH {a b:List α}:aY key a (bM key a b)=false:=by
 unfold aY
 rw [← Bool.not_eq_true,List.any_eq_true]
 rintro⟨s,hs,h⟩
 obtain⟨x,hx,e,_⟩:=tN.1 hs
 rw [Bool.not_eq_true',← Bool.not_eq_true,List.any_eq_true] at h
 exact h ⟨x,hx,by simpa using e⟩
theorem zO {has:ByteArray→Bool}:∀ (p:Option ByteArray) (l:List ByteArray),(∀ s ∈ l,bR s=true∧before p s=true∧has s=false)→l.Pairwise (fun a b=>bytesLess a.toList b.toList=true)→cY has p l=0
 | _,[],_,_=>rfl
 | p,s :: l,h,hs=>by
  obtain⟨h1,h2⟩:=List.pairwise_cons.1 hs
  obtain⟨a,b,c⟩:=h s List.mem_cons_self
  rw [cY,if_pos a,if_pos b,if_neg (by rw [c]; simp)]
  exact zO (some s) l (fun y hy=>⟨(h y (List.mem_cons_of_mem _ hy)).1,h1 y hy,(h y (List.mem_cons_of_mem _ hy)).2.2⟩) h2
theorem ow {a b:List α} (ha:aK key a) (hn:∀ x ∈ a,bR (key x)=true):kH (fun s=>((newL a b).find? fun x=>decide (key x=s)).isSome) (bM key a b)=0:=by
 refine zO none _ (fun s hs=>?_) ?_
 · obtain⟨x,hx,e,h3⟩:=tN.1 hs
   refine⟨e ▸ hn x hx,rfl,?_⟩
   rw [← Bool.not_eq_true,List.find?_isSome]
   rintro⟨y,hy,hk⟩
   exact h3 y (tM.1 hy).1 (by simpa using hk)
 · unfold bM
   rw [List.pairwise_map]
   exact List.Pairwise.filter _ ha
end
theorem vR {st:ak} (h:aG st=0) {l:ah} (hl:l ∈ st.leases):bR l.job=true∧bR l.node=true∧ranged l.till 0 1099511627776=true:=by
 obtain⟨_,_,h3,h4,h5,_⟩:=bC.1 h
 have he:=eQ h5 hl
 unfold fN at he
 split at he
 · rename_i h1
   split at he
   · rename_i h2
     simp only [Bool.and_eq_true] at h1
     obtain⟨j,hj⟩:=Option.isSome_iff_exists.1 h1.1
     obtain⟨n,hn⟩:=Option.isSome_iff_exists.1 h1.2
     have hje:j.name=l.job:=by simpa using List.find?_some hj
     have hne:n.name=l.node:=by simpa using List.find?_some hn
     have a:=(gP (eQ h3 (List.mem_of_find?_eq_some hj))).1
     have b:=(jT (eQ h4 (List.mem_of_find?_eq_some hn))).1
     rw [hje] at a
     rw [hne] at b
     exact⟨a,b,h2⟩
   · cases he
 · cases he
theorem Mb {st:ak} (h:aG st=0) {l:ah} (hl:l ∈ st.leases):lsE l=0:=by
 obtain⟨a,b,c⟩:=vR h hl
 unfold lsE
 rw [if_pos (by simp [a,b]),if_pos c]
theorem qR {a b:ak} (ha:aG a=0) (hb:aG b=0) (hr:a.rev<b.rev):cD (cM a b)=0:=by
 obtain⟨a1,a2,a3,a4,a5,_⟩:=bC.1 ha
 obtain⟨b1,b2,b3,b4,b5,_⟩:=bC.1 hb
 have r1:=aZ.1 a1
 have r2:=aZ.1 b1
 have t1:jk (cM a b)=true:=by
  unfold jk
  simp only [Bool.and_eq_true,decide_eq_true_eq,aZ]
  show ((0≤a.rev∧a.rev≤1099511627776)∧a.rev<b.rev)∧b.rev≤1099511627776
  omega
 have t2:iV (cM a b)=true:=by
  unfold dP at a2 b2
  unfold iV
  simp only [Bool.and_eq_true,decide_eq_true_eq] at a2 b2 ⊢
  have e1:=nN a.jobs b.jobs
  have e2:=nN a.nodes b.nodes
  have e3:=nN a.leases b.leases
  have e4:=lS aA.name a.jobs b.jobs
  have e5:=lS av.name a.nodes b.nodes
  have e6:=lS ah.job a.leases b.leases
  show (((((newL a.jobs b.jobs).length≤40∧(newL a.leases b.leases).length≤40)∧(bM aA.name a.jobs b.jobs).length≤40)∧(bM ah.job a.leases b.leases).length≤40)∧(newL a.nodes b.nodes).length≤20)∧(bM av.name a.nodes b.nodes).length≤20
  omega
 unfold cD
 rw [if_neg (by rw [t1]; simp),if_neg (by rw [t2]; simp)]
 unfold mO
 rw [gA,gA,gA,gA,gA,gA]
 · rfl
 · exact ow (key:=ah.job) (bI a5) (fun x hx=>(vR ha hx).1)
 · exact ow (key:=av.name) (bI a4) (fun x hx=>(jT (eQ a4 hx)).1)
 · exact ow (key:=aA.name) (bI a3) (fun x hx=>(gP (eQ a3 hx)).1)
 · exact nO (E:=fN b) b5 List.filter_sublist (fun x hx _=>Mb hb (List.filter_sublist.subset hx))
 · exact nO (E:=eH) b4 List.filter_sublist (fun _ _ h=>h)
 · exact nO (E:=fE) b3 List.filter_sublist (fun _ _ h=>h)
theorem yY {a b:ak} (ha:aG a=0) (hb:aG b=0) (hr:a.rev<b.rev):gC a (cM a b)=(b,0):=by
 obtain⟨a1,a2,a3,a4,a5,_⟩:=bC.1 ha
 obtain⟨b1,b2,b3,b4,b5,_⟩:=bC.1 hb
 have e:jX a (cM a b)=b:=by
  unfold jX cM
  simp only
  rw [ng (bI a3) (bI b3),ng (bI a4) (bI b4),ng (bI a5) (bI b5)]
 unfold gC
 rw [if_neg (by simp [ha]),if_neg (by simp [qR ha hb hr]),if_neg (by simp [cM]),if_neg,e,if_neg (by simp [hb])]
 unfold cM
 simp only [wH]
 decide
end Go.Proofs.YtoeejfhdjmkpcaaGreatDoor
/- What Apply says, case by case: plain. -/
namespace Go.Proofs.YtoeejfhdjmkpcaaGreatDoor
open Go.Lib (hid)
open Go.Op (bytesLess)
section
variable {α:Type} {key:α→ByteArray}
theorem iS {E:α→Int} {l:List α} (h:bZ E key l=0):aK key l:=(iG none l h).2
theorem uG {rows set:List α} {gone:List ByteArray} {z:α} (h:z ∈ bV key rows set gone):z ∈ rows∨z ∈ set:=by
 unfold bV at h
 have gen:∀ (set l:List α),z ∈ set.foldl (iN key) l→z ∈ l∨z ∈ set:=by
  intro set
  induction set with
  | nil=>intro l h; exact .inl h
  | cons s set ih=>
   intro l h
   rw [List.foldl_cons] at h
   rcases ih _ h with h1 | h1
   · unfold iN at h1
     rcases (gy s z l false).1 h1 with h2 | h2
     · exact .inr (by rw [h2.2]; exact List.mem_cons_self)
     · exact .inl h2.1
   · exact .inr (List.mem_cons_of_mem _ h1)
 rcases gen _ _ h with h1 | h1
 · exact .inl (List.mem_filter.1 h1).1
 · exact .inr h1
end
theorem x9 {has:ByteArray→Bool}:∀ (p:Option ByteArray) (l:List ByteArray),cY has p l=0→(∀ x ∈ l,before p x=true)∧l.Pairwise fun a b=>bytesLess a.toList b.toList=true
 | _,[],_=>⟨by simp,List.Pairwise.nil⟩
 | p,s :: l,h=>by
  rw [cY] at h
  by_cases h1:bR s=true
  · rw [if_pos h1] at h
    by_cases h2:before p s=true
    · rw [if_pos h2] at h
      by_cases h3:has s=true
      · rw [if_pos h3] at h; omega
      · rw [if_neg h3] at h
        obtain⟨i1,i2⟩:=x9 (some s) l h
        refine⟨fun y hy=>?_,List.pairwise_cons.2 ⟨fun y hy=>i1 y hy,i2⟩⟩
        rcases List.mem_cons.1 hy with rfl | hy
        · exact h2
        · have h4:=i1 y hy
          unfold before at h2 h4 ⊢
          cases p with
          | none=>rfl
          | some q=>exact nX _ _ _ h2 h4
    · rw [if_neg h2] at h; omega
  · rw [if_neg h1] at h; omega
theorem AG {has:ByteArray→Bool} {l:List ByteArray} (h:kH has l=0):l.Pairwise fun a b=>a≠b:=
 (x9 none l h).2.imp fun {a b} hlt e=>by rw [e,kG] at hlt; cases hlt
theorem vS:∀ {l:List Int},iA l=0→∀ e ∈ l,e=0
 | [],_,e,he=>by cases he
 | a :: l,h,e,he=>by
  unfold iA at h
  split at h
  · rename_i h0
    rcases List.mem_cons.1 he with rfl | he
    · exact h0
    · exact vS h e he
  · rename_i h0; exact absurd h h0
structure Mc (s:ak) (d:aM):Prop where
 sj:aK aA.name s.jobs
 sn:aK av.name s.nodes
 sl:aK ah.job s.leases
 dj:aK aA.name d.jobs
 dn:aK av.name d.nodes
 dl:aK ah.job d.leases
 gj:d.gj.Pairwise fun a b=>a≠b
 gn:d.gn.Pairwise fun a b=>a≠b
 gl:d.gl.Pairwise fun a b=>a≠b
 nsj:s.jobs.length≤40
 nsn:s.nodes.length≤20
 nsl:s.leases.length≤40
 ndj:d.jobs.length≤40
 ndn:d.nodes.length≤20
 ndl:d.leases.length≤40
 ngj:d.gj.length≤40
 ngn:d.gn.length≤20
 ngl:d.gl.length≤40
theorem B4 {s:ak} (h:aG s=0):dP s=true∧bZ fE aA.name s.jobs=0∧bZ eH av.name s.nodes=0∧bZ (fN s) ah.job s.leases=0:=by
 unfold aG at h
 split at h
 · omega
 · split at h
   · omega
   · rename_i h2
     split at h
     · rename_i h3; exact absurd h h3
     · rename_i h3
       split at h
       · rename_i h4; exact absurd h h4
       · rename_i h4
         split at h
         · rename_i h5; exact absurd h h5
         · rename_i h5
           exact⟨by simpa using h2,by simpa using h3,by simpa using h4,by simpa using h5⟩
theorem LH {s:ak} {d:aM} (h1:aG s=0) (h2:cD d=0):Mc s d:=by
 obtain⟨a1,a2,a3,a4⟩:=B4 h1
 unfold dP at a1
 simp only [Bool.and_eq_true,decide_eq_true_eq] at a1
 unfold cD at h2
 split at h2
 · omega
 · split at h2
   · omega
   · rename_i h3
     have h3':iV d=true:=by simpa using h3
     unfold iV at h3'
     simp only [Bool.and_eq_true,decide_eq_true_eq] at h3'
     have hr:=vS h2
     unfold mO at hr
     simp only [List.mem_cons,List.not_mem_nil,or_false,forall_eq_or_imp,forall_eq] at hr
     obtain⟨r1,r2,r3,r4,r5,r6⟩:=hr
     exact⟨iS a2,iS a3,iS a4,iS r1,iS r2,iS r3,AG r4,AG r5,AG r6,by omega,by omega,by omega,by omega,by omega,by omega,by omega,by omega,by omega⟩
section
variable {s:ak} {d:aM}
theorem GL (h:aG s≠0):gC s d=(dE,aG s):=by unfold gC; rw [if_pos h]
theorem GM (h:aG s=0) (h2:cD d≠0):gC s d=(dE,cD d):=by unfold gC; rw [if_neg (by simp [h]),if_pos h2]
theorem LF (h:aG s=0) (h2:cD d=0) (h3:d.from_≠s.rev):gC s d=(dE,10):=by unfold gC; rw [if_neg (by simp [h]),if_neg (by simp [h2]),if_pos h3]
theorem JM (h:aG s=0) (h2:cD d=0) (h3:d.from_=s.rev) (h4:(aY aA.name s.jobs d.gj || aY av.name s.nodes d.gn || aY ah.job s.leases d.gl)=true):gC s d=(dE,6):=by
 unfold gC; rw [if_neg (by simp [h]),if_neg (by simp [h2]),if_neg (by simp [h3]),if_pos h4]
theorem LG (h:aG s=0) (h2:cD d=0) (h3:d.from_=s.rev) (h4:aY aA.name s.jobs d.gj=false) (h5:aY av.name s.nodes d.gn=false) (h6:aY ah.job s.leases d.gl=false) (h7:aG (jX s d)≠0) :
 gC s d=(dE,aG (jX s d)):=by
 unfold gC; rw [if_neg (by simp [h]),if_neg (by simp [h2]),if_neg (by simp [h3]),if_neg (by simp [h4,h5,h6]),if_pos h7]
theorem MC (h:aG s=0) (h2:cD d=0) (h3:d.from_=s.rev) (h4:aY aA.name s.jobs d.gj=false) (h5:aY av.name s.nodes d.gn=false) (h6:aY ah.job s.leases d.gl=false) (h7:aG (jX s d)=0) :
 gC s d=(jX s d,0):=by
 unfold gC; rw [if_neg (by simp [h]),if_neg (by simp [h2]),if_neg (by simp [h3]),if_neg (by simp [h4,h5,h6]),if_neg (by simp [h7])]
end
end Go.Proofs.YtoeejfhdjmkpcaaGreatDoor
