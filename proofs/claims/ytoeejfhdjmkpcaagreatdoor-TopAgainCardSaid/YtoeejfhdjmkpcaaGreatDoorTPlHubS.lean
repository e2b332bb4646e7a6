/- Of the proof of a statement: HubC, PlHub, PlHubS. -/
import Derived.Test.YtoeejfhdjmkpcaaGreatDoorTHubMem
set_option linter.unusedVariables false
set_option linter.unusedSimpArgs false
set_option maxRecDepth 100000
set_option maxHeartbeats 8000000
/- The walks of a hub's connections: goes, reply, flush. -/
namespace Go.Proofs.YtoeejfhdjmkpcaaGreatDoor
open Go.Lib (hid)
open Go.RowKit
def fW (g o:Nat) (v:Value) (L:List UInt8) (w:World) (e:Ending) (w':World):Prop:=
 e = .returned (.tuple #[])∧∃ w1 v',ByteRow w1 v' L∧cu w w1 v v'∧w'=w1.setCell ⟨g,o,none⟩ v'
theorem cu.of_below {w w0 w':World} {v v':Value} (hb:Below w.heap.size w w0) (h:cu w0 w' v v'):cu w w' v v':=
 cu.trans ⟨⟨hb.os,hb.tape,hb.output,hb.size,fun k hk _=>hb.block k hk⟩,.inl rfl⟩ h
theorem fW.first {g o:Nat} {v:Value} {L:List UInt8} {w w0 w':World} {e:Ending} (hb:Below w.heap.size w w0) (h:fW g o v L w0 e w'):fW g o v L w e w':=by
 obtain⟨h1,w1,v',h2,h3,h4⟩:=h
 exact⟨h1,w1,v',h2,.of_below hb h3,h4⟩
theorem ByteRow.below {w w':World} {v:Value} {l:List UInt8} (h:ByteRow w v l) (hb:Below w.heap.size w w'):ByteRow w' v l:=
 h.keep fun b hb'=>hb.block b (by obtain⟨c,h1,_⟩:=h.blk hb'; exact h1.lt)
theorem qg (v k:Nat) (p:List UInt8) (hp:p.length≤6000):0<(gu v k p).length∧(gu v k p).length≤6020:=by
 have h4:(lL (lM v k p)).length=4:=rfl
 have hn:=dB p.length
 unfold gu
 rw [List.length_append,h4]
 simp only [lM,List.length_append,List.length_cons,List.length_nil]
 omega
theorem Ex {kind:Int} {p:ByteArray} (hk:1≤kind∧kind≤4) (hp:p.size≤6000):wL 3 kind p=(BA (gu 3 kind.toNat p.data.toList),0):=by
 unfold wL
 rw [if_neg (by omega),if_neg (by omega)]
 rfl
theorem zk (g o:Nat) (T:TypeId) (cs:Array Value) (v:Value) (l:List UInt8) (kind:Int) (p:ByteArray) (w:World) (hb:Blk w g T cs) (ht:T ≠ 5) (hc:cs[o+3]? = some v) (hr:ByteRow w v l) (hk:1≤kind∧kind≤4) (hp:p.size≤6000) (hl:l.length≤35184372088832) :
 Calls Tryz.prog 287 #[.pointer (some ⟨g,o,none⟩),.int .i64 kind,.string p] w (fW g (o+3) v (l ++ gu 3 kind.toNat p.data.toList) w):=by
 have hcon:=hid (By 3 kind p w)
 have hE:=Ex hk hp
 have hfl:=qg 3 kind.toNat p.data.toList (by simpa using hp)
 generalize hL:gu 3 kind.toNat p.data.toList=L at hE hfl ⊢
 have HE:=hid hE
 have HB:=hid hb
 have HC:=hid hc
 have HR:=hid hr
 have hbs:(BA L).size=L.length:=jQ L
 have hbl:(BA L).data.toList=L:=jr L
 have hlt:=hb.lt
 clear hL hE hb hc hr hk hp
 go_enter Tryz.func287,Tryz.ntmps287
 go_wp2_with fail
 refine Calls.mono hcon.out ?_
 rintro e w0 ⟨rfl,hb0⟩
 rw [HE.out]
 dsimp only
 have hB0:=HB.out.below hb0 HB.out.lt
 have y0:w0.cell? ⟨g,o+3,none⟩=some v:=by rw [hB0.cell]; exact HC.out
 have hlt0:=hB0.lt
 have HR0:=hid (HR.out.below hb0)
 have Hb0:=hid hb0
 have HB0:=hid hB0
 obtain⟨s,hs⟩:∃ s,BA L=s:=⟨_,rfl⟩
 rw [hs] at hbs hbl ⊢
 have HS:=hid hs
 have Hbl:=hid hbl
 clear hcon HE hb0 hB0 HB HR hs hbl
 go_wp2_with (at_builtin; refine Dp rfl _ _ rfl v l rfl HR0.out s rfl (by omega) (by omega) ?_; intro v' w1 hr1 hg1; rw [Hbl.out] at hr1; obtain⟨A',c',rfl⟩:=hr1.shape; have hB1:=nC HB0.out ht HR0.out hg1; have z0:w1.cell? ⟨g,o+3,none⟩=some v:=(hB1.cell _).trans HC.out; have zt:w1.frozen? ⟨g,o+3,none⟩=false:=hB1.thaw _; have HR1:=hid hr1; have HG1:=hid hg1; clear hr1 hg1 hB1)
 go_end0
 exact⟨rfl,_,_,HR1.out,.of_below Hb0.out HG1.out,by rw [List.length_append]⟩
theorem lg (c r:Int):(iX c r).1.size≤22:=by
 unfold iX
 split
 · have h1:=dB c.toNat
   have h2:=dB r.toNat
   show ((pq c r).toArray).size≤22
   rw [List.size_toArray,pq,List.length_append]
   omega
 · show 0≤22
   omega
theorem tJ (g o:Nat) (T:TypeId) (cs:Array Value) (v:Value) (l:List UInt8) (c r:Int) (w:World) (hb:Blk w g T cs) (ht:T ≠ 5) (hc:cs[o+3]? = some v) (hr:ByteRow w v l) (hl:l.length≤35184372088832) :
 Calls Tryz.prog 197 #[.pointer (some ⟨g,o,none⟩),.agg #[.int .i64 c,.int .i64 r]] w (fW g (o+3) v (l ++ gu 3 4 (iX c r).1.data.toList) w):=by
 obtain⟨W,hW⟩:∃ W,w.alloc (.cells #[.int .i64 c,.int .i64 r] 42)=W:=⟨_,rfl⟩
 have hbW:Below w.heap.size w W:=by rw [← hW]; exact (Below.refl _ _).alloc (Nat.le_refl _) _
 have hbB:Blk W w.heap.size 42 #[.int .i64 c,.int .i64 r]:=by rw [← hW]; exact heap_alloc_new w _
 have HR:=hid (Cp c r W)
 obtain⟨c0,c1⟩:=Blk.c2 (hbB)
 have hlt:=hbB.lt
 have HG:=hid (fun (w0:World) (h:Below W.heap.size W w0)=>(have h2:Below w.heap.size w w0:=hbW.trans (h.mono hbW.size); And.intro h2 (zk g o T cs v l 4 (iX c r).1 w0 (hb.below h2 hb.lt) ht hc (hr.below h2) (by omega) (Nat.le_trans (lg c r) (by omega)) hl)))
 have HW:=hid hW
 clear hW hbW hbB hb hc hr
 go_enter Tryz.func197,Tryz.ntmps197
 go_wp2_with fail
 try rw [HW.out]
 clear HW
 refine Calls.mono HR.out ?_
 rintro e w0 ⟨rfl,hb0⟩
 have H2:=hid (HG.out w0 hb0)
 clear HG hb0 HR c0 c1
 go_wp2_with fail
 refine Calls.mono H2.out.2 ?_
 rintro e w1 hp
 have HP:=hid (hp.first H2.out.1)
 obtain⟨rfl,_⟩:=hp
 clear H2
 go_wp2
 go_end0
 exact HP.out
def CA (g o:Nat) (l:List UInt8) (w:World) (e:Ending) (w':World):Prop:=e = .returned (.string (BA l))∧w'=w.setCell ⟨g,o,none⟩ (.slice none 0 0)
theorem rB (g o:Nat) (T:TypeId) (cs:Array Value) (v:Value) (l:List UInt8) (w:World) (hb:Blk w g T cs) (hc:cs[o+3]? = some v) (hr:ByteRow w v l) :
 Calls Tryz.prog 114 #[.pointer (some ⟨g,o,none⟩)] w (CA g (o+3) l w):=by
 obtain⟨A,c,rfl⟩:=hr.shape
 have hrun:=gJ (P:=Tryz.prog) Tryz.underlying129 Tryz.underlying5 Tryz.underlying9 hr.owns
 have y0:w.cell? ⟨g,o+3,none⟩=some (.slice A l.length c):=by rw [hb.cell]; exact hc
 have zt:w.frozen? ⟨g,o+3,none⟩=false:=hb.thaw _
 have hlt:=hb.lt
 clear hb hc hr
 go_enter Tryz.func114,Tryz.ntmps114
 go_wp2
 go_ret
 exact⟨rfl,rfl⟩
end Go.Proofs.YtoeejfhdjmkpcaaGreatDoor
/- What a hub does: plain. (tl: what it tells of a state; rq: what a request's bytes are.) -/
namespace Go.Proofs.YtoeejfhdjmkpcaaGreatDoor
open Go.Lib (hid)
structure gH where
 st:ah
 now:Int
 cs:Nat→bX
def Ed (k:Nat) (p:ByteArray) (c:bX):bX:={ c with waits:=c.waits ++ gu 3 k p.data.toList }
def lH (e r:Int) (c:bX):bX:=Ed 4 (iX e r).1 c
def F9 (l:List UInt8) (c:bX):bX:={ c with waits:=c.waits ++ l }
def Ey (e r:Int) (c:bX):bX:={ lH e r c with closed:=true }
def lE (H:gH) (k:Nat) (e:Int):gH:={ H with cs:=upd H.cs k (Ey e H.st.rev (H.cs k)) }
def mJ (tl:ah→List UInt8) (st:ah) (b:ByteArray) (e:Int) (c:bX):bX:=if c.closed=true∨c.aJ=false then c else if e=0 then Ed 2 b c else F9 (tl st) c
def iM (tl:ah→List UInt8) (st:ah) (b:ByteArray) (e:Int) (cs:Nat→bX) (n:Nat):Nat→bX:=fun i=>if i<n then mJ tl st b e (cs i) else cs i
def nB (tl:ah→List UInt8) (H:gH) (D:aX):gH:={ H with cs:=iM tl H.st (lT D).1 (lT D).2 H.cs 8 }
def kQ (q:aH):Prop:=q.kind=8∨q.kind=9
instance (q:aH):Decidable (kQ q):=by unfold kQ; exact inferInstance
def jK (tl:ah→List UInt8) (q:aH) (R:oC) (c:bX):bX:=
 if R.e=0∧kQ q then { F9 (tl R.st) (lH R.e R.st.rev c) with aJ:=c.aJ || decide (q.kind=9) } else lH R.e R.st.rev c
noncomputable def kR (tl:ah→List UInt8) (H:gH) (k:Nat) (q:aH):gH:=
 let R:=cW H.st H.now (dA H.st H.now q)
 let H1:gH:=⟨R.st,R.now,upd H.cs k (jK tl q R (H.cs k))⟩
 if R.ch=true then nB tl H1 (eQ H.st R.st) else H1
noncomputable def gY (tl:ah→List UInt8) (rq:ByteArray→aH × Int) (H:gH) (k:Nat) (f:cY):gH:=
 if f.ver≠3∨f.kind≠3 then lE H k 1 else if (rq f.pay).2≠0 then lE H k (rq f.pay).2 else kR tl H k (rq f.pay).1
noncomputable def dZ (tl:ah→List UInt8) (rq:ByteArray→aH × Int) (k:Nat):gH→List cY→gH
 | H,[]=>H
 | H,f :: fs=>dZ tl rq k (if (H.cs k).closed=true then H else gY tl rq H k f) fs
def vX (c:bX) (s:ByteArray) (m e:Nat):bX:={ c with rest:=if e=3 then s.extract m s.size else ⟨#[]⟩,far:=c.far+m,stuck:=if e=3 then 0 else e }
noncomputable def nE (tl:ah→List UInt8) (rq:ByteArray→aH × Int) (H:gH) (k:Nat) (s:ByteArray) (fs:List cY) (m e:Nat):gH:=
 let H2:=dZ tl rq k { H with cs:=upd H.cs k (vX (H.cs k) s m e) } fs
 if e≠3∧(H2.cs k).closed=false then lE H2 k e else H2
def AQ (c:bX):bX:={ c with waits:=[] }
def Iz (H:gH) (k:Nat):gH:={ H with cs:=upd H.cs k (AQ (H.cs k)) }
def uB (st:ah):gH:=⟨st,0,fun _=>⟨⟨#[]⟩,0,0,false,false,[]⟩⟩
theorem vV (D:aX):(lT D).1.size≤6000:=by
 unfold lT
 split
 · split
   · exact Nat.zero_le _
   · rename_i h
     show ((mV D).toArray).size≤6000
     rw [List.size_toArray]; omega
 · exact Nat.zero_le _
end Go.Proofs.YtoeejfhdjmkpcaaGreatDoor
/- What a hub does: what stays within bounds: plain. -/
namespace Go.Proofs.YtoeejfhdjmkpcaaGreatDoor
open Go.Lib (hid)
section
variable {tl:ah→List UInt8} {rq:ByteArray→aH × Int}
theorem qj {k:Nat} {f:cY}:∀ {fs:List cY} {n:Nat} {H:gH},fs[n]? = some f→dZ tl rq k H (fs.take (n+1))=(if ((dZ tl rq k H (fs.take n)).cs k).closed=true then dZ tl rq k H (fs.take n) else gY tl rq (dZ tl rq k H (fs.take n)) k f)
 | [],_,_,h=>by simp at h
 | a :: fs,0,H,h=>by
  have e:a=f:=by simpa using h
  subst e
  rfl
 | a :: fs,n+1,H,h=>by
  have h':fs[n]? = some f:=by simpa using h
  show dZ tl rq k _ (fs.take (n+1))=_
  rw [qj h']
  rfl
theorem zw (st:ah) (b:ByteArray) (e:Int) (c:bX):(mJ tl st b e c).aJ=c.aJ:=by
 unfold mJ
 split
 · rfl
 · split <;> rfl
theorem uC (H:gH) (D:aX) (i:Nat):((nB tl H D).cs i).aJ=(H.cs i).aJ:=by
 show (iM tl H.st (lT D).1 (lT D).2 H.cs 8 i).aJ=_
 unfold iM
 split
 · exact zw _ _ _ _
 · rfl
theorem om {cs:Nat→bX} {k i:Nat} {c:bX} (h:c.aJ=(cs k).aJ):(upd cs k c i).aJ=(cs i).aJ:=by
 by_cases e:i=k
 · subst e; rw [cD]; exact h
 · rw [upd_ne _ _ e]
theorem xA {H:gH} {k:Nat} {f:cY} (hn:¬ kQ (rq f.pay).1) (i:Nat):((gY tl rq H k f).cs i).aJ=(H.cs i).aJ:=by
 unfold gY
 split
 · exact om rfl
 · split
   · exact om rfl
   · unfold kR
     have ha:(jK tl (rq f.pay).1 (cW H.st H.now (dA H.st H.now (rq f.pay).1)) (H.cs k)).aJ=(H.cs k).aJ:=by
      unfold jK
      rw [if_neg (fun h=>hn h.2)]
      rfl
     dsimp only
     split
     · exact (uC _ _ i).trans (om ha)
     · exact om ha
theorem pC (e r:Int) (c:bX):(lH e r c).waits.length≤c.waits.length+6020:=by
 show (c.waits ++ gu 3 4 _).length≤_
 have h2:=qg 3 4 (iX e r).1.data.toList (by have:=lg e r; simp; omega)
 rw [List.length_append]; omega
theorem zx (htl:∀ st,(tl st).length≤7000) (st:ah) (c:bX):(F9 (tl st) c).waits.length≤c.waits.length+7000:=by
 show (c.waits ++ tl st).length≤_
 have:=htl st
 rw [List.length_append]; omega
theorem CB (htl:∀ st,(tl st).length≤7000) (st:ah) (D:aX) (c:bX):(mJ tl st (lT D).1 (lT D).2 c).waits.length≤c.waits.length+7000:=by
 unfold mJ
 split
 · omega
 · split
   · show (c.waits ++ gu 3 2 _).length≤_
     have h2:=qg 3 2 (lT D).1.data.toList (by have:=vV D; simpa using this)
     rw [List.length_append]; omega
   · exact zx htl _ _
theorem xB {cs:Nat→bX} {k:Nat} {c:bX} {n:Nat} (h:c.waits.length≤(cs k).waits.length+n) (i:Nat):(upd cs k c i).waits.length≤(cs i).waits.length+n:=by
 by_cases e:i=k
 · subst e; rw [cD]; exact h
 · rw [upd_ne _ _ e]; omega
theorem AW (htl:∀ st,(tl st).length≤7000) (H:gH) (k:Nat) (f:cY) (i:Nat):((gY tl rq H k f).cs i).waits.length≤(H.cs i).waits.length+21000:=by
 have hc:∀ e,((lE H k e).cs i).waits.length≤(H.cs i).waits.length+21000:=fun e=>xB (c:=Ey e H.st.rev (H.cs k)) (n:=21000) (Nat.le_trans (pC e H.st.rev (H.cs k)) (by omega)) i
 unfold gY
 split
 · exact hc _
 · split
   · exact hc _
   · unfold kR
     have ha:(jK tl (rq f.pay).1 (cW H.st H.now (dA H.st H.now (rq f.pay).1)) (H.cs k)).waits.length≤(H.cs k).waits.length+14000:=by
      unfold jK
      split
      · refine Nat.le_trans (zx htl _ _) ?_
        have:=pC (cW H.st H.now (dA H.st H.now (rq f.pay).1)).e (cW H.st H.now (dA H.st H.now (rq f.pay).1)).st.rev (H.cs k)
        omega
      · refine Nat.le_trans (pC _ _ _) ?_; omega
     dsimp only
     split
     · have h2:∀ (G:gH) (D:aX),((nB tl G D).cs i).waits.length≤(G.cs i).waits.length+7000:=fun G D=>by
        show (iM tl G.st (lT D).1 (lT D).2 G.cs 8 i).waits.length≤_
        unfold iM
        split
        · exact CB htl _ _ _
        · omega
       refine Nat.le_trans (h2 _ _) ?_
       have:=xB (cs:=H.cs) (k:=k) ha i
       dsimp only at this ⊢
       omega
     · refine Nat.le_trans (xB (cs:=H.cs) (k:=k) ha i) ?_
       omega
theorem nF {k:Nat} (htl:∀ st,(tl st).length≤7000):∀ (fs:List cY) (H:gH),(∀ i,((dZ tl rq k H fs).cs i).waits.length≤(H.cs i).waits.length+fs.length*21000)∧((∀ f ∈ fs,¬ kQ (rq f.pay).1)→∀ i,((dZ tl rq k H fs).cs i).aJ=(H.cs i).aJ)
 | [],H=>⟨fun _=>Nat.le_add_right _ _,fun _ _=>rfl⟩
 | f :: fs,H=>by
  obtain⟨h1,h2⟩:=nF (k:=k) htl fs (if (H.cs k).closed=true then H else gY tl rq H k f)
  refine⟨fun i=>?_,fun hn i=>?_⟩
  · refine Nat.le_trans (h1 i) ?_
    rw [List.length_cons]
    split
    · omega
    · have:=AW (rq:=rq) htl H k f i; omega
  · refine (h2 (fun g hg=>hn g (List.mem_cons_of_mem _ hg)) i).trans ?_
    split
    · rfl
    · exact xA (hn f List.mem_cons_self) i
end
end Go.Proofs.YtoeejfhdjmkpcaaGreatDoor
