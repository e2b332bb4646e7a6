/- Of the proof of a statement: HubT, DEnc, PlAgain. -/
import Derived.Test.YtoeejfhdjmkpcaaGreatDoorTPlHubS
set_option linter.unusedVariables false
set_option linter.unusedSimpArgs false
set_option maxRecDepth 100000
set_option maxHeartbeats 8000000
/- The walks of a hub: tell's contract, close, of. -/
namespace Go.Proofs.YtoeejfhdjmkpcaaGreatDoor
open Go.Lib (hid)
open Go.RowKit
def gR (g V:Nat) (fb:Nat→Nat) (wv:Nat→Value) (H:gH) (r:Value) (w:World) (e:Ending) (w':World):Prop:=
 e = .returned r∧∃ wv' x',bV w' g V fb wv' H.cs H.st x' H.now∧dE g V fb wv wv' w w'
theorem dE.put {g V k:Nat} {fb:Nat→Nat} {wv:Nat→Value} {w w1 w':World} {v':Value} (hs:Gr (oQ g V fb wv) w w') (hg:cu w w1 (wv k) v'):dE g V fb wv (upd wv k v') w w':=
 ⟨hs,fun i hi=>by
  by_cases e:i=k
  · subst e
    rw [cD]
    rcases hg.own with h | h
    · exact .inr (.inl h)
    · exact .inr (.inr h)
  · rw [upd_ne _ _ e]; exact .inr (.inl rfl)⟩
theorem fW.hub {g V k:Nat} {fb:Nat→Nat} {wv:Nat→Value} {cs:Nat→bX} {st:ah} {x:StA} {now:Int} {w w':World} {e:Ending} {L:List UInt8} (h:bV w g V fb wv cs st x now) (hk:k<8) (hp:fW g (1+k*4+3) (wv k) L w e w') :
 e = .returned (.tuple #[])∧∃ wv',bV w' g V fb wv' (upd cs k { cs k with waits:=L }) st x now∧dE g V fb wv wv' w w':=by
 obtain⟨h1,w1,v',h2,h3,rfl⟩:=hp
 obtain⟨h4,_,h6⟩:=h.put hk h3 h2
 exact⟨h1,_,h4,.put h6 h3⟩
def pQ (tl:ah→List UInt8):Prop:=
 ∀ (g o V:Nat) (T:TypeId) (cs:Array Value) (v:Value) (l:List UInt8) (st:ah) (x:StA) (now:Int) (w:World),Blk w g T cs→T ≠ 5 → cs[0]? = some (.pointer (some ⟨V,0,none⟩))→cs[o+3]? = some v→ByteRow w v l→l.length≤35184372088832→SrvAt w 109 V st x now→Tabs w →
  Calls Tryz.prog 198 #[.pointer (some ⟨g,0,none⟩),.pointer (some ⟨g,o,none⟩)] w (fW g (o+3) v (l ++ tl st) w)
theorem H9 (g:Nat) (k:Nat) (w:World) (hk:k<8) :
 Calls Tryz.prog 111 #[.pointer (some ⟨g,0,none⟩),.int .i64 (k:Int)] w fun e w'=>e = .returned (.pointer (some ⟨g,1+k*4,none⟩))∧Below w.heap.size w w':=by
 go_enter Tryz.func111,Tryz.ntmps111
 go_wp2
 go_ret
 exact⟨rfl,Below.refl _ _⟩
theorem bV.set0 {w:World} {g V k:Nat} {fb:Nat→Nat} {wv:Nat→Value} {cs:Nat→bX} {st:ah} {x:StA} {now:Int} {c0:bX} (h:bV w g V fb wv (upd cs k c0) st x now) (hk:k<8) (b:Bool) :
 bV (w.setCell ⟨g,1+k*4+1,none⟩ (.bool b)) g V fb wv (upd cs k { c0 with closed:=b }) st x now∧Gr (oQ g V fb wv) w (w.setCell ⟨g,1+k*4+1,none⟩ (.bool b)):=by
 have h1:=h.cell hk (j:=1+k*4+1) (u:=.bool b) (c:={ c0 with closed:=b }) (v:=wv k) (by rw [mU]; exact tI hk { c0 with closed:=b } (by rw [cD])) (by rw [cD]) (by rw [cD]) (by rw [cD]) (.inl ⟨rfl,by rw [cD]⟩)
 rw [mU,sM] at h1
 exact h1
theorem bV.set1 {w:World} {g V k:Nat} {fb:Nat→Nat} {wv:Nat→Value} {cs:Nat→bX} {st:ah} {x:StA} {now:Int} {c0:bX} (h:bV w g V fb wv (upd cs k c0) st x now) (hk:k<8) (b:Bool) :
 bV (w.setCell ⟨g,1+k*4+2,none⟩ (.bool b)) g V fb wv (upd cs k { c0 with aJ:=b }) st x now∧Gr (oQ g V fb wv) w (w.setCell ⟨g,1+k*4+2,none⟩ (.bool b)):=by
 have h1:=h.cell hk (j:=1+k*4+2) (u:=.bool b) (c:={ c0 with aJ:=b }) (v:=wv k) (by rw [mU]; exact qS hk { c0 with aJ:=b } (by rw [cD])) (by rw [cD]) (by rw [cD]) (by rw [cD]) (.inl ⟨rfl,by rw [cD]⟩)
 rw [mU,sM] at h1
 exact h1
theorem dE.gr_ {g V:Nat} {fb:Nat→Nat} {wv wv':Nat→Value} {w w1 w':World} (h:dE g V fb wv wv' w w1) (hg:Gr (oQ g V fb wv') w1 w'):dE g V fb wv wv' w w':=h.trans ⟨hg,fun _ _=>.inr (.inl rfl)⟩
theorem qT {g V k:Nat} {fb:Nat→Nat} {wv:Nat→Value} {H:gH} {x:StA} (w:World) (h:bV w g V fb wv H.cs H.st x H.now) (hk:k<8) (E:Int) (hl:(H.cs k).waits.length≤35184372088832) :
 Calls Tryz.prog 113 #[.pointer (some ⟨g,0,none⟩),.pointer (some ⟨g,1+k*4,none⟩),.int .i64 E] w (gR g V fb wv (lE H k E) (.tuple #[]) w):=by
 have HS:=hid (kW H.st x H.now V w h.srv)
 have c0:w.cell? ⟨g,0,none⟩=some (.pointer (some ⟨V,0,none⟩)):=by rw [h.blk.cell]; exact qU
 have hlt:=h.blk.lt
 have Hh:=hid h
 have Hl:=hid hl
 obtain⟨rev,hrev⟩:∃ r,H.st.rev=r:=⟨_,rfl⟩
 have vo:=hid hrev
 clear h hl hrev
 go_enter Tryz.func113,Tryz.ntmps113
 go_wp2_with fail
 refine Calls.mono HS.out ?_
 rintro e w1 ⟨y,rfl,_,hb1⟩
 have h1:=Hh.out.below hb1
 have HR:=hid (tJ g (1+k*4) 184 _ (wv k) _ E H.st.rev w1 h1.blk (by decide) (gL hk) (h1.wait k hk) Hl.out)
 rw [vo.out] at HR
 have H1:=hid h1
 have Hb1:=hid hb1
 have hlt1:=h1.blk.lt
 unfold stC
 rw [vo.out]
 clear h1 hb1 HS c0
 have hf:∀ W,(Instr.field 26 (.agg #[.int .i64 rev,.slice y.aj y.nj y.cj,.slice y.an y.nn y.cn,.slice y.al y.nl y.cl]) 0).run Tryz.prog W = .ok (.int .i64 rev) W:=fun _=>by kernel_rfl
 go_wp2_with fail
 refine Calls.mono HR.out ?_
 rintro e w2 hp
 obtain⟨rfl,wv',h2,ht⟩:=hp.hub H1.out hk
 obtain⟨h3,hg3⟩:=h2.set0 hk true
 have y0:w2.cell? ⟨g,1+k*4+1,none⟩=some (.bool (H.cs k).closed):=by rw [h2.blk.cell,jA hk,cD]
 have z0:w2.frozen? ⟨g,1+k*4+1,none⟩=false:=h2.blk.thaw _
 have hlt2:=h2.blk.lt
 have H3:=hid h3
 have HT:=hid (((dE.refl g V fb wv w).below_ Hb1.out).trans ht |>.gr_ hg3)
 clear hp h2 ht h3 hg3 HR
 go_wp2
 go_end0
 refine⟨rfl,wv',x,?_,HT.out⟩
 have:=H3.out
 rw [← vo.out] at this
 exact this
end Go.Proofs.YtoeejfhdjmkpcaaGreatDoor
/- The walk of delta.Encode. -/
namespace Go.Proofs.YtoeejfhdjmkpcaaGreatDoor
open Go.Lib (hid)
open Go.RowKit
structure EGo (w0 w:World) (base g p D:Nat) (l:List UInt8) (cs:Array Value) (N:Nat):Prop where
 ok:fI w base g l
 keep:cR base g w0 w
 bD:Blk w D 45 cs
 bp:Blk w p 128 #[.pointer (some ⟨g,0,none⟩)]
 nD:D≠g
 np:p≠g
 len:l.length≤N
theorem EGo.next {w0 w w':World} {base g p D N:Nat} {l k:List UInt8} {cs:Array Value} (h:EGo w0 w base g p D l cs N) (ha:fI w' base g (l ++ k)) (hk:cR base g w w') (hkl:k.length≤4000):EGo w0 w' base g p D (l ++ k) cs (N+4000):=
 ⟨ha,h.keep.trans hk,hk.blk h.bD (by decide) h.nD,hk.blk h.bp (by decide) h.np,h.nD,h.np,by have:=h.len; rw [List.length_append]; omega⟩
theorem EGo.alloc {w0 w:World} {base g p D N:Nat} {l:List UInt8} {cs:Array Value} (h:EGo w0 w base g p D l cs N) (o:Obj):EGo w0 (w.alloc o) base g p D l cs N:=
 have hb:Below w.heap.size w (w.alloc o):=(Below.refl _ _).alloc (Nat.le_refl _) _
 ⟨h.ok.below hb,h.keep.trans (cR.of_below hb),h.bD.alloc _,h.bp.alloc _,h.nD,h.np,h.len⟩
def I2 (w0:World) (base g p S:Nat) (L5:List UInt8) (cs ss:Array Value) (gs:List (List ByteArray)) (i:Value) (wr:World):Prop:=
 ∃ k:Nat,k≤3∧i = .int .i64 k∧EGo w0 wr base g p base (L5 ++ (gs.take k).flatMap (jI fV)) cs (20000+4000*k)∧Blk wr S 43 ss
theorem yG (d:aX) (x:fH) (w:World) (hD:dQ w w.heap.size d x) (hT:Tabs w) (hf1 : -9223372036854775808≤d.from_) (hf2:d.from_≤9223372036854775807) :
 Calls Tryz.prog 19 #[.agg (dC d x)] w (kG d w):=by
 have hb1:Below w.heap.size w (w.alloc (.cells (dC d x) 45)):=(Below.refl _ _).alloc (Nat.le_refl _) _
 have hB1:Blk (w.alloc (.cells (dC d x) 45)) w.heap.size 45 (dC d x):=heap_alloc_new w _
 have hC:=Ag d x _ (hD.up hb1) (hT.below hb1) hf1 hf2
 obtain⟨E,hE⟩:∃ E,gA d=E:=⟨_,rfl⟩
 unfold tF at hC
 rw [hE] at hC
 have HC:=hid hC
 have HE:=hid hE
 have HD:=hid hD
 have HT:=hid hT
 have Hb1:=hid hb1
 have HB1:=hid hB1
 have Hbad:=hid (fun (h:E≠0) w'=>kG.bad (w:=w) (w':=w') hE h)
 have Ia:=hid (fun (h:E=0) w'=>kG.large (w:=w) (w':=w') (hE.trans h))
 have Hok:=hid (fun (h:E=0) w' s=>kG.ok (w:=w) (w':=w') (s:=s) (hE.trans h))
 have I3:=hid (fun (h:E=0)=>I4 (hE.trans h))
 clear hC hE hD hT hb1 hB1 hf1 hf2
 obtain⟨from_,to_,jobs,nodes,leases,gj,gn,gl⟩:=d
 obtain⟨aj,nj,cj,an,nn,cn,al,nl,cl,agj,ngj,cgj,agn,ngn,cgn,agl,ngl,cgl⟩:=x
 unfold dC at *
 dsimp only at *
 go_enter Tryz.func19,Tryz.ntmps19
 go_wp2_with fail
 refine Calls.mono HC.out ?_
 rintro e w1 ⟨rfl,hb2⟩
 by_cases h0:E=0
 rotate_left
 · have hne:(E != 0)=true:=bne_iff_ne.2 h0
   have aR:=hid (Hbad.out h0 w1 (Hb1.out.trans (hb2.mono Hb1.out.size)))
   go_wp2
   go_ret2
   exact aR.out
 subst h0
 have G:=hid (I3.out rfl)
 have gt0:=G.out.t0
 have gt1:=G.out.t1
 have gt2:=G.out.t2
 dsimp only at gt0 gt1 gt2
 have hbA:=Hb1.out.trans (hb2.mono Hb1.out.size)
 have hBD:Blk w1 w.heap.size 45 _:=HB1.out.below hb2 HB1.out.lt
 have hsz:w.heap.size<w1.heap.size:=hBD.lt
 have hTl:=HT.out.lt
 have hw0:=fI.new (HT.out.below hbA) hTl.1 hTl.2 (Nat.le_of_lt hsz)
 have hbW:Below w1.heap.size w1 (w1.alloc (.cells #[.slice none 0 0] 131)):=(Below.refl _ _).alloc (Nat.le_refl _) _
 have hsW:(w1.alloc (.cells #[.slice none 0 0] 131)).heap.size=w1.heap.size+1:=by simp
 have hbP:Below (w1.alloc (.cells #[.slice none 0 0] 131)).heap.size (w1.alloc (.cells #[.slice none 0 0] 131)) ((w1.alloc (.cells #[.slice none 0 0] 131)).alloc (.cells #[.pointer (some ⟨w1.heap.size,0,none⟩)] 128)):=(Below.refl _ _).alloc (Nat.le_refl _) _
 have hbp:Blk ((w1.alloc (.cells #[.slice none 0 0] 131)).alloc (.cells #[.pointer (some ⟨w1.heap.size,0,none⟩)] 128)) (w1.heap.size+1) 128 #[.pointer (some ⟨w1.heap.size,0,none⟩)]:=by
  have:=heap_alloc_new (w1.alloc (.cells #[.slice none 0 0] 131)) (.cells #[.pointer (some ⟨w1.heap.size,0,none⟩)] 128)
  rw [hsW] at this
  exact this
 have H0:=hid (EGo.mk (w0:=w) (N:=0) (hw0.below hbP) (((cR.of_below hbA).trans (cR.of_below hbW)).trans (cR.of_below hbP)) ((hBD.alloc _).alloc _) hbp (Nat.ne_of_lt hsz) (by omega) (by simp))
 have HY:=hid hBD
 clear hb2 hbA hBD hTl hw0 hbW hsW hbP hbp
 obtain⟨y0,y1,y2,y3,y4,y5,y6,y7⟩:=Blk.c8 (HY.out)
 go_wp2_with fail
 refine Calls.mono (kD w.heap.size w1.heap.size _ (from_) _ (by omega) H0.out.ok (by have:=H0.out.len; omega)) ?_
 rintro e wk1 ⟨rfl,ok1,k1⟩
 have H1:=hid (H0.out.next ok1 k1 (vG _))
 clear y0 y1 y2 y3 y4 y5 y6 y7
 have yp:wk1.cell? ⟨w1.heap.size+1,0,none⟩=some (.pointer (some ⟨w1.heap.size,0,none⟩)):=H1.out.bp.cell 0
 have hpl:w1.heap.size+1<wk1.heap.size:=H1.out.bp.lt
 obtain⟨y0,y1,y2,y3,y4,y5,y6,y7⟩:=Blk.c8 (H1.out.bD)
 clear ok1 k1 H0
 go_wp2_with fail
 refine Calls.mono (kD w.heap.size w1.heap.size _ (to_ - from_) _ (by omega) H1.out.ok (by have:=H1.out.len; omega)) ?_
 rintro e wk2 ⟨rfl,ok2,k2⟩
 have H2:=hid (H1.out.next ok2 k2 (vG _))
 clear yp hpl y0 y1 y2 y3 y4 y5 y6 y7
 have yp:wk2.cell? ⟨w1.heap.size+1,0,none⟩=some (.pointer (some ⟨w1.heap.size,0,none⟩)):=H2.out.bp.cell 0
 have hpl:w1.heap.size+1<wk2.heap.size:=H2.out.bp.lt
 have y2:wk2.cell? ⟨w.heap.size,2,none⟩=some (.slice aj nj cj):=H2.out.bD.cell 2
 have y3:wk2.cell? ⟨w.heap.size,3,none⟩=some (.slice an nn cn):=H2.out.bD.cell 3
 have y4:wk2.cell? ⟨w.heap.size,4,none⟩=some (.slice al nl cl):=H2.out.bD.cell 4
 have y5:wk2.cell? ⟨w.heap.size,5,none⟩=some (.slice agj ngj cgj):=H2.out.bD.cell 5
 have y6:wk2.cell? ⟨w.heap.size,6,none⟩=some (.slice agn ngn cgn):=H2.out.bD.cell 6
 have y7:wk2.cell? ⟨w.heap.size,7,none⟩=some (.slice agl ngl cgl):=H2.out.bD.cell 7
 clear ok2 k2 H1
 go_wp2_with fail
 refine Calls.mono (FH w.heap.size w1.heap.size (w1.heap.size+1) _ jobs _ _ _ _ (HD.out.j.below (H2.out.keep.below (Nat.le_of_lt hsz) (Nat.le_refl _))) HD.out.lj (by have h1:=HD.out.lj; have h2:=G.out.nj; dsimp only at h1 h2; omega) G.out.jobs H2.out.ok (by have:=H2.out.len; omega) H2.out.bp H2.out.np) ?_
 rintro e wk3 ⟨rfl,ok3,k3⟩
 have H3:=hid (H2.out.next ok3 k3 (jY (fun x=>tK x 3) (by have h2:=G.out.nj; dsimp only at h2; omega)))
 clear yp hpl y2 y3 y4 y5 y6 y7
 have yp:wk3.cell? ⟨w1.heap.size+1,0,none⟩=some (.pointer (some ⟨w1.heap.size,0,none⟩)):=H3.out.bp.cell 0
 have hpl:w1.heap.size+1<wk3.heap.size:=H3.out.bp.lt
 have y3:wk3.cell? ⟨w.heap.size,3,none⟩=some (.slice an nn cn):=H3.out.bD.cell 3
 have y4:wk3.cell? ⟨w.heap.size,4,none⟩=some (.slice al nl cl):=H3.out.bD.cell 4
 have y5:wk3.cell? ⟨w.heap.size,5,none⟩=some (.slice agj ngj cgj):=H3.out.bD.cell 5
 have y6:wk3.cell? ⟨w.heap.size,6,none⟩=some (.slice agn ngn cgn):=H3.out.bD.cell 6
 have y7:wk3.cell? ⟨w.heap.size,7,none⟩=some (.slice agl ngl cgl):=H3.out.bD.cell 7
 clear ok3 k3 H2
 go_wp2_with fail
 refine Calls.mono (DA w.heap.size w1.heap.size (w1.heap.size+1) _ nodes _ _ _ _ (HD.out.n.below (H3.out.keep.below (Nat.le_of_lt hsz) (Nat.le_refl _))) HD.out.ln (by have h1:=HD.out.ln; have h2:=G.out.nn; dsimp only at h1 h2; omega) G.out.nodes H3.out.ok (by have:=H3.out.len; omega) H3.out.bp H3.out.np) ?_
 rintro e wk4 ⟨rfl,ok4,k4⟩
 have H4:=hid (H3.out.next ok4 k4 (jY (fun x=>vO x 3) (by have h2:=G.out.nn; dsimp only at h2; omega)))
 clear yp hpl y3 y4 y5 y6 y7
 have yp:wk4.cell? ⟨w1.heap.size+1,0,none⟩=some (.pointer (some ⟨w1.heap.size,0,none⟩)):=H4.out.bp.cell 0
 have hpl:w1.heap.size+1<wk4.heap.size:=H4.out.bp.lt
 have y4:wk4.cell? ⟨w.heap.size,4,none⟩=some (.slice al nl cl):=H4.out.bD.cell 4
 have y5:wk4.cell? ⟨w.heap.size,5,none⟩=some (.slice agj ngj cgj):=H4.out.bD.cell 5
 have y6:wk4.cell? ⟨w.heap.size,6,none⟩=some (.slice agn ngn cgn):=H4.out.bD.cell 6
 have y7:wk4.cell? ⟨w.heap.size,7,none⟩=some (.slice agl ngl cgl):=H4.out.bD.cell 7
 clear ok4 k4 H3
 go_wp2_with fail
 refine Calls.mono (BU w.heap.size w1.heap.size (w1.heap.size+1) _ leases _ _ _ _ (HD.out.l.below (H4.out.keep.below (Nat.le_of_lt hsz) (Nat.le_refl _))) HD.out.ll (by have h1:=HD.out.ll; have h2:=G.out.nl; dsimp only at h1 h2; omega) G.out.leases H4.out.ok (by have:=H4.out.len; omega)) ?_
 rintro e wk5 ⟨rfl,ok5,k5⟩
 have H5:=hid (H4.out.next ok5 k5 (jY (fun x=>tL x) (by have h2:=G.out.nl; dsimp only at h2; omega)))
 clear yp hpl y4 y5 y6 y7
 have yp:wk5.cell? ⟨w1.heap.size+1,0,none⟩=some (.pointer (some ⟨w1.heap.size,0,none⟩)):=H5.out.bp.cell 0
 have hpl:w1.heap.size+1<wk5.heap.size:=H5.out.bp.lt
 have y5:wk5.cell? ⟨w.heap.size,5,none⟩=some (.slice agj ngj cgj):=H5.out.bD.cell 5
 have y6:wk5.cell? ⟨w.heap.size,6,none⟩=some (.slice agn ngn cgn):=H5.out.bD.cell 6
 have y7:wk5.cell? ⟨w.heap.size,7,none⟩=some (.slice agl ngl cgl):=H5.out.bD.cell 7
 clear ok5 k5 H4
 have hS:Blk (wk5.alloc (.cells #[.slice agj ngj cgj,.slice agn ngn cgn,.slice agl ngl cgl] 43)) wk5.heap.size 43 #[.slice agj ngj cgj,.slice agn ngn cgn,.slice agl ngl cgl]:=heap_alloc_new wk5 _
 have HS:=hid hS
 have HA:=hid (H5.out.alloc (.cells #[.slice agj ngj cgj,.slice agn ngn cgn,.slice agl ngl cgl] 43))
 have hg5:=hid H5.out.ok.at_.lt
 clear hS H5
 go_wp2
 generalize hL5:[] ++ bI from_.toNat ++ bI (to_ - from_).toNat ++ jI (fun x=>eU x 3) jobs ++ jI (fun x=>gV x 3) nodes ++ jI gX leases=L5 at HA
 have HL5:=hid hL5
 generalize hcs:(#[.int .i64 from_,.int .i64 to_,.slice aj nj cj,.slice an nn cn,.slice al nl cl,.slice agj ngj cgj,.slice agn ngn cgn,.slice agl ngl cgl]:Array Value)=CS at HA
 generalize hS:wk5.heap.size=S at HS hg5
 clear hL5 hcs yp hpl y5 y6 y7
 go_loopw [7,50] (fun _ i wr=>I2 w w.heap.size w1.heap.size (w1.heap.size+1) S L5 CS #[.slice agj ngj cgj,.slice agn ngn cgn,.slice agl ngl cgl] [gj,gn,gl] i wr) (fun _ i _=>3 - (intOf i).toNat)
 case atStart=>exact⟨0,by omega,rfl,by simpa using HA.out,HS.out⟩
 case round=>
  obtain⟨k,hk,rfl,hgo,hS⟩:=hrel
  have Hgo:=hid hgo
  have HS':=hid hS
  have yp:wr.cell? ⟨w1.heap.size+1,0,none⟩=some (.pointer (some ⟨w1.heap.size,0,none⟩)):=hgo.bp.cell 0
  have hpl:w1.heap.size+1<wr.heap.size:=hgo.bp.lt
  have hSl:S<wr.heap.size:=hS.lt
  have yS0:wr.cell? ⟨S,0,none⟩=some (.slice agj ngj cgj):=hS.cell 0
  have yS1:wr.cell? ⟨S,1,none⟩=some (.slice agn ngn cgn):=hS.cell 1
  have yS2:wr.cell? ⟨S,2,none⟩=some (.slice agl ngl cgl):=hS.cell 2
  clear hgo hS
  rcases (show k=0∨k=1∨k=2∨k=3 by omega) with rfl | rfl | rfl | rfl
  · go_wp2_with fail
    refine Calls.mono (oR w.heap.size w1.heap.size 0 _ gj _ _ _ _ (HD.out.gj.below (Hgo.out.keep.below (Nat.le_of_lt hsz) (Nat.le_refl _))) HD.out.lgj (by have h1:=HD.out.lgj; have h2:=G.out.ngj; dsimp only at h1 h2; omega) HD.out.ogj Hgo.out.ok (by have:=Hgo.out.len; omega)) ?_
    rintro e w2 ⟨rfl,ok,kk⟩
    have DB:=hid (Hgo.out.next ok kk (jY oM (by have h2:=G.out.ngj; dsimp only at h2; omega)))
    have HS2:=hid (kk.blk HS'.out (by decide) (Nat.ne_of_gt hg5.out))
    clear ok kk yS0 yS1 yS2 yp
    go_wp2
    go_roundw
    case rel=>exact⟨1,by omega,by go_num,by simpa [List.append_assoc] using DB.out,HS2.out⟩
    case measure=>simp [intOf]
  · go_wp2_with fail
    refine Calls.mono (oR w.heap.size w1.heap.size 0 _ gn _ _ _ _ (HD.out.gn.below (Hgo.out.keep.below (Nat.le_of_lt hsz) (Nat.le_refl _))) HD.out.lgn (by have h1:=HD.out.lgn; have h2:=G.out.ngn; dsimp only at h1 h2; omega) HD.out.ogn Hgo.out.ok (by have:=Hgo.out.len; omega)) ?_
    rintro e w2 ⟨rfl,ok,kk⟩
    have DB:=hid (Hgo.out.next ok kk (jY oM (by have h2:=G.out.ngn; dsimp only at h2; omega)))
    have HS2:=hid (kk.blk HS'.out (by decide) (Nat.ne_of_gt hg5.out))
    clear ok kk yS0 yS1 yS2 yp
    go_wp2
    go_roundw
    case rel=>exact⟨2,by omega,by go_num,by simpa [List.append_assoc] using DB.out,HS2.out⟩
    case measure=>simp [intOf]
  · go_wp2_with fail
    refine Calls.mono (oR w.heap.size w1.heap.size 0 _ gl _ _ _ _ (HD.out.gl.below (Hgo.out.keep.below (Nat.le_of_lt hsz) (Nat.le_refl _))) HD.out.lgl (by have h1:=HD.out.lgl; have h2:=G.out.ngl; dsimp only at h1 h2; omega) HD.out.ogl Hgo.out.ok (by have:=Hgo.out.len; omega)) ?_
    rintro e w2 ⟨rfl,ok,kk⟩
    have DB:=hid (Hgo.out.next ok kk (jY oM (by have h2:=G.out.ngl; dsimp only at h2; omega)))
    have HS2:=hid (kk.blk HS'.out (by decide) (Nat.ne_of_gt hg5.out))
    clear ok kk yS0 yS1 yS2 yp
    go_wp2
    go_roundw
    case rel=>exact⟨3,by omega,by go_num,by simpa [List.append_assoc] using DB.out,HS2.out⟩
    case measure=>simp [intOf]
  · have hL:L5 ++ ([gj,gn,gl].take 3).flatMap (jI fV)=mV ⟨from_,to_,jobs,nodes,leases,gj,gn,gl⟩:=by rw [← HL5.out]; simp [mV]
    have hbl:=Hgo.out.keep.below (Nat.le_of_lt hsz) (Nat.le_refl _)
    have hat:=Hgo.out.ok.at_
    rw [hL] at hat
    obtain⟨_,A,m,c,hB,ho⟩:=hat
    have hm:=nV ho
    have z0:wr.cell? ⟨w1.heap.size,0,none⟩=some (.slice A m c):=hB.cell 0
    have hrun:=gJ Tryz.underlying129 Tryz.underlying5 Tryz.underlying9 ho
    by_cases hbig:6000<m
    · have aR:=hid (Ia.out trivial wr (by omega) hbl)
      have hd:decide ((6000:Int)<(m:Int))=true:=decide_eq_true (by omega)
      clear hbl hm hrun ho hB
      go_wp2
      go_ret2
      exact aR.out
    · have aR:=hid (Hok.out trivial wr _ (by omega) rfl hbl)
      have hd:decide ((6000:Int)<(m:Int))=false:=decide_eq_false (by omega)
      clear hbl hm ho hB
      go_wp2
      go_ret2
      exact aR.out
end Go.Proofs.YtoeejfhdjmkpcaaGreatDoor
/- Once more is nothing: plain. -/
namespace Go.Proofs.YtoeejfhdjmkpcaaGreatDoor
open Go.Lib (hid)
theorem wU {α:Type} {key:α→ByteArray} {l:List α} {x z:α}:z ∈ hM key l x↔z=x∨(z ∈ l∧key z≠key x):=by
 unfold hM; rw [gM]; simp
theorem vP {α:Type} {key:α→ByteArray} {l:List α} (x:α) (hs:bE key l):hM key (hM key l x) x=hM key l x:=by
 have h1:=sorted_put (key:=key) x l hs
 have h2:=sorted_put (key:=key) x _ h1
 refine kH h2 h1 fun z=>?_
 rw [wU,wU]
 constructor
 · rintro (h | ⟨h | h,h'⟩)
   · exact .inl h
   · exact .inl h
   · exact .inr h
 · rintro (h | h)
   · exact .inl h
   · exact .inr ⟨.inr h,h.2⟩
theorem qV {α:Type} (key:α→ByteArray) (s:ByteArray) (l:List α):(l.filter fun a=>!decide (key a=s)).find? (fun a=>decide (key a=s))=none:=by
 rw [List.find?_eq_none]
 intro a ha hd
 have:=(List.mem_filter.1 ha).2
 rw [hd] at this
 cases this
theorem DC {α:Type} (key:α→ByteArray) (l:List α) (x:α):((hM key l x).find? (fun a=>decide (key a=key x))).isSome=true:=by
 rw [List.find?_isSome]
 exact⟨x,wU.2 (.inl rfl),by simp⟩
theorem DE {st:ah} {now:Int} {q:aH} (h:aG st=0) (hk:q.kind≠7) (h0:(doR st now q).1=0) (hn:¬ gN st (doR st now q).2.1) :
 (doR (kI (doR st now q).2.1) now q).1≠0∨gN (kI (doR st now q).2.1) (doR (kI (doR st now q).2.1) now q).2.1:=by
 obtain⟨h1,h2,h3,h4,h5,h6⟩:=bO.1 h
 by_cases k1:q.kind=1
 · right
   have e:doR st now q=(aG (iR st q.job),iR st q.job,now):=by unfold doR; rw [if_pos k1]
   rw [e]
   unfold doR
   rw [if_pos k1]
   exact⟨(vP q.job (cF h3)).symm,rfl,rfl⟩
 by_cases k2:q.kind=2
 · right
   have e:doR st now q=(aG (je st q.node),je st q.node,now):=by unfold doR; rw [if_neg k1,if_pos k2]
   rw [e]
   unfold doR
   rw [if_neg k1,if_pos k2]
   exact⟨rfl,(vP q.node (cF h4)).symm,rfl⟩
 by_cases k3:q.kind=3
 · left
   have e:(doR st now q).2.1=oS st q.name:=by unfold doR; rw [if_neg k1,if_neg k2,if_pos k3]
   rw [e]
   unfold doR
   rw [if_neg k1,if_neg k2,if_pos k3]
   show (if (cP (st.jobs.filter fun a=>!decide (a.name=q.name)) q.name).isSome=true then (0:Int) else 6)≠0
   rw [show cP (st.jobs.filter fun a=>!decide (a.name=q.name)) q.name=none from qV aD.name q.name st.jobs]
   decide
 by_cases k4:q.kind=4
 · left
   have e:(doR st now q).2.1=oT st q.name:=by unfold doR; rw [if_neg k1,if_neg k2,if_neg k3,if_pos k4]
   rw [e]
   unfold doR
   rw [if_neg k1,if_neg k2,if_neg k3,if_pos k4]
   show (if (cL (st.nodes.filter fun a=>!decide (a.name=q.name)) q.name).isSome=true then (0:Int) else 6)≠0
   rw [show cL (st.nodes.filter fun a=>!decide (a.name=q.name)) q.name=none from qV aA.name q.name st.nodes]
   decide
 by_cases k5:q.kind=5
 · left
   have e:doR st now q=fR st now q.lease:=by unfold doR; rw [if_neg k1,if_neg k2,if_neg k3,if_neg k4,if_pos k5]
   have e2:∀ s,doR s now q=fR s now q.lease:=fun s=>by unfold doR; rw [if_neg k1,if_neg k2,if_neg k3,if_neg k4,if_pos k5]
   rw [e2,e]
   rw [e] at h0 hn
   unfold fR at h0
   cases hj:cP st.jobs q.lease.job with
   | none=>rw [hj] at h0; cases h0
   | some j=>
    rw [hj] at h0
    dsimp only at h0
    split at h0
    · cases h0
    rename_i g1
    split at h0
    · cases h0
    rename_i g2
    split at h0
    · cases h0
    rename_i g3
    split at h0
    · cases h0
    rename_i g4
    have e3:(fR st now q.lease).2.1=jv st j q.lease:=by
     unfold fR
     rw [hj]
     dsimp only
     rw [if_neg g1,if_neg g2,if_neg g3,if_neg g4]
    rw [e3]
    have e4:(cU (kI (jv st j q.lease)).leases q.lease.job).isSome=true:=DC ak.job st.leases q.lease
    unfold fR
    split
    · exact (by decide:(6:Int)≠0)
    · rw [if_neg (show ¬ (cL (kI (jv st j q.lease)).nodes q.lease.node).isSome=false from g1),if_pos e4]
      exact (by decide:(7:Int)≠0)
 by_cases k6:q.kind=6
 · left
   have e:(doR st now q).2.1=mW st q.name:=by unfold doR; rw [if_neg k1,if_neg k2,if_neg k3,if_neg k4,if_neg k5,if_pos k6]
   rw [e]
   unfold doR
   rw [if_neg k1,if_neg k2,if_neg k3,if_neg k4,if_neg k5,if_pos k6]
   show (if (cU (st.leases.filter fun a=>!decide (a.job=q.name)) q.name).isSome=true then (0:Int) else 6)≠0
   rw [show cU (st.leases.filter fun a=>!decide (a.job=q.name)) q.name=none from qV ak.job q.name st.leases]
   decide
 · exfalso
   apply hn
   unfold doR
   rw [if_neg k1,if_neg k2,if_neg k3,if_neg k4,if_neg k5,if_neg k6,if_neg hk]
   exact⟨rfl,rfl,rfl⟩
theorem Br {st:ah} {now:Int} {q:aH} (hk:q.kind≠7):(doR st now q).2.2=now:=by
 unfold doR fR
 repeat' split
 all_goals first | rfl | (exfalso; exact hk ‹_›)
theorem BV {st:ah} {now:Int} {q:aH} (h:aG st=0) (hk:q.kind≠7) :
 (cW (cW st now (dA st now q)).st (cW st now (dA st now q)).now (dA (cW st now (dA st now q)).st (cW st now (dA st now q)).now q)).ch=false ∧
 (cW (cW st now (dA st now q)).st (cW st now (dA st now q)).now (dA (cW st now (dA st now q)).st (cW st now (dA st now q)).now q)).st=(cW st now (dA st now q)).st:=by
 have same:∀ e,cW st now (dA st now q)=⟨e,false,st,now⟩→(cW (cW st now (dA st now q)).st (cW st now (dA st now q)).now (dA (cW st now (dA st now q)).st (cW st now (dA st now q)).now q)).ch=false ∧
  (cW (cW st now (dA st now q)).st (cW st now (dA st now q)).now (dA (cW st now (dA st now q)).st (cW st now (dA st now q)).now q)).st=(cW st now (dA st now q)).st:=by
  intro e he
  rw [he]
  dsimp only
  rw [he]
  exact⟨rfl,rfl⟩
 by_cases hq:bK q=0
 · have ha:∀ s n,dA s n q=doR s n q:=fun s n=>by unfold dA; rw [if_pos hq]
   by_cases h0:(doR st now q).1=0
   · by_cases hs:gN st (doR st now q).2.1
     · refine same 0 ?_
       rw [ha]; unfold cW; rw [if_pos h0,if_pos hs,Br hk]
     · by_cases hr:1099511627776<st.rev+1
       · refine same 2 ?_
         rw [ha]; unfold cW; rw [if_pos h0,if_neg hs,if_pos hr]
       · have e:cW st now (dA st now q)=⟨0,true,kI (doR st now q).2.1,now⟩:=by
          rw [ha]; unfold cW; rw [if_pos h0,if_neg hs,if_neg hr,Br hk]
         rw [e]
         dsimp only
         rw [ha]
         rcases DE h hk h0 hs with hd | hd
         · unfold cW; rw [if_neg hd]; exact⟨rfl,rfl⟩
         · unfold cW
           by_cases h1:(doR (kI (doR st now q).2.1) now q).1=0
           · rw [if_pos h1,if_pos hd]; exact⟨rfl,rfl⟩
           · rw [if_neg h1]; exact⟨rfl,rfl⟩
   · refine same (doR st now q).1 ?_
     rw [ha]; unfold cW; rw [if_neg h0]
 · refine same (bK q) ?_
   unfold dA; rw [if_neg hq]; unfold cW; rw [if_neg hq]
end Go.Proofs.YtoeejfhdjmkpcaaGreatDoor
