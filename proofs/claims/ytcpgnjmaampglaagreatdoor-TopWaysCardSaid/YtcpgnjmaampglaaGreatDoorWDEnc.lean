/- Of the proof of a statement: DEnc, ReqDG. -/
import Derived.Test.YtcpgnjmaampglaaGreatDoorWPlSrv
import Derived.Test.YtcpgnjmaampglaaGreatDoorWSvOwn
set_option linter.unusedVariables false
set_option linter.unusedSimpArgs false
set_option maxRecDepth 100000
set_option maxHeartbeats 8000000
/- The walk of delta.Encode. -/
namespace Go.Proofs.YtcpgnjmaampglaaGreatDoor
open Go.Lib (hid)
open Go.RowKit
structure EGo (w0 w:World) (base g p D:Nat) (l:List UInt8) (cs:Array Value) (N:Nat):Prop where
 ok:eL w base g l
 keep:cM base g w0 w
 bD:Blk w D 48 cs
 bp:Blk w p 132 #[.pointer (some ⟨g,0,none⟩)]
 nD:D≠g
 np:p≠g
 len:l.length≤N
theorem EGo.next {w0 w w':World} {base g p D N:Nat} {l k:List UInt8} {cs:Array Value} (h:EGo w0 w base g p D l cs N) (ha:eL w' base g (l ++ k)) (hk:cM base g w w') (hkl:k.length≤4000):EGo w0 w' base g p D (l ++ k) cs (N+4000):=
 ⟨ha,h.keep.trans hk,hk.blk h.bD (by decide) h.nD,hk.blk h.bp (by decide) h.np,h.nD,h.np,by have:=h.len; rw [List.length_append]; omega⟩
theorem EGo.alloc {w0 w:World} {base g p D N:Nat} {l:List UInt8} {cs:Array Value} (h:EGo w0 w base g p D l cs N) (o:Obj):EGo w0 (w.alloc o) base g p D l cs N:=
 have hb:Below w.heap.size w (w.alloc o):=(Below.refl _ _).alloc (Nat.le_refl _) _
 ⟨h.ok.below hb,h.keep.trans (cM.of_below hb),h.bD.alloc _,h.bp.alloc _,h.nD,h.np,h.len⟩
def QN (w0:World) (base g p S:Nat) (L5:List UInt8) (cs ss:Array Value) (gs:List (List ByteArray)) (i:Value) (wr:World):Prop:=
 ∃ k:Nat,k≤3∧i = .int .i64 k∧EGo w0 wr base g p base (L5 ++ (gs.take k).flatMap (fM gA)) cs (20000+4000*k)∧Blk wr S 46 ss
theorem DB (d:aK) (x:eW) (w:World) (hD:dM w w.heap.size d x) (hT:Tabs w) (hf1 : -9223372036854775808≤d.from_) (hf2:d.from_≤9223372036854775807) :
 Calls Tryz.prog 168 #[.agg (dC d x)] w (mS d w):=by
 have hb1:Below w.heap.size w (w.alloc (.cells (dC d x) 48)):=(Below.refl _ _).alloc (Nat.le_refl _) _
 have hB1:Blk (w.alloc (.cells (dC d x) 48)) w.heap.size 48 (dC d x):=heap_alloc_new w _
 have hC:=yN d x _ (hD.up hb1) (hT.below hb1) hf1 hf2
 obtain⟨E,hE⟩:∃ E,cW d=E:=⟨_,rfl⟩
 unfold yO at hC
 rw [hE] at hC
 have HC:=hid hC
 have HE:=hid hE
 have HD:=hid hD
 have HT:=hid hT
 have Hb1:=hid hb1
 have HB1:=hid hB1
 have xO:=hid (fun (h:E≠0) w'=>mS.bad (w:=w) (w':=w') hE h)
 have Py:=hid (fun (h:E=0) w'=>mS.large (w:=w) (w':=w') (hE.trans h))
 have Hok:=hid (fun (h:E=0) w' s=>mS.ok (w:=w) (w':=w') (s:=s) (hE.trans h))
 have QO:=hid (fun (h:E=0)=>QP (hE.trans h))
 clear hC hE hD hT hb1 hB1 hf1 hf2
 obtain⟨from_,to_,jobs,nodes,leases,gj,gn,gl⟩:=d
 obtain⟨aj,nj,cj,an,nn,cn,al,nl,cl,agj,ngj,cgj,agn,ngn,cgn,agl,ngl,cgl⟩:=x
 unfold dC at *
 dsimp only at *
 go_enter Tryz.func168,Tryz.ntmps168
 go_wp2_with fail
 refine Calls.mono HC.out ?_
 rintro e w1 ⟨rfl,hb2⟩
 by_cases h0:E=0
 rotate_left
 · have hne:(E != 0)=true:=bne_iff_ne.2 h0
   have cX:=hid (xO.out h0 w1 (Hb1.out.trans (hb2.mono Hb1.out.size)))
   go_wp2
   go_ret2
   exact cX.out
 subst h0
 have G:=hid (QO.out rfl)
 have gt0:=G.out.t0
 have gt1:=G.out.t1
 have gt2:=G.out.t2
 dsimp only at gt0 gt1 gt2
 have hbA:=Hb1.out.trans (hb2.mono Hb1.out.size)
 have hBD:Blk w1 w.heap.size 48 _:=HB1.out.below hb2 HB1.out.lt
 have hsz:w.heap.size<w1.heap.size:=hBD.lt
 have hTl:=HT.out.lt
 have hw0:=eL.new (HT.out.below hbA) hTl.1 hTl.2 (Nat.le_of_lt hsz)
 have hbW:Below w1.heap.size w1 (w1.alloc (.cells #[.slice none 0 0] 134)):=(Below.refl _ _).alloc (Nat.le_refl _) _
 have hsW:(w1.alloc (.cells #[.slice none 0 0] 134)).heap.size=w1.heap.size+1:=by simp
 have hbP:Below (w1.alloc (.cells #[.slice none 0 0] 134)).heap.size (w1.alloc (.cells #[.slice none 0 0] 134)) ((w1.alloc (.cells #[.slice none 0 0] 134)).alloc (.cells #[.pointer (some ⟨w1.heap.size,0,none⟩)] 132)):=(Below.refl _ _).alloc (Nat.le_refl _) _
 have hbp:Blk ((w1.alloc (.cells #[.slice none 0 0] 134)).alloc (.cells #[.pointer (some ⟨w1.heap.size,0,none⟩)] 132)) (w1.heap.size+1) 132 #[.pointer (some ⟨w1.heap.size,0,none⟩)]:=by
  have:=heap_alloc_new (w1.alloc (.cells #[.slice none 0 0] 134)) (.cells #[.pointer (some ⟨w1.heap.size,0,none⟩)] 132)
  rw [hsW] at this
  exact this
 have H0:=hid (EGo.mk (w0:=w) (N:=0) (hw0.below hbP) (((cM.of_below hbA).trans (cM.of_below hbW)).trans (cM.of_below hbP)) ((hBD.alloc _).alloc _) hbp (Nat.ne_of_lt hsz) (by omega) (by simp))
 have HY:=hid hBD
 clear hb2 hbA hBD hTl hw0 hbW hsW hbP hbp
 obtain⟨y0,y1,y2,y3,y4,y5,y6,y7⟩:=Blk.c8 (HY.out)
 go_wp2_with fail
 refine Calls.mono (mT w.heap.size w1.heap.size _ (from_) _ (by omega) H0.out.ok (by have:=H0.out.len; omega)) ?_
 rintro e wk1 ⟨rfl,ok1,k1⟩
 have H1:=hid (H0.out.next ok1 k1 (vH _))
 clear y0 y1 y2 y3 y4 y5 y6 y7
 have yp:wk1.cell? ⟨w1.heap.size+1,0,none⟩=some (.pointer (some ⟨w1.heap.size,0,none⟩)):=H1.out.bp.cell 0
 have hpl:w1.heap.size+1<wk1.heap.size:=H1.out.bp.lt
 obtain⟨y0,y1,y2,y3,y4,y5,y6,y7⟩:=Blk.c8 (H1.out.bD)
 clear ok1 k1 H0
 go_wp2_with fail
 refine Calls.mono (mT w.heap.size w1.heap.size _ (to_ - from_) _ (by omega) H1.out.ok (by have:=H1.out.len; omega)) ?_
 rintro e wk2 ⟨rfl,ok2,k2⟩
 have H2:=hid (H1.out.next ok2 k2 (vH _))
 clear yp hpl y0 y1 y2 y3 y4 y5 y6 y7
 have yp:wk2.cell? ⟨w1.heap.size+1,0,none⟩=some (.pointer (some ⟨w1.heap.size,0,none⟩)):=H2.out.bp.cell 0
 have hpl:w1.heap.size+1<wk2.heap.size:=H2.out.bp.lt
 have y2:wk2.cell? ⟨w.heap.size,2,none⟩=some (.slice aj nj cj):=H2.out.bD.cell 2
 have y3:wk2.cell? ⟨w.heap.size,3,none⟩=some (.slice an nn cn):=H2.out.bD.cell 3
 have y4:wk2.cell? ⟨w.heap.size,4,none⟩=some (.slice al nl cl):=H2.out.bD.cell 4
 have y5:wk2.cell? ⟨w.heap.size,5,none⟩=some (.slice agj ngj cgj):=H2.out.bD.cell 5
 have y6:wk2.cell? ⟨w.heap.size,6,none⟩=some (.slice agn ngn cgn):=H2.out.bD.cell 6
 have y7:wk2.cell? ⟨w.heap.size,7,none⟩=some (.slice agl ngl cgl):=H2.out.bD.cell 7
 clear ok2 k2 H1
 go_wp2_with fail
 refine Calls.mono (oH.1 w.heap.size w1.heap.size (w1.heap.size+1) _ jobs _ _ _ _ (HD.out.j.below (H2.out.keep.below (Nat.le_of_lt hsz) (Nat.le_refl _))) HD.out.lj (by have h1:=HD.out.lj; have h2:=G.out.nj; dsimp only at h1 h2; omega) G.out.jobs H2.out.ok (by have:=H2.out.len; omega) H2.out.bp H2.out.np) ?_
 rintro e wk3 ⟨rfl,ok3,k3⟩
 have H3:=hid (H2.out.next ok3 k3 (fR (fun x=>oI x 3) (by have h2:=G.out.nj; dsimp only at h2; omega)))
 clear yp hpl y2 y3 y4 y5 y6 y7
 have yp:wk3.cell? ⟨w1.heap.size+1,0,none⟩=some (.pointer (some ⟨w1.heap.size,0,none⟩)):=H3.out.bp.cell 0
 have hpl:w1.heap.size+1<wk3.heap.size:=H3.out.bp.lt
 have y3:wk3.cell? ⟨w.heap.size,3,none⟩=some (.slice an nn cn):=H3.out.bD.cell 3
 have y4:wk3.cell? ⟨w.heap.size,4,none⟩=some (.slice al nl cl):=H3.out.bD.cell 4
 have y5:wk3.cell? ⟨w.heap.size,5,none⟩=some (.slice agj ngj cgj):=H3.out.bD.cell 5
 have y6:wk3.cell? ⟨w.heap.size,6,none⟩=some (.slice agn ngn cgn):=H3.out.bD.cell 6
 have y7:wk3.cell? ⟨w.heap.size,7,none⟩=some (.slice agl ngl cgl):=H3.out.bD.cell 7
 clear ok3 k3 H2
 go_wp2_with fail
 refine Calls.mono (oH.2.1 w.heap.size w1.heap.size (w1.heap.size+1) _ nodes _ _ _ _ (HD.out.n.below (H3.out.keep.below (Nat.le_of_lt hsz) (Nat.le_refl _))) HD.out.ln (by have h1:=HD.out.ln; have h2:=G.out.nn; dsimp only at h1 h2; omega) G.out.nodes H3.out.ok (by have:=H3.out.len; omega) H3.out.bp H3.out.np) ?_
 rintro e wk4 ⟨rfl,ok4,k4⟩
 have H4:=hid (H3.out.next ok4 k4 (fR (fun x=>oJ x 3) (by have h2:=G.out.nn; dsimp only at h2; omega)))
 clear yp hpl y3 y4 y5 y6 y7
 have yp:wk4.cell? ⟨w1.heap.size+1,0,none⟩=some (.pointer (some ⟨w1.heap.size,0,none⟩)):=H4.out.bp.cell 0
 have hpl:w1.heap.size+1<wk4.heap.size:=H4.out.bp.lt
 have y4:wk4.cell? ⟨w.heap.size,4,none⟩=some (.slice al nl cl):=H4.out.bD.cell 4
 have y5:wk4.cell? ⟨w.heap.size,5,none⟩=some (.slice agj ngj cgj):=H4.out.bD.cell 5
 have y6:wk4.cell? ⟨w.heap.size,6,none⟩=some (.slice agn ngn cgn):=H4.out.bD.cell 6
 have y7:wk4.cell? ⟨w.heap.size,7,none⟩=some (.slice agl ngl cgl):=H4.out.bD.cell 7
 clear ok4 k4 H3
 go_wp2_with fail
 refine Calls.mono (vI w.heap.size w1.heap.size (w1.heap.size+1) _ leases _ _ _ _ (HD.out.l.below (H4.out.keep.below (Nat.le_of_lt hsz) (Nat.le_refl _))) HD.out.ll (by have h1:=HD.out.ll; have h2:=G.out.nl; dsimp only at h1 h2; omega) G.out.leases H4.out.ok (by have:=H4.out.len; omega)) ?_
 rintro e wk5 ⟨rfl,ok5,k5⟩
 have H5:=hid (H4.out.next ok5 k5 (fR (fun x=>pL x) (by have h2:=G.out.nl; dsimp only at h2; omega)))
 clear yp hpl y4 y5 y6 y7
 have yp:wk5.cell? ⟨w1.heap.size+1,0,none⟩=some (.pointer (some ⟨w1.heap.size,0,none⟩)):=H5.out.bp.cell 0
 have hpl:w1.heap.size+1<wk5.heap.size:=H5.out.bp.lt
 have y5:wk5.cell? ⟨w.heap.size,5,none⟩=some (.slice agj ngj cgj):=H5.out.bD.cell 5
 have y6:wk5.cell? ⟨w.heap.size,6,none⟩=some (.slice agn ngn cgn):=H5.out.bD.cell 6
 have y7:wk5.cell? ⟨w.heap.size,7,none⟩=some (.slice agl ngl cgl):=H5.out.bD.cell 7
 clear ok5 k5 H4
 have hS:Blk (wk5.alloc (.cells #[.slice agj ngj cgj,.slice agn ngn cgn,.slice agl ngl cgl] 46)) wk5.heap.size 46 #[.slice agj ngj cgj,.slice agn ngn cgn,.slice agl ngl cgl]:=heap_alloc_new wk5 _
 have HS:=hid hS
 have HA:=hid (H5.out.alloc (.cells #[.slice agj ngj cgj,.slice agn ngn cgn,.slice agl ngl cgl] 46))
 have hg5:=hid H5.out.ok.at_.lt
 clear hS H5
 go_wp2
 generalize hL5:[] ++ bg from_.toNat ++ bg (to_ - from_).toNat ++ fM (fun x=>eC x 3) jobs ++ fM (fun x=>cZ x 3) nodes ++ fM eQ leases=L5 at HA
 have HL5:=hid hL5
 generalize hcs:(#[.int .i64 from_,.int .i64 to_,.slice aj nj cj,.slice an nn cn,.slice al nl cl,.slice agj ngj cgj,.slice agn ngn cgn,.slice agl ngl cgl]:Array Value)=CS at HA
 generalize hS:wk5.heap.size=S at HS hg5
 clear hL5 hcs yp hpl y5 y6 y7
 go_loopw [7,50] (fun _ i wr=>QN w w.heap.size w1.heap.size (w1.heap.size+1) S L5 CS #[.slice agj ngj cgj,.slice agn ngn cgn,.slice agl ngl cgl] [gj,gn,gl] i wr) (fun _ i _=>3 - (intOf i).toNat)
 case atStart=>exact⟨0,by omega,rfl,by simpa using HA.out,HS.out⟩
 case round=>
  obtain⟨k,hk,rfl,hgo,hS⟩:=hrel
  have Hgo:=hid hgo
  have HS':=hid hS
  have yp:wr.cell? ⟨w1.heap.size+1,0,none⟩=some (.pointer (some ⟨w1.heap.size,0,none⟩)):=hgo.bp.cell 0
  have hpl:w1.heap.size+1<wr.heap.size:=hgo.bp.lt
  have hSl:S<wr.heap.size:=hS.lt
  have yS0:wr.cell? ⟨S,0,none⟩=some (.slice agj ngj cgj):=hS.cell 0
  have yS1:wr.cell? ⟨S,1,none⟩=some (.slice agn ngn cgn):=hS.cell 1
  have yS2:wr.cell? ⟨S,2,none⟩=some (.slice agl ngl cgl):=hS.cell 2
  clear hgo hS
  rcases (show k=0∨k=1∨k=2∨k=3 by omega) with rfl | rfl | rfl | rfl
  · go_wp2_with fail
    refine Calls.mono (oH.2.2 w.heap.size w1.heap.size 0 _ gj _ _ _ _ (HD.out.gj.below (Hgo.out.keep.below (Nat.le_of_lt hsz) (Nat.le_refl _))) HD.out.lgj (by have h1:=HD.out.lgj; have h2:=G.out.ngj; dsimp only at h1 h2; omega) HD.out.ogj Hgo.out.ok (by have:=Hgo.out.len; omega)) ?_
    rintro e w2 ⟨rfl,ok,kk⟩
    have KP:=hid (Hgo.out.next ok kk (fR sM (by have h2:=G.out.ngj; dsimp only at h2; omega)))
    have HS2:=hid (kk.blk HS'.out (by decide) (Nat.ne_of_gt hg5.out))
    clear ok kk yS0 yS1 yS2 yp
    go_wp2
    go_roundw
    case rel=>exact⟨1,by omega,by go_num,by simpa [List.append_assoc] using KP.out,HS2.out⟩
    case measure=>simp [intOf]
  · go_wp2_with fail
    refine Calls.mono (oH.2.2 w.heap.size w1.heap.size 0 _ gn _ _ _ _ (HD.out.gn.below (Hgo.out.keep.below (Nat.le_of_lt hsz) (Nat.le_refl _))) HD.out.lgn (by have h1:=HD.out.lgn; have h2:=G.out.ngn; dsimp only at h1 h2; omega) HD.out.ogn Hgo.out.ok (by have:=Hgo.out.len; omega)) ?_
    rintro e w2 ⟨rfl,ok,kk⟩
    have KP:=hid (Hgo.out.next ok kk (fR sM (by have h2:=G.out.ngn; dsimp only at h2; omega)))
    have HS2:=hid (kk.blk HS'.out (by decide) (Nat.ne_of_gt hg5.out))
    clear ok kk yS0 yS1 yS2 yp
    go_wp2
    go_roundw
    case rel=>exact⟨2,by omega,by go_num,by simpa [List.append_assoc] using KP.out,HS2.out⟩
    case measure=>simp [intOf]
  · go_wp2_with fail
    refine Calls.mono (oH.2.2 w.heap.size w1.heap.size 0 _ gl _ _ _ _ (HD.out.gl.below (Hgo.out.keep.below (Nat.le_of_lt hsz) (Nat.le_refl _))) HD.out.lgl (by have h1:=HD.out.lgl; have h2:=G.out.ngl; dsimp only at h1 h2; omega) HD.out.ogl Hgo.out.ok (by have:=Hgo.out.len; omega)) ?_
    rintro e w2 ⟨rfl,ok,kk⟩
    have KP:=hid (Hgo.out.next ok kk (fR sM (by have h2:=G.out.ngl; dsimp only at h2; omega)))
    have HS2:=hid (kk.blk HS'.out (by decide) (Nat.ne_of_gt hg5.out))
    clear ok kk yS0 yS1 yS2 yp
    go_wp2
    go_roundw
    case rel=>exact⟨3,by omega,by go_num,by simpa [List.append_assoc] using KP.out,HS2.out⟩
    case measure=>simp [intOf]
  · have hL:L5 ++ ([gj,gn,gl].take 3).flatMap (fM gA)=qI ⟨from_,to_,jobs,nodes,leases,gj,gn,gl⟩:=by rw [← HL5.out]; simp [qI]
    have hbl:=Hgo.out.keep.below (Nat.le_of_lt hsz) (Nat.le_refl _)
    have hat:=Hgo.out.ok.at_
    rw [hL] at hat
    obtain⟨_,A,m,c,hB,ho⟩:=hat
    have hm:=rG ho
    have z0:wr.cell? ⟨w1.heap.size,0,none⟩=some (.slice A m c):=hB.cell 0
    have hrun:=cN Tryz.underlying118 Tryz.underlying5 Tryz.underlying9 ho
    by_cases hbig:6000<m
    · have cX:=hid (Py.out trivial wr (by omega) hbl)
      have hd:decide ((6000:Int)<(m:Int))=true:=decide_eq_true (by omega)
      clear hbl hm hrun ho hB
      go_wp2
      go_ret2
      exact cX.out
    · have cX:=hid (Hok.out trivial wr _ (by omega) rfl hbl)
      have hd:decide ((6000:Int)<(m:Int))=false:=decide_eq_false (by omega)
      clear hbl hm ho hB
      go_wp2
      go_ret2
      exact cX.out
theorem Fu (h:cJ) (k:Nat) (hk:k≤9) (L:List UInt8) (hL:L.length≤900) (w:World) (T:TypeId) (F:FuncId) (J0 J1:Nat→Value→World→Prop) (hT:Tabs w)
 (hn:∀ v (w:World),(binOp .eql 218 (.iface T v) .nilIface).run Tryz.prog w = .ok (.bool false) w)
 (hc:∀ a (w:World),(callFunc F a).run Tryz.prog w = .ok (.enter F a) w)
 (HPt:∀ w,Calls Tryz.prog 116 #[gY (nF k)] w fun e w'=>∃ v,e = .returned (.iface T v)∧J0 w.heap.size v w'∧Below w.heap.size w w')
 (HM : ∀ B v w, J0 B v w → ∀ w', (method 515 T v "bracken/req.take").run Tryz.prog w' = .ok (F, v) w')
 (HTk:∀ B v w g,J0 B v w→g<B→eS w g (.ok () (BA L))→Calls Tryz.prog F #[v,.pointer (some ⟨g,0,none⟩)] w fun e w'=>e = .returned (.tuple #[])∧J1 g v w'∧eS w' g (.ok () (BA []))∧Below g w w')
 (hJ1:∀ g v w w',J1 g v w→w.grownBy w' (some g)→J1 g v w')
 (HWh:∀ g v w,J1 g v w→Calls Tryz.prog 163 #[.int .i64 (k:Int),.iface T v] w fun e w'=>e = .returned (gY h)∧Below w.heap.size w w')
 (HCk:∀ w',Below w.heap.size w w'→Calls Tryz.prog 115 #[gY h] w' (lu 0 w')) :
 Calls Tryz.prog 117 #[.string (BA (bg k ++ L))] w (oK h 0 w):=by
 obtain⟨b,hb⟩:∃ b,BA (bg k ++ L)=b:=⟨_,rfl⟩
 have hn1:bZ b = .ok k (BA L):=by rw [← hb]; exact jH k (by omega) _
 have hbs:b.size≤1000:=by
  have h1:=dP k
  rw [← hb,cT,List.length_append]; omega
 rw [hb]
 clear hb
 obtain⟨W,hW⟩:∃ W,(w.alloc (.cells #[.int .i64 0,.string ⟨#[]⟩,.int .i64 0,.int .i64 0,.int .i64 0,.string ⟨#[]⟩,.string ⟨#[]⟩,.int .i64 0,.string ⟨#[]⟩,.string ⟨#[]⟩,.string ⟨#[]⟩,.int .i64 0,.string ⟨#[]⟩,.int .i64 0] 65)).alloc (.cells #[.string b,.int .i64 0] 79)=W:=⟨_,rfl⟩
 have hb0:Below w.heap.size w (w.alloc (.cells #[.int .i64 0,.string ⟨#[]⟩,.int .i64 0,.int .i64 0,.int .i64 0,.string ⟨#[]⟩,.string ⟨#[]⟩,.int .i64 0,.string ⟨#[]⟩,.string ⟨#[]⟩,.string ⟨#[]⟩,.int .i64 0,.string ⟨#[]⟩,.int .i64 0] 65)):=(Below.refl _ _).alloc (Nat.le_refl _) _
 have hbW:Below w.heap.size w W:=by rw [← hW]; exact hb0.alloc hb0.size _
 have hR:Blk W w.heap.size 65 #[.int .i64 0,.string ⟨#[]⟩,.int .i64 0,.int .i64 0,.int .i64 0,.string ⟨#[]⟩,.string ⟨#[]⟩,.int .i64 0,.string ⟨#[]⟩,.string ⟨#[]⟩,.string ⟨#[]⟩,.int .i64 0,.string ⟨#[]⟩,.int .i64 0]:=by rw [← hW]; exact Blk.alloc (show Blk _ _ _ _ from heap_alloc_new w _) _
 obtain⟨g,hg⟩:∃ g,w.heap.size+1=g:=⟨_,rfl⟩
 have hrx:oL W g b 0:=by
  rw [← hW,← hg]
  have h:=heap_alloc_new (w.alloc (.cells #[.int .i64 0,.string ⟨#[]⟩,.int .i64 0,.int .i64 0,.int .i64 0,.string ⟨#[]⟩,.string ⟨#[]⟩,.int .i64 0,.string ⟨#[]⟩,.string ⟨#[]⟩,.string ⟨#[]⟩,.int .i64 0,.string ⟨#[]⟩,.int .i64 0] 65)) (.cells #[.string b,.int .i64 0] 79)
  rwa [show (w.alloc (.cells #[.int .i64 0,.string ⟨#[]⟩,.int .i64 0,.int .i64 0,.int .i64 0,.string ⟨#[]⟩,.string ⟨#[]⟩,.int .i64 0,.string ⟨#[]⟩,.string ⟨#[]⟩,.string ⟨#[]⟩,.int .i64 0,.string ⟨#[]⟩,.int .i64 0] 65)).heap.size=w.heap.size+1 by simp] at h
 have hlts:=hT.lts
 have hok:eS W g (.ok () b):=⟨hrx,by show b.size≤9223372036854775807; omega,hT.below hbW,by omega,by omega⟩
 have HN:=hid (jS g (.ok () b) W hok)
 have HR:=hid hR
 have HbW:=hid hbW
 have HW:=hid (show (w.alloc (.cells #[.int .i64 0,.string ⟨#[]⟩,.int .i64 0,.int .i64 0,.int .i64 0,.string ⟨#[]⟩,.string ⟨#[]⟩,.int .i64 0,.string ⟨#[]⟩,.string ⟨#[]⟩,.string ⟨#[]⟩,.int .i64 0,.string ⟨#[]⟩,.int .i64 0] 65)).alloc (.cells #[.string b,.int .i64 0] 79)=W from hW)
 have Hg:=hid hg
 have Hn1:=hid hn1
 have HPt:=hid HPt
 have HMh:=hid HM
 have HTk:=hid HTk
 have HJ1:=hid hJ1
 have HW0:=hid HWh
 have HCk:=hid HCk
 have hlR:=hR.lt
 have hlg:=hok.at_.lt
 have hRg:w.heap.size<g:=by omega
 have hgR:w.heap.size<g:=by omega
 clear hb0 hbW hR hrx hlts hok hT hW hg hn1 HM hJ1 HWh
 go_enter Tryz.func117,Tryz.ntmps117
 go_wp2_with fail
 simp only [HW.out,Hg.out]
 clear HW
 refine Calls.mono HN.out ?_
 rintro e w2 ⟨a,rfl,hv,hok,hg2⟩
 have e1:((RR.ok () b).bind fun _ s=>bZ s) = .ok k (BA L):=Hn1.out
 rw [e1] at hv hok
 have hv:a=k:=hv
 subst hv
 have hok:eS w2 g (.ok () (BA L)):=hok
 have y1:w2.cell? ⟨g,1,none⟩=some (.int .i64 0):=Blk.cell (show oL w2 g _ 0 from hok.at_) 1
 have hlg2:=hok.at_.lt
 have hR2:=aA hg2 HR.out (Nat.ne_of_lt hRg)
 have HP:=hid (show Calls Tryz.prog 116 #[.agg #[.int .i64 (a:Int),.string ⟨#[]⟩,.int .i64 0,.int .i64 0,.int .i64 0,.string ⟨#[]⟩,.string ⟨#[]⟩,.int .i64 0,.string ⟨#[]⟩,.string ⟨#[]⟩,.string ⟨#[]⟩,.int .i64 0,.string ⟨#[]⟩,.int .i64 0]] w2 _ from HPt.out w2)
 have Hok:=hid hok
 have HR2:=hid hR2
 have Hb2:=hid (aJ HbW.out hg2 (Nat.le_of_lt hRg))
 clear hok hg2 hR2 HN HR HbW e1 Hn1 HPt
 go_wp2_with fail
 refine Calls.mono HP.out ?_
 rintro e w3 ⟨v,rfl,hJ0,hb3⟩
 have Pz:eS w3 g (.ok () (BA L)):=Hok.out.next (σ':=.ok () (BA L)) (Blk.below (show oL w2 g _ 0 from Hok.out.at_) hb3 Hok.out.at_.lt) Hok.out.good (aG _ hb3)
 have HTk1:=hid (HTk.out w2.heap.size v w3 g hJ0 Hok.out.at_.lt Pz)
 have hm:=HMh.out w2.heap.size v w3 hJ0
 have HR3:=hid (HR2.out.below hb3 HR2.out.lt)
 have Hb3:=hid (Hb2.out.trans (hb3.mono Hb2.out.size))
 have hlg3:=Pz.at_.lt
 clear hJ0 hb3 Pz HP Hok HR2 Hb2 y1 HTk HMh
 go_wp2_with fail
 refine Calls.mono HTk1.out ?_
 rintro e w4 ⟨rfl,hp4,Nh,t4⟩
 have HR4:=hid (HR3.out.below t4 hRg)
 have Hb4:=hid (Hb3.out.trans (t4.mono (Nat.le_of_lt hRg)))
 have HEn:=hid (QQ g (.ok () (BA [])) w4 Nh.at_ Nh.good)
 have Hp4:=hid hp4
 have hlg4:=Nh.at_.lt
 clear hp4 Nh t4 HTk1 HR3 Hb3 hm
 go_wp2_with fail
 refine Calls.mono HEn.out ?_
 rintro e w5 ⟨rfl,hg5⟩
 have HR5:=hid (aA hg5 HR4.out (Nat.ne_of_lt hRg))
 have Hb5:=hid (aJ Hb4.out hg5 (Nat.le_of_lt hRg))
 have HWh:=hid (HW0.out g v w5 (HJ1.out g v w4 w5 Hp4.out hg5))
 rw [show ((sI (.ok () (BA [])):Nat):Int)=0 from rfl]
 clear hg5 HEn HR4 Hb4 Hp4 HJ1 HW0
 go_wp2_with fail
 refine Calls.mono HWh.out ?_
 rintro e w6 ⟨rfl,hb6⟩
 have HR6:=hid (HR5.out.below hb6 HR5.out.lt)
 have Hb6:=hid (Hb5.out.trans (hb6.mono Hb5.out.size))
 obtain⟨w7,hw7⟩:∃ w7,w6.alloc (.cells #[.int .i64 h.kind,.string h.job.name,.int .i64 h.job.prio,.int .i64 h.job.need,.int .i64 h.job.tries,.string h.job.tag,.string h.node.name,.int .i64 h.node.room,.string h.node.zone,.string h.lease.job,.string h.lease.node,.int .i64 h.lease.till,.string h.name,.int .i64 h.n] 65)=w7:=⟨_,rfl⟩
 have hb7:Below w6.heap.size w6 w7:=by rw [← hw7]; exact (Below.refl _ _).alloc (Nat.le_refl _) _
 have hq7:Blk w7 w6.heap.size 65 #[.int .i64 h.kind,.string h.job.name,.int .i64 h.job.prio,.int .i64 h.job.need,.int .i64 h.job.tries,.string h.job.tag,.string h.node.name,.int .i64 h.node.room,.string h.node.zone,.string h.lease.job,.string h.lease.node,.int .i64 h.lease.till,.string h.name,.int .i64 h.n]:=by rw [← hw7]; exact heap_alloc_new w6 _
 have HC:=hid (show Calls Tryz.prog 115 #[.agg #[.int .i64 h.kind,.string h.job.name,.int .i64 h.job.prio,.int .i64 h.job.need,.int .i64 h.job.tries,.string h.job.tag,.string h.node.name,.int .i64 h.node.room,.string h.node.zone,.string h.lease.job,.string h.lease.node,.int .i64 h.lease.till,.string h.name,.int .i64 h.n]] w7 (lu 0 w7) from HCk.out w7 (Hb6.out.trans (hb7.mono Hb6.out.size)))
 obtain⟨d0,d1,d2,d3,d4,d5,d6,d7,d8,d9,d10,d11,d12,d13⟩:=Blk.c14 (hq7)
 have Hw7:=hid hw7
 have HQ7:=hid hq7
 have hlq7:=hq7.lt
 have HR7:=hid (HR6.out.below hb7 HR6.out.lt)
 have Hb7:=hid (Hb6.out.trans (hb7.mono Hb6.out.size))
 have hRlt:w.heap.size<w6.heap.size:=HR6.out.lt
 clear hb6 hw7 hb7 hq7 HCk HWh HR5 Hb5 HR6 Hb6
 unfold gY
 unfold eM
 go_wp2_with fail
 simp only [Hw7.out]
 clear Hw7
 refine Calls.mono HC.out ?_
 rintro e w8 ⟨rfl,hb8⟩
 have hR8:=HR7.out.below hb8 HR7.out.lt
 have hq8:=HQ7.out.below hb8 HQ7.out.lt
 have hB8:=Hb7.out.trans (hb8.mono Hb7.out.size)
 obtain⟨e0,e1,e2,e3,e4,e5,e6,e7,e8,e9,e10,e11,e12,e13⟩:=Blk.c14 (hq8)
 obtain⟨r0,r1,r2,r3,r4,r5,r6,r7,r8,r9,r10,r11,r12,r13⟩:=Blk.c14 (show Blk w8 (w.heap.size) _ #[.int .i64 0,.string ⟨#[]⟩,.int .i64 0,.int .i64 0,.int .i64 0,.string ⟨#[]⟩,.string ⟨#[]⟩,.int .i64 0,.string ⟨#[]⟩,.string ⟨#[]⟩,.string ⟨#[]⟩,.int .i64 0,.string ⟨#[]⟩,.int .i64 0] from hR8)
 obtain⟨z0,z1,z2,z3,z4,z5,z6,z7,z8,z9,z10,z11,z12,z13⟩:=Blk.z14 (hR8)
 have hlq8:=hq8.lt
 have hlR8:=hR8.lt
 have HR8:=hid (show Blk w8 w.heap.size 65 (eM (nF 0)) from hR8)
 have HB8:=hid hB8
 clear hb8 hR8 hq8 hB8 HC HQ7 HR7 Hb7 hn hc d0 d1 d2 d3 d4 d5 d6 d7 d8 d9 d10 d11 d12 d13
 go_wp2
 have hf:=yP h HR8.out
 have hB:=HB8.out.trans (tR w8 w.heap.size h)
 obtain⟨wf,hwf⟩:∃ wf,vJ w8 w.heap.size h=wf:=⟨_,rfl⟩
 rw [hwf] at hf hB
 unfold vJ at hwf
 simp only [hwf]
 clear hwf HR8 HB8 e0 r0 z0 e1 r1 z1 e2 r2 z2 e3 r3 z3 e4 r4 z4 e5 r5 z5 e6 r6 z6 e7 r7 z7 e8 r8 z8 e9 r9 z9 e10 r10 z10 e11 r11 z11 e12 r12 z12 e13 r13 z13 hlq8 hlR8
 obtain⟨y0,y1,y2,y3,y4,y5,y6,y7,y8,y9,y10,y11,y12,y13⟩:=Blk.c14 (hf)
 have bJ:=hid hB
 clear hf hB
 refine bodyPost_ret (v:=.tuple #[.agg #[.int .i64 h.kind,.string h.job.name,.int .i64 h.job.prio,.int .i64 h.job.need,.int .i64 h.job.tries,.string h.job.tag,.string h.node.name,.int .i64 h.node.room,.string h.node.zone,.string h.lease.job,.string h.lease.node,.int .i64 h.lease.till,.string h.name,.int .i64 h.n],.int .i64 0]) (by simp [results,Tryz.results117,go_sem, *]) rfl ?_
 exact⟨rfl,bJ.out⟩
theorem I1 (g P:Nat) (x:aB) (b:ByteArray) (w:World) (hp:Blk w P 262 #[.string ⟨#[]⟩,.int .i64 0,.int .i64 0,.int .i64 0,.string ⟨#[]⟩]) (h:eS w g (.ok () b)) (hx:((fun s=>iR 3 s) b) = .ok x (BA [])) (hgP:g<P) :
 Calls Tryz.prog 321 #[.pointer (some ⟨P,0,none⟩),.pointer (some ⟨g,0,none⟩)] w fun e w'=>e = .returned (.tuple #[])∧(g<P∧Blk w' P 262 #[.string x.name,.int .i64 x.prio,.int .i64 x.need,.int .i64 x.tries,.string x.tag])∧eS w' g (.ok () (BA []))∧Below g w w':=by
 obtain⟨σ,hσ⟩:∃ σ,(RR.ok () b:RR Unit)=σ:=⟨_,rfl⟩
 have hx:(σ.bind fun _ s=>iR 3 s) = .ok x (BA []):=by rw [← hσ]; exact hx
 rw [hσ] at h
 have HJ:=hid (vK.2 g σ 3 w (by decide) (by decide) h)
 have Hx:=hid hx
 have HP:=hid hp
 have hlP:=hp.lt
 have hlg:=h.at_.lt
 clear hp h hx hσ
 go_enter Tryz.func321,Tryz.ntmps321
 go_wp2_with fail
 refine Calls.mono HJ.out ?_
 rintro e w1 ⟨a,rfl,hv,hok,hg⟩
 rw [Hx.out] at hv hok
 have hv:a=x:=hv
 subst hv
 have hok:eS w1 g (.ok () (BA [])):=hok
 have hp1:=aA hg HP.out (Nat.ne_of_gt hgP)
 have z0:w1.frozen? ⟨P,0,none⟩=false:=hp1.thaw 0
 have z1:w1.frozen? ⟨P,1,none⟩=false:=hp1.thaw 1
 have z2:w1.frozen? ⟨P,2,none⟩=false:=hp1.thaw 2
 have z3:w1.frozen? ⟨P,3,none⟩=false:=hp1.thaw 3
 have z4:w1.frozen? ⟨P,4,none⟩=false:=hp1.thaw 4
 obtain⟨c0,c1,c2,c3,c4⟩:=Blk.c5 (hp1)
 have hlP1:=hp1.lt
 have ht:Two w (((((w1.setCell ⟨P,0,none⟩ (.string a.name)).setCell ⟨P,1,none⟩ (.int .i64 a.prio)).setCell ⟨P,2,none⟩ (.int .i64 a.need)).setCell ⟨P,3,none⟩ (.int .i64 a.tries)).setCell ⟨P,4,none⟩ (.string a.tag)) g P:=((Two.refl w g P).fst hg).snd (aO (aO (aO (aO (aO (gF w1 P) 0 (.string a.name)) 1 (.int .i64 a.prio)) 2 (.int .i64 a.need)) 3 (.int .i64 a.tries)) 4 (.string a.tag))
 have bJ:=hid (show (g<P∧Blk (((((w1.setCell ⟨P,0,none⟩ (.string a.name)).setCell ⟨P,1,none⟩ (.int .i64 a.prio)).setCell ⟨P,2,none⟩ (.int .i64 a.need)).setCell ⟨P,3,none⟩ (.int .i64 a.tries)).setCell ⟨P,4,none⟩ (.string a.tag)) P 262 #[.string a.name,.int .i64 a.prio,.int .i64 a.need,.int .i64 a.tries,.string a.tag])∧eS (((((w1.setCell ⟨P,0,none⟩ (.string a.name)).setCell ⟨P,1,none⟩ (.int .i64 a.prio)).setCell ⟨P,2,none⟩ (.int .i64 a.need)).setCell ⟨P,3,none⟩ (.int .i64 a.tries)).setCell ⟨P,4,none⟩ (.string a.tag)) g (.ok () (BA []))∧Below g w (((((w1.setCell ⟨P,0,none⟩ (.string a.name)).setCell ⟨P,1,none⟩ (.int .i64 a.prio)).setCell ⟨P,2,none⟩ (.int .i64 a.need)).setCell ⟨P,3,none⟩ (.int .i64 a.tries)).setCell ⟨P,4,none⟩ (.string a.tag)) from ⟨⟨hgP,Blk.eq (((((hp1.set 0 (.string a.name)).set 1 (.int .i64 a.prio)).set 2 (.int .i64 a.need)).set 3 (.int .i64 a.tries)).set 4 (.string a.tag)) rfl⟩,(((((hok.set P 0 (.string a.name) hgP).set P 1 (.int .i64 a.prio) hgP).set P 2 (.int .i64 a.need) hgP).set P 3 (.int .i64 a.tries) hgP).set P 4 (.string a.tag) hgP),⟨ht.os,ht.tape,ht.output,ht.size,fun k hk=>ht.block k (by omega) (by omega) (by omega)⟩⟩)
 clear hok hp1 hg HJ Hx HP ht
 simp only [aH]
 go_wp2
 go_end0
 exact⟨rfl,bJ.out⟩
theorem Bk {q:cJ} (h:kB q=0):ranged q.kind 1 9=true∧DC q=q∧oM q=0:=by
 unfold kB at h
 split at h
 · cases h
 · rename_i h1
   split at h
   · cases h
   · rename_i h2
     exact⟨by simpa using h1,Classical.not_not.1 h2,h⟩
end Go.Proofs.YtcpgnjmaampglaaGreatDoor
