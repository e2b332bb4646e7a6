/- Of the proof of a statement: DEnc, HubF, PlHubS, WFrame, ArgJk. -/
import Derived.Lib.QuietBelow
import Derived.Deep.DeepCutAuto
import Derived.Deep.Strs
import Derived.Test.YtbllgmociapjeaaGreatDoorVReqEA
import Derived.Test.YtbllgmociapjeaaGreatDoorVSvDo
set_option linter.unusedVariables false
set_option linter.unusedSimpArgs false
set_option maxRecDepth 100000
set_option maxHeartbeats 8000000
/- The walk of delta.Encode. -/
namespace Go.Proofs.YtbllgmociapjeaaGreatDoor
open Go.Lib (hid)
open Go.RowKit
structure EGo (w0 w:World) (base g p D:Nat) (l:List UInt8) (cs:Array Value) (N:Nat):Prop where
 ok:dQ w base g l
 keep:cD base g w0 w
 bD:Blk w D 113 cs
 bp:Blk w p 126 #[.pointer (some ⟨g,0,none⟩)]
 nD:D≠g
 np:p≠g
 len:l.length≤N
theorem EGo.next {w0 w w':World} {base g p D N:Nat} {l k:List UInt8} {cs:Array Value} (h:EGo w0 w base g p D l cs N) (ha:dQ w' base g (l ++ k)) (hk:cD base g w w') (hkl:k.length≤4000):EGo w0 w' base g p D (l ++ k) cs (N+4000):=
 ⟨ha,h.keep.trans hk,hk.blk h.bD (by decide) h.nD,hk.blk h.bp (by decide) h.np,h.nD,h.np,by have:=h.len; rw [List.length_append]; omega⟩
theorem EGo.alloc {w0 w:World} {base g p D N:Nat} {l:List UInt8} {cs:Array Value} (h:EGo w0 w base g p D l cs N) (o:Obj):EGo w0 (w.alloc o) base g p D l cs N:=
 have hb:Below w.heap.size w (w.alloc o):=(Below.refl _ _).alloc (Nat.le_refl _) _
 ⟨h.ok.below hb,h.keep.trans (cD.of_below hb),h.bD.alloc _,h.bp.alloc _,h.nD,h.np,h.len⟩
def Lt (w0:World) (base g p S:Nat) (L5:List UInt8) (cs ss:Array Value) (gs:List (List ByteArray)) (i:Value) (wr:World):Prop:=
 ∃ k:Nat,k≤3∧i = .int .i64 k∧EGo w0 wr base g p base (L5 ++ (gs.take k).flatMap (fV dN)) cs (20000+4000*k)∧Blk wr S 28 ss
theorem zC (d:aW) (x:fP) (w:World) (hD:eF w w.heap.size d x) (hT:Tabs w) (hf1 : -9223372036854775808≤d.from_) (hf2:d.from_≤9223372036854775807) :
 Calls Tryz.prog 102 #[.agg (dC d x)] w (lu d w):=by
 have hb1:Below w.heap.size w (w.alloc (.cells (dC d x) 113)):=(Below.refl _ _).alloc (Nat.le_refl _) _
 have hB1:Blk (w.alloc (.cells (dC d x) 113)) w.heap.size 113 (dC d x):=heap_alloc_new w _
 have hC:=Bl d x _ (hD.up hb1) (hT.below hb1) hf1 hf2
 obtain⟨E,hE⟩:∃ E,gJ d=E:=⟨_,rfl⟩
 unfold uI at hC
 rw [hE] at hC
 have HC:=hid hC
 have HE:=hid hE
 have HD:=hid hD
 have HT:=hid hT
 have Hb1:=hid hb1
 have HB1:=hid hB1
 have Hbad:=hid (fun (h:E≠0) w'=>lu.bad (w:=w) (w':=w') hE h)
 have Kv:=hid (fun (h:E=0) w'=>lu.large (w:=w) (w':=w') (hE.trans h))
 have Hok:=hid (fun (h:E=0) w' s=>lu.ok (w:=w) (w':=w') (s:=s) (hE.trans h))
 have Lu:=hid (fun (h:E=0)=>Lv (hE.trans h))
 clear hC hE hD hT hb1 hB1 hf1 hf2
 obtain⟨from_,to_,jobs,nodes,leases,gj,gn,gl⟩:=d
 obtain⟨aj,nj,cj,an,nn,cn,al,nl,cl,agj,ngj,cgj,agn,ngn,cgn,agl,ngl,cgl⟩:=x
 unfold dC at *
 dsimp only at *
 go_enter Tryz.func102,Tryz.ntmps102
 go_wp2_with fail
 refine Calls.mono HC.out ?_
 rintro e w1 ⟨rfl,hb2⟩
 by_cases h0:E=0
 rotate_left
 · have hne:(E != 0)=true:=bne_iff_ne.2 h0
   have aP:=hid (Hbad.out h0 w1 (Hb1.out.trans (hb2.mono Hb1.out.size)))
   go_wp2
   go_ret2
   exact aP.out
 subst h0
 have G:=hid (Lu.out rfl)
 have gt0:=G.out.t0
 have gt1:=G.out.t1
 have gt2:=G.out.t2
 dsimp only at gt0 gt1 gt2
 have hbA:=Hb1.out.trans (hb2.mono Hb1.out.size)
 have hBD:Blk w1 w.heap.size 113 _:=HB1.out.below hb2 HB1.out.lt
 have hsz:w.heap.size<w1.heap.size:=hBD.lt
 have hTl:=HT.out.lt
 have hw0:=dQ.new (HT.out.below hbA) hTl.1 hTl.2 (Nat.le_of_lt hsz)
 have hbW:Below w1.heap.size w1 (w1.alloc (.cells #[.slice none 0 0] 128)):=(Below.refl _ _).alloc (Nat.le_refl _) _
 have hsW:(w1.alloc (.cells #[.slice none 0 0] 128)).heap.size=w1.heap.size+1:=by simp
 have hbP:Below (w1.alloc (.cells #[.slice none 0 0] 128)).heap.size (w1.alloc (.cells #[.slice none 0 0] 128)) ((w1.alloc (.cells #[.slice none 0 0] 128)).alloc (.cells #[.pointer (some ⟨w1.heap.size,0,none⟩)] 126)):=(Below.refl _ _).alloc (Nat.le_refl _) _
 have hbp:Blk ((w1.alloc (.cells #[.slice none 0 0] 128)).alloc (.cells #[.pointer (some ⟨w1.heap.size,0,none⟩)] 126)) (w1.heap.size+1) 126 #[.pointer (some ⟨w1.heap.size,0,none⟩)]:=by
  have:=heap_alloc_new (w1.alloc (.cells #[.slice none 0 0] 128)) (.cells #[.pointer (some ⟨w1.heap.size,0,none⟩)] 126)
  rw [hsW] at this
  exact this
 have H0:=hid (EGo.mk (w0:=w) (N:=0) (hw0.below hbP) (((cD.of_below hbA).trans (cD.of_below hbW)).trans (cD.of_below hbP)) ((hBD.alloc _).alloc _) hbp (Nat.ne_of_lt hsz) (by omega) (by simp))
 have HY:=hid hBD
 clear hb2 hbA hBD hTl hw0 hbW hsW hbP hbp
 obtain⟨y0,y1,y2,y3,y4,y5,y6,y7⟩:=Blk.c8 (HY.out)
 go_wp2_with fail
 refine Calls.mono (jq w.heap.size w1.heap.size _ (from_) _ (by omega) H0.out.ok (by have:=H0.out.len; omega)) ?_
 rintro e wk1 ⟨rfl,ok1,k1⟩
 have H1:=hid (H0.out.next ok1 k1 (rS _))
 clear y0 y1 y2 y3 y4 y5 y6 y7
 have yp:wk1.cell? ⟨w1.heap.size+1,0,none⟩=some (.pointer (some ⟨w1.heap.size,0,none⟩)):=H1.out.bp.cell 0
 have hpl:w1.heap.size+1<wk1.heap.size:=H1.out.bp.lt
 obtain⟨y0,y1,y2,y3,y4,y5,y6,y7⟩:=Blk.c8 (H1.out.bD)
 clear ok1 k1 H0
 go_wp2_with fail
 refine Calls.mono (jq w.heap.size w1.heap.size _ (to_ - from_) _ (by omega) H1.out.ok (by have:=H1.out.len; omega)) ?_
 rintro e wk2 ⟨rfl,ok2,k2⟩
 have H2:=hid (H1.out.next ok2 k2 (rS _))
 clear yp hpl y0 y1 y2 y3 y4 y5 y6 y7
 have yp:wk2.cell? ⟨w1.heap.size+1,0,none⟩=some (.pointer (some ⟨w1.heap.size,0,none⟩)):=H2.out.bp.cell 0
 have hpl:w1.heap.size+1<wk2.heap.size:=H2.out.bp.lt
 have y2:wk2.cell? ⟨w.heap.size,2,none⟩=some (.slice aj nj cj):=H2.out.bD.cell 2
 have y3:wk2.cell? ⟨w.heap.size,3,none⟩=some (.slice an nn cn):=H2.out.bD.cell 3
 have y4:wk2.cell? ⟨w.heap.size,4,none⟩=some (.slice al nl cl):=H2.out.bD.cell 4
 have y5:wk2.cell? ⟨w.heap.size,5,none⟩=some (.slice agj ngj cgj):=H2.out.bD.cell 5
 have y6:wk2.cell? ⟨w.heap.size,6,none⟩=some (.slice agn ngn cgn):=H2.out.bD.cell 6
 have y7:wk2.cell? ⟨w.heap.size,7,none⟩=some (.slice agl ngl cgl):=H2.out.bD.cell 7
 clear ok2 k2 H1
 go_wp2_with fail
 refine Calls.mono (II w.heap.size w1.heap.size (w1.heap.size+1) _ jobs _ _ _ _ (HD.out.j.below (H2.out.keep.below (Nat.le_of_lt hsz) (Nat.le_refl _))) HD.out.lj (by have h1:=HD.out.lj; have h2:=G.out.nj; dsimp only at h1 h2; omega) G.out.jobs H2.out.ok (by have:=H2.out.len; omega) H2.out.bp H2.out.np) ?_
 rintro e wk3 ⟨rfl,ok3,k3⟩
 have H3:=hid (H2.out.next ok3 k3 (fD (fun x=>lA x 3) (by have h2:=G.out.nj; dsimp only at h2; omega)))
 clear yp hpl y2 y3 y4 y5 y6 y7
 have yp:wk3.cell? ⟨w1.heap.size+1,0,none⟩=some (.pointer (some ⟨w1.heap.size,0,none⟩)):=H3.out.bp.cell 0
 have hpl:w1.heap.size+1<wk3.heap.size:=H3.out.bp.lt
 have y3:wk3.cell? ⟨w.heap.size,3,none⟩=some (.slice an nn cn):=H3.out.bD.cell 3
 have y4:wk3.cell? ⟨w.heap.size,4,none⟩=some (.slice al nl cl):=H3.out.bD.cell 4
 have y5:wk3.cell? ⟨w.heap.size,5,none⟩=some (.slice agj ngj cgj):=H3.out.bD.cell 5
 have y6:wk3.cell? ⟨w.heap.size,6,none⟩=some (.slice agn ngn cgn):=H3.out.bD.cell 6
 have y7:wk3.cell? ⟨w.heap.size,7,none⟩=some (.slice agl ngl cgl):=H3.out.bD.cell 7
 clear ok3 k3 H2
 go_wp2_with fail
 refine Calls.mono (Fh w.heap.size w1.heap.size (w1.heap.size+1) _ nodes _ _ _ _ (HD.out.n.below (H3.out.keep.below (Nat.le_of_lt hsz) (Nat.le_refl _))) HD.out.ln (by have h1:=HD.out.ln; have h2:=G.out.nn; dsimp only at h1 h2; omega) G.out.nodes H3.out.ok (by have:=H3.out.len; omega) H3.out.bp H3.out.np) ?_
 rintro e wk4 ⟨rfl,ok4,k4⟩
 have H4:=hid (H3.out.next ok4 k4 (fD (fun x=>jF x 3) (by have h2:=G.out.nn; dsimp only at h2; omega)))
 clear yp hpl y3 y4 y5 y6 y7
 have yp:wk4.cell? ⟨w1.heap.size+1,0,none⟩=some (.pointer (some ⟨w1.heap.size,0,none⟩)):=H4.out.bp.cell 0
 have hpl:w1.heap.size+1<wk4.heap.size:=H4.out.bp.lt
 have y4:wk4.cell? ⟨w.heap.size,4,none⟩=some (.slice al nl cl):=H4.out.bD.cell 4
 have y5:wk4.cell? ⟨w.heap.size,5,none⟩=some (.slice agj ngj cgj):=H4.out.bD.cell 5
 have y6:wk4.cell? ⟨w.heap.size,6,none⟩=some (.slice agn ngn cgn):=H4.out.bD.cell 6
 have y7:wk4.cell? ⟨w.heap.size,7,none⟩=some (.slice agl ngl cgl):=H4.out.bD.cell 7
 clear ok4 k4 H3
 go_wp2_with fail
 refine Calls.mono (rT w.heap.size w1.heap.size (w1.heap.size+1) _ leases _ _ _ _ (HD.out.l.below (H4.out.keep.below (Nat.le_of_lt hsz) (Nat.le_refl _))) HD.out.ll (by have h1:=HD.out.ll; have h2:=G.out.nl; dsimp only at h1 h2; omega) G.out.leases H4.out.ok (by have:=H4.out.len; omega)) ?_
 rintro e wk5 ⟨rfl,ok5,k5⟩
 have H5:=hid (H4.out.next ok5 k5 (fD (fun x=>jG x) (by have h2:=G.out.nl; dsimp only at h2; omega)))
 clear yp hpl y4 y5 y6 y7
 have yp:wk5.cell? ⟨w1.heap.size+1,0,none⟩=some (.pointer (some ⟨w1.heap.size,0,none⟩)):=H5.out.bp.cell 0
 have hpl:w1.heap.size+1<wk5.heap.size:=H5.out.bp.lt
 have y5:wk5.cell? ⟨w.heap.size,5,none⟩=some (.slice agj ngj cgj):=H5.out.bD.cell 5
 have y6:wk5.cell? ⟨w.heap.size,6,none⟩=some (.slice agn ngn cgn):=H5.out.bD.cell 6
 have y7:wk5.cell? ⟨w.heap.size,7,none⟩=some (.slice agl ngl cgl):=H5.out.bD.cell 7
 clear ok5 k5 H4
 have hS:Blk (wk5.alloc (.cells #[.slice agj ngj cgj,.slice agn ngn cgn,.slice agl ngl cgl] 28)) wk5.heap.size 28 #[.slice agj ngj cgj,.slice agn ngn cgn,.slice agl ngl cgl]:=heap_alloc_new wk5 _
 have HS:=hid hS
 have HA:=hid (H5.out.alloc (.cells #[.slice agj ngj cgj,.slice agn ngn cgn,.slice agl ngl cgl] 28))
 have hg5:=hid H5.out.ok.at_.lt
 clear hS H5
 go_wp2
 generalize hL5:[] ++ aO from_.toNat ++ aO (to_ - from_).toNat ++ fV (fun x=>eG x 3) jobs ++ fV (fun x=>cN x 3) nodes ++ fV dL leases=L5 at HA
 have HL5:=hid hL5
 generalize hcs:(#[.int .i64 from_,.int .i64 to_,.slice aj nj cj,.slice an nn cn,.slice al nl cl,.slice agj ngj cgj,.slice agn ngn cgn,.slice agl ngl cgl]:Array Value)=CS at HA
 generalize hS:wk5.heap.size=S at HS hg5
 clear hL5 hcs yp hpl y5 y6 y7
 go_loopw [7,50] (fun _ i wr=>Lt w w.heap.size w1.heap.size (w1.heap.size+1) S L5 CS #[.slice agj ngj cgj,.slice agn ngn cgn,.slice agl ngl cgl] [gj,gn,gl] i wr) (fun _ i _=>3 - (intOf i).toNat)
 case atStart=>exact⟨0,by omega,rfl,by simpa using HA.out,HS.out⟩
 case round=>
  obtain⟨k,hk,rfl,hgo,hS⟩:=hrel
  have Hgo:=hid hgo
  have HS':=hid hS
  have yp:wr.cell? ⟨w1.heap.size+1,0,none⟩=some (.pointer (some ⟨w1.heap.size,0,none⟩)):=hgo.bp.cell 0
  have hpl:w1.heap.size+1<wr.heap.size:=hgo.bp.lt
  have hSl:S<wr.heap.size:=hS.lt
  have yS0:wr.cell? ⟨S,0,none⟩=some (.slice agj ngj cgj):=hS.cell 0
  have yS1:wr.cell? ⟨S,1,none⟩=some (.slice agn ngn cgn):=hS.cell 1
  have yS2:wr.cell? ⟨S,2,none⟩=some (.slice agl ngl cgl):=hS.cell 2
  clear hgo hS
  rcases (show k=0∨k=1∨k=2∨k=3 by omega) with rfl | rfl | rfl | rfl
  · go_wp2_with fail
    refine Calls.mono (pS w.heap.size w1.heap.size 0 _ gj _ _ _ _ (HD.out.gj.below (Hgo.out.keep.below (Nat.le_of_lt hsz) (Nat.le_refl _))) HD.out.lgj (by have h1:=HD.out.lgj; have h2:=G.out.ngj; dsimp only at h1 h2; omega) HD.out.ogj Hgo.out.ok (by have:=Hgo.out.len; omega)) ?_
    rintro e w2 ⟨rfl,ok,kk⟩
    have Fi:=hid (Hgo.out.next ok kk (fD pT (by have h2:=G.out.ngj; dsimp only at h2; omega)))
    have HS2:=hid (kk.blk HS'.out (by decide) (Nat.ne_of_gt hg5.out))
    clear ok kk yS0 yS1 yS2 yp
    go_wp2
    go_roundw
    case rel=>exact⟨1,by omega,by go_num,by simpa [List.append_assoc] using Fi.out,HS2.out⟩
    case measure=>simp [intOf]
  · go_wp2_with fail
    refine Calls.mono (pS w.heap.size w1.heap.size 0 _ gn _ _ _ _ (HD.out.gn.below (Hgo.out.keep.below (Nat.le_of_lt hsz) (Nat.le_refl _))) HD.out.lgn (by have h1:=HD.out.lgn; have h2:=G.out.ngn; dsimp only at h1 h2; omega) HD.out.ogn Hgo.out.ok (by have:=Hgo.out.len; omega)) ?_
    rintro e w2 ⟨rfl,ok,kk⟩
    have Fi:=hid (Hgo.out.next ok kk (fD pT (by have h2:=G.out.ngn; dsimp only at h2; omega)))
    have HS2:=hid (kk.blk HS'.out (by decide) (Nat.ne_of_gt hg5.out))
    clear ok kk yS0 yS1 yS2 yp
    go_wp2
    go_roundw
    case rel=>exact⟨2,by omega,by go_num,by simpa [List.append_assoc] using Fi.out,HS2.out⟩
    case measure=>simp [intOf]
  · go_wp2_with fail
    refine Calls.mono (pS w.heap.size w1.heap.size 0 _ gl _ _ _ _ (HD.out.gl.below (Hgo.out.keep.below (Nat.le_of_lt hsz) (Nat.le_refl _))) HD.out.lgl (by have h1:=HD.out.lgl; have h2:=G.out.ngl; dsimp only at h1 h2; omega) HD.out.ogl Hgo.out.ok (by have:=Hgo.out.len; omega)) ?_
    rintro e w2 ⟨rfl,ok,kk⟩
    have Fi:=hid (Hgo.out.next ok kk (fD pT (by have h2:=G.out.ngl; dsimp only at h2; omega)))
    have HS2:=hid (kk.blk HS'.out (by decide) (Nat.ne_of_gt hg5.out))
    clear ok kk yS0 yS1 yS2 yp
    go_wp2
    go_roundw
    case rel=>exact⟨3,by omega,by go_num,by simpa [List.append_assoc] using Fi.out,HS2.out⟩
    case measure=>simp [intOf]
  · have hL:L5 ++ ([gj,gn,gl].take 3).flatMap (fV dN)=nO ⟨from_,to_,jobs,nodes,leases,gj,gn,gl⟩:=by rw [← HL5.out]; simp [nO]
    have hbl:=Hgo.out.keep.below (Nat.le_of_lt hsz) (Nat.le_refl _)
    have hat:=Hgo.out.ok.at_
    rw [hL] at hat
    obtain⟨_,A,m,c,hB,ho⟩:=hat
    have hm:=oP ho
    have z0:wr.cell? ⟨w1.heap.size,0,none⟩=some (.slice A m c):=hB.cell 0
    have hrun:=eU Tryz.underlying84 Tryz.underlying5 Tryz.underlying9 ho
    by_cases hbig:6000<m
    · have aP:=hid (Kv.out trivial wr (by omega) hbl)
      have hd:decide ((6000:Int)<(m:Int))=true:=decide_eq_true (by omega)
      clear hbl hm hrun ho hB
      go_wp2
      go_ret2
      exact aP.out
    · have aP:=hid (Hok.out trivial wr _ (by omega) rfl hbl)
      have hd:decide ((6000:Int)<(m:Int))=false:=decide_eq_false (by omega)
      clear hbl hm ho hB
      go_wp2
      go_ret2
      exact aP.out
end Go.Proofs.YtbllgmociapjeaaGreatDoor
/- The walks of a hub: changed, frame. -/
namespace Go.Proofs.YtbllgmociapjeaaGreatDoor
open Go.Lib (hid)
open Go.RowKit
structure jZ (w0 w:World) (g V:Nat) (fb:Nat→Nat) (wv:Nat→Value):Prop where
 base:Below w0.heap.size w0 w
 tabs:Tabs w0
 lo:∀ b,nP g V fb wv b→w0.heap.size≤b
section
variable {w0 w w':World} {g V:Nat} {fb:Nat→Nat} {wv wv':Nat→Value}
theorem jZ.to (h:jZ w0 w g V fb wv) (ht:cT g V fb wv wv' w w'):jZ w0 w' g V fb wv':=by
 have hs:=h.base.size
 refine⟨h.base.trans (ht.gr.below h.lo hs),h.tabs,fun b hb=>?_⟩
 rcases hb with e | e | ⟨i,hi,e | e⟩
 · exact h.lo b (.inl e)
 · exact h.lo b (.inr (.inl e))
 · exact h.lo b (.inr (.inr ⟨i,hi,.inl e⟩))
 · rcases ht.own i hi with h1 | h1 | ⟨q,h1,h2⟩
   · rw [h1] at e; cases e
   · rw [h1] at e; exact h.lo b (.inr (.inr ⟨i,hi,.inr e⟩))
   · rw [h1] at e; injection e with e; omega
theorem jZ.more (h:jZ w0 w g V fb wv) (hb:Below w.heap.size w w'):jZ w0 w' g V fb wv:=h.to ((cT.refl g V fb wv w).below_ hb)
theorem jZ.at_ (h:jZ w0 w g V fb wv):Tabs w:=h.tabs.below h.base
end
theorem Bm (tl:ah→List UInt8) (st:ah) (b:ByteArray) (e:Int) (cs:Nat→bQ):fA tl st b e cs 0=cs:=by
 funext i; unfold fA; rw [if_neg (by omega)]
theorem mI (tl:ah→List UInt8) (st:ah) (b:ByteArray) (e:Int) (cs:Nat→bQ) (n:Nat):fA tl st b e cs n n=cs n:=by
 unfold fA; rw [if_neg (by omega)]
theorem uJ (tl:ah→List UInt8) (st:ah) (b:ByteArray) (e:Int) (cs:Nat→bQ) (n:Nat):fA tl st b e cs (n+1)=upd (fA tl st b e cs n) n (jD tl st b e (cs n)):=by
 funext i
 unfold fA upd
 by_cases h:i=n
 · subst h; rw [if_pos (by omega),if_pos rfl]
 · rw [if_neg h]
   dsimp only
   by_cases h2:i<n
   · rw [if_pos h2,if_pos (by omega)]
   · rw [if_neg h2,if_neg (by omega)]
def Lw (tl:ah→List UInt8) (g V:Nat) (fb:Nat→Nat) (wv:Nat→Value) (cs:Nat→bQ) (st:ah) (x:StA) (now:Int) (b:ByteArray) (e:Int) (w:World) (i:Value) (wr:World):Prop:=
 ∃ n wv',n≤8∧i = .int .i64 ((n:Nat):Int)∧bL wr g V fb wv' (fA tl st b e cs n) st x now∧cT g V fb wv wv' w wr
theorem zE (tl:ah→List UInt8) {g V:Nat} {fb:Nat→Nat} {wv:Nat→Value} {H:dM} {x:StA} {w0:World} (w:World) (D:aW) (dx:fP) (h:bL w g V fb wv H.cs H.st x H.now) (hI:jZ w0 w g V fb wv) (hD:eF w w.heap.size D dx) (hf1 : -9223372036854775808≤D.from_) (hf2:D.from_≤9223372036854775807)
 (ht:(∀ i,i<8→(H.cs i).aH=false)∨oQ tl) (hl:∀ i,i<8→(H.cs i).waits.length≤35184372000000) :
 Calls Tryz.prog 66 #[.pointer (some ⟨g,0,none⟩),.agg (dC D dx)] w (gW g V fb wv (jr tl H D) (.tuple #[]) w):=by
 obtain⟨W,hW⟩:∃ W,w.alloc (.cells (dC D dx) 113)=W:=⟨_,rfl⟩
 have hbW:Below w.heap.size w W:=by rw [← hW]; exact (Below.refl _ _).alloc (Nat.le_refl _) _
 have hb:Blk W w.heap.size 113 (dC D dx):=by rw [← hW]; exact heap_alloc_new w _
 have HC:=hid (zC D dx W (hD.upS hbW) ((hI.more hbW).at_) hf1 hf2)
 obtain⟨c0,c1,c2,c3,c4,c5,c6,c7⟩:=Blk.c8 (hb)
 have hlW:=hb.lt
 have Hh:=hid (h.below hbW)
 have HI:=hid (hI.more hbW)
 have HI0:=hid hI
 have HT0:=hid ((cT.refl g V fb wv w).below_ hbW)
 have HW:=hid hW
 have Hl:=hid hl
 have Ht:=hid ht
 have bI:Hid (∀ wv' w',bL w' g V fb wv' (fA tl H.st (jC D).1 (jC D).2 H.cs 8) H.st x H.now→cT g V fb wv wv' w w'→gW g V fb wv (jr tl H D) (.tuple #[]) w (.returned (.tuple #[])) w'):=hid fun wv' w' h1 h2=>⟨rfl,wv',x,h1,h2⟩
 have hbs:=xE D
 obtain⟨b,hbe⟩:∃ b,(jC D).1=b:=⟨_,rfl⟩
 obtain⟨E,hEe⟩:∃ E,(jC D).2=E:=⟨_,rfl⟩
 unfold lu at HC
 rw [hbe,hEe] at HC bI
 rw [hbe] at hbs
 obtain⟨CS,hCS⟩:∃ CS,H.cs=CS:=⟨_,rfl⟩
 obtain⟨ST,hST⟩:∃ ST,H.st=ST:=⟨_,rfl⟩
 obtain⟨NW,hNW⟩:∃ NW,H.now=NW:=⟨_,rfl⟩
 rw [hCS,hST,hNW] at Hh bI
 rw [hCS] at Ht Hl
 have Hbs:=hid hbs
 clear h hI hD hf1 hf2 ht hl hbW hb hW hbe hEe hbs hCS hST hNW
 unfold dC at HC HW ⊢
 go_enter Tryz.func66,Tryz.ntmps66
 go_wp2_with fail
 try simp only [HW.out]
 clear HW
 refine Calls.mono HC.out ?_
 rintro e w1 ⟨rfl,hb1⟩
 have H1:=hid (Hh.out.below hb1)
 have HT1:=hid (HT0.out.below_ hb1)
 clear hb1 HC Hh HI HT0 c0 c1 c2 c3 c4 c5 c6 c7 hlW
 go_wp2
 go_loopw [6,7,13] (fun _ _ i wr=>Lw tl g V fb wv CS ST x NW b E w i wr) (fun _ _ i _=>8 - (intOf i).toNat)
 case atStart=>exact⟨0,wv,by omega,rfl,by rw [Bm]; exact H1.out,HT1.out⟩
 case round=>
  obtain⟨n,wv',hn,rfl,hA,hT⟩:=hrel
  by_cases hlt:n<8
  · have y1:wr.cell? ⟨g,1+n*4+1,none⟩=some (.bool (CS n).closed):=by rw [hA.blk.cell,iZ hlt,mI]
    have y2:wr.cell? ⟨g,1+n*4+2,none⟩=some (.bool (CS n).aH):=by rw [hA.blk.cell,mo hlt,mI]
    have hlg:=hA.blk.lt
    have HA:=hid hA
    have HT:=hid hT
    have dz:Hid ((CS n).closed=true∨(CS n).aH=false→bL wr g V fb wv' (fA tl ST b E CS (n+1)) ST x NW):=hid fun hc=>by
     have e:jD tl ST b E (CS n)=fA tl ST b E CS n n:=by rw [mI]; unfold jD; rw [if_pos hc]
     rw [uJ,e,nQ]
     exact HA.out
    have xF:Hid (∀ c,(CS n).closed=false→(CS n).aH=true→c=jD tl ST b E (CS n)→∀ wv'' w'',bL w'' g V fb wv'' (upd (fA tl ST b E CS n) n c) ST x NW→cT g V fb wv' wv'' wr w''→bL w'' g V fb wv'' (fA tl ST b E CS (n+1)) ST x NW∧cT g V fb wv wv'' w w''):=hid fun c _ _ hc wv'' w'' h1 h2=>by
     rw [uJ,← hc]
     exact⟨h1,HT.out.trans h2⟩
    have hwn:ByteRow wr (wv' n) (CS n).waits:=by have:=hA.wait n hlt; rwa [mI] at this
    have hln:(CS n).waits.length≤35184372000000:=Hl.out n hlt
    have HG:Hid (E=0→Calls Tryz.prog 100 #[.pointer (some ⟨g,1+n*4,none⟩),.int .i64 2,.string b] wr (gE g (1+n*4+3) (wv' n) ((CS n).waits ++ cR 3 2 b.data.toList) wr)):=hid fun _=>zF g (1+n*4) 89 _ (wv' n) _ 2 b wr HA.out.blk (by decide) (fX hlt) hwn (by omega) Hbs.out (by omega)
    have HTl:Hid ((CS n).aH=true→Calls Tryz.prog 65 #[.pointer (some ⟨g,0,none⟩),.pointer (some ⟨g,1+n*4,none⟩)] wr (gE g (1+n*4+3) (wv' n) ((CS n).waits ++ tl ST) wr)):=hid fun hw=>by
     rcases Ht.out with h | h
     · rw [h n hlt] at hw; cases hw
     · exact h g (1+n*4) V 89 _ (wv' n) _ ST x NW wr HA.out.blk (by decide) rU (fX hlt) hwn (by omega) HA.out.srv (HI0.out.to HT.out).at_
    clear hA hT hwn hln
    cases hcl:(CS n).closed
    · cases hwa:(CS n).aH
      · have F:=hid (dz.out (.inr hwa))
        rw [hcl] at y1
        rw [hwa] at y2
        clear hcl hwa dz xF HG HTl
        go_wp2
        go_roundw
        case rel=>exact⟨n+1,wv',by omega,by go_num,F.out,HT.out⟩
        case measure=>simp [intOf]; omega
      · by_cases hE0:E=0
        · have F:=hid (HG.out hE0)
          have F2:=hid (xF.out (Fj 2 b (CS n)) hcl hwa (by unfold jD; rw [if_neg (by rw [hcl,hwa]; decide),if_pos hE0]))
          rw [hcl] at y1
          rw [hwa] at y2
          subst hE0
          clear hcl hwa dz xF HG HTl
          go_wp2_with fail
          refine Calls.mono F.out ?_
          rintro e w2 hp
          obtain⟨rfl,wv2,h2,t2⟩:=hp.hub HA.out hlt
          rw [mI] at h2
          have F3:=hid (F2.out wv2 w2 h2 t2)
          clear hp h2 t2 F F2 y1 y2
          go_wp2
          go_roundw
          case rel=>exact⟨n+1,wv2,by omega,by go_num,F3.out.1,F3.out.2⟩
          case measure=>simp [intOf]; omega
        · have F:=hid (HTl.out hwa)
          have F2:=hid (xF.out (IJ (tl ST) (CS n)) hcl hwa (by unfold jD; rw [if_neg (by rw [hcl,hwa]; decide),if_neg hE0]))
          have d1:(E == 0)=false:=by simpa using hE0
          rw [hcl] at y1
          rw [hwa] at y2
          clear hcl hwa dz xF HG HTl hE0
          go_wp2_with fail
          refine Calls.mono F.out ?_
          rintro e w2 hp
          obtain⟨rfl,wv2,h2,t2⟩:=hp.hub HA.out hlt
          rw [mI] at h2
          have F3:=hid (F2.out wv2 w2 h2 t2)
          clear hp h2 t2 F F2 y1 y2
          go_wp2
          go_roundw
          case rel=>exact⟨n+1,wv2,by omega,by go_num,F3.out.1,F3.out.2⟩
          case measure=>simp [intOf]; omega
    · have F:=hid (dz.out (.inl hcl))
      rw [hcl] at y1
      clear hcl dz xF HG HTl
      go_wp2
      go_roundw
      case rel=>exact⟨n+1,wv',by omega,by go_num,F.out,HT.out⟩
      case measure=>simp [intOf]; omega
  · obtain rfl:n=8:=by omega
    have HF:=hid (bI.out wv' wr hA hT)
    clear hA hT
    go_wp2
    go_end0
    exact HF.out
end Go.Proofs.YtbllgmociapjeaaGreatDoor
/- What a hub does: what stays within bounds: plain. -/
namespace Go.Proofs.YtbllgmociapjeaaGreatDoor
open Go.Lib (hid)
section
variable {tl:ah→List UInt8} {rq:ByteArray→aF × Int}
theorem qE {k:Nat} {f:dD}:∀ {fs:List dD} {n:Nat} {H:dM},fs[n]? = some f→dE tl rq k H (fs.take (n+1))=(if ((dE tl rq k H (fs.take n)).cs k).closed=true then dE tl rq k H (fs.take n) else gP tl rq (dE tl rq k H (fs.take n)) k f)
 | [],_,_,h=>by simp at h
 | a :: fs,0,H,h=>by
  have e:a=f:=by simpa using h
  subst e
  rfl
 | a :: fs,n+1,H,h=>by
  have h':fs[n]? = some f:=by simpa using h
  show dE tl rq k _ (fs.take (n+1))=_
  rw [qE h']
  rfl
theorem zG (st:ah) (b:ByteArray) (e:Int) (c:bQ):(jD tl st b e c).aH=c.aH:=by
 unfold jD
 split
 · rfl
 · split <;> rfl
theorem uK (H:dM) (D:aW) (i:Nat):((jr tl H D).cs i).aH=(H.cs i).aH:=by
 show (fA tl H.st (jC D).1 (jC D).2 H.cs 8 i).aH=_
 unfold fA
 split
 · exact zG _ _ _ _
 · rfl
theorem oR {cs:Nat→bQ} {k i:Nat} {c:bQ} (h:c.aH=(cs k).aH):(upd cs k c i).aH=(cs i).aH:=by
 by_cases e:i=k
 · subst e; rw [bB]; exact h
 · rw [upd_ne _ _ e]
theorem yD {H:dM} {k:Nat} {f:dD} (hn:¬ lB (rq f.pay).1) (i:Nat):((gP tl rq H k f).cs i).aH=(H.cs i).aH:=by
 unfold gP
 split
 · exact oR rfl
 · split
   · exact oR rfl
   · unfold eV
     have ha:(eJ tl (rq f.pay).1 (iN H.st H.now (iI H.st H.now (rq f.pay).1)) (H.cs k)).aH=(H.cs k).aH:=by
      unfold eJ
      rw [if_neg (fun h=>hn h.2)]
      rfl
     dsimp only
     split
     · exact (uK _ _ i).trans (oR ha)
     · exact oR ha
theorem ni (e r:Int) (c:bQ):(mq e r c).waits.length≤c.waits.length+6020:=by
 show (c.waits ++ cR 3 4 _).length≤_
 have h2:=jW 3 4 (gK e r).1.data.toList (by have:=j5 e r; simp; omega)
 rw [List.length_append]; omega
theorem zH (htl:∀ st,(tl st).length≤7000) (st:ah) (c:bQ):(IJ (tl st) c).waits.length≤c.waits.length+7000:=by
 show (c.waits ++ tl st).length≤_
 have:=htl st
 rw [List.length_append]; omega
theorem Dv (htl:∀ st,(tl st).length≤7000) (st:ah) (D:aW) (c:bQ):(jD tl st (jC D).1 (jC D).2 c).waits.length≤c.waits.length+7000:=by
 unfold jD
 split
 · omega
 · split
   · show (c.waits ++ cR 3 2 _).length≤_
     have h2:=jW 3 2 (jC D).1.data.toList (by have:=xE D; simpa using this)
     rw [List.length_append]; omega
   · exact zH htl _ _
theorem uB {cs:Nat→bQ} {k:Nat} {c:bQ} {n:Nat} (h:c.waits.length≤(cs k).waits.length+n) (i:Nat):(upd cs k c i).waits.length≤(cs i).waits.length+n:=by
 by_cases e:i=k
 · subst e; rw [bB]; exact h
 · rw [upd_ne _ _ e]; omega
theorem Bn (htl:∀ st,(tl st).length≤7000) (H:dM) (k:Nat) (f:dD) (i:Nat):((gP tl rq H k f).cs i).waits.length≤(H.cs i).waits.length+21000:=by
 have hc:∀ e,((iA H k e).cs i).waits.length≤(H.cs i).waits.length+21000:=fun e=>uB (c:=yE e H.st.rev (H.cs k)) (n:=21000) (Nat.le_trans (ni e H.st.rev (H.cs k)) (by omega)) i
 unfold gP
 split
 · exact hc _
 · split
   · exact hc _
   · unfold eV
     have ha:(eJ tl (rq f.pay).1 (iN H.st H.now (iI H.st H.now (rq f.pay).1)) (H.cs k)).waits.length≤(H.cs k).waits.length+14000:=by
      unfold eJ
      split
      · refine Nat.le_trans (zH htl _ _) ?_
        have:=ni (iN H.st H.now (iI H.st H.now (rq f.pay).1)).e (iN H.st H.now (iI H.st H.now (rq f.pay).1)).st.rev (H.cs k)
        omega
      · refine Nat.le_trans (ni _ _ _) ?_; omega
     dsimp only
     split
     · have h2:∀ (G:dM) (D:aW),((jr tl G D).cs i).waits.length≤(G.cs i).waits.length+7000:=fun G D=>by
        show (fA tl G.st (jC D).1 (jC D).2 G.cs 8 i).waits.length≤_
        unfold fA
        split
        · exact Dv htl _ _ _
        · omega
       refine Nat.le_trans (h2 _ _) ?_
       have:=uB (cs:=H.cs) (k:=k) ha i
       dsimp only at this ⊢
       omega
     · refine Nat.le_trans (uB (cs:=H.cs) (k:=k) ha i) ?_
       omega
theorem lY {k:Nat} (htl:∀ st,(tl st).length≤7000):∀ (fs:List dD) (H:dM),(∀ i,((dE tl rq k H fs).cs i).waits.length≤(H.cs i).waits.length+fs.length*21000)∧((∀ f ∈ fs,¬ lB (rq f.pay).1)→∀ i,((dE tl rq k H fs).cs i).aH=(H.cs i).aH)
 | [],H=>⟨fun _=>Nat.le_add_right _ _,fun _ _=>rfl⟩
 | f :: fs,H=>by
  obtain⟨h1,h2⟩:=lY (k:=k) htl fs (if (H.cs k).closed=true then H else gP tl rq H k f)
  refine⟨fun i=>?_,fun hn i=>?_⟩
  · refine Nat.le_trans (h1 i) ?_
    rw [List.length_cons]
    split
    · omega
    · have:=Bn (rq:=rq) htl H k f i; omega
  · refine (h2 (fun g hg=>hn g (List.mem_cons_of_mem _ hg)) i).trans ?_
    split
    · rfl
    · exact yD (hn f List.mem_cons_self) i
end
end Go.Proofs.YtbllgmociapjeaaGreatDoor
/- The walks of wire.Frame and of the reference's StateFrame. -/
namespace Go.Proofs.YtbllgmociapjeaaGreatDoor
open Go.Lib (hid)
open Go.RowKit
def jE (st:ah) (v:Int):ByteArray × Int:=if (gQ st v).2≠0 then (⟨#[]⟩,(gQ st v).2) else (pJ v 1 (gQ st v).1)
def qF (st:ah) (v:Int) (w:World) (e:Ending) (w':World):Prop:=e = .returned (.tuple #[.string (jE st v).1,.int .i64 (jE st v).2])∧Below w.heap.size w w'
theorem qF.mk' {st:ah} {v E:Int} {s:ByteArray} {w w':World} (h:jE st v=(s,E)) (hb:Below w.heap.size w w'):qF st v w (.returned (.tuple #[.string s,.int .i64 E])) w':=⟨by rw [h],hb⟩
theorem Bo (st:ah) (x:StA) (v:Int) (w:World) (hS:StAt w w.heap.size st x) (hT:Tabs w) :
 Calls Tryz.prog 101 #[.agg (stC st x),.int .i64 v] w (qF st v w):=by
 have hb1:Below w.heap.size w (w.alloc (.cells (stC st x) 26)):=(Below.refl _ _).alloc (Nat.le_refl _) _
 have hC:=zI st x v _ (hS.up hb1) (hT.below hb1)
 have aP:=hid (fun s E (h:jE st v=(s,E)) w'=>qF.mk' (w:=w) (w':=w') h)
 have HF:=hid (show jE st v=if (gQ st v).2≠0 then (⟨#[]⟩,(gQ st v).2) else (pJ v 1 (gQ st v).1) from rfl)
 have Hb1:=hid hb1
 unfold uL at hC
 obtain⟨T,hT2⟩:∃ T,(gQ st v).1=T:=⟨_,rfl⟩
 obtain⟨E,hE2⟩:∃ E,(gQ st v).2=E:=⟨_,rfl⟩
 rw [hT2,hE2] at hC HF
 have HC:=hid hC
 clear hb1 hS hC hT2 hE2 hT
 obtain⟨rev,jobs,nodes,leases⟩:=st
 obtain⟨aj,nj,cj,an,nn,cn,al,nl,cl⟩:=x
 unfold stC at *
 dsimp only at *
 go_enter Tryz.func101,Tryz.ntmps101
 go_wp2_with fail
 refine Calls.mono HC.out ?_
 rintro e w1 ⟨rfl,hb⟩
 have HbA:=hid (Hb1.out.trans (hb.mono Hb1.out.size))
 clear hb HC
 by_cases h0:E=0
 rotate_left
 · have e2:(E != 0)=true:=bne_iff_ne.2 h0
   have hend:=hid (aP.out _ _ (by rw [HF.out,if_pos h0]) _ HbA.out)
   go_wp2
   go_ret2
   exact hend.out
 subst h0
 have hF2:=HF.out
 rw [if_neg (by simp)] at hF2
 have hN:=yF v 1 T w1
 unfold iL at hN
 obtain⟨a,ha⟩:∃ a,(pJ v 1 T).1=a:=⟨_,rfl⟩
 obtain⟨b,hb⟩:∃ b,(pJ v 1 T).2=b:=⟨_,rfl⟩
 rw [ha,hb] at hN
 have HN:=hid hN
 have hend:=hid (aP.out a b (by rw [hF2,← ha,← hb]))
 clear hN ha hb hF2
 go_wp2_with fail
 refine Calls.mono HN.out ?_
 rintro e w2 ⟨rfl,hb⟩
 have hfin:=hid (hend.out _ (HbA.out.trans (hb.mono HbA.out.size)))
 clear hb
 go_wp2
 go_ret2
 exact hfin.out
end Go.Proofs.YtbllgmociapjeaaGreatDoor
/- An argument []string, opened: each piece is within the bulk. -/
namespace Go.Proofs.YtbllgmociapjeaaGreatDoor
open Go.Lib (hid)
open Go.ChangeShapes Go.WideShapes Go.ChangeAt Go.RowKit
theorem xG {H:Type}:∀ l:List ByteArray,∀ s ∈ l,s.size≤Rows.uptoBulkAll (H:=H) (l.map fun s=>.lit (.string s.data.toList))
 | [],_,h=>by cases h
 | a :: l,s,h=>by
  simp only [List.map_cons,Rows.uptoBulkAll,Rows.uptoBulk]
  rcases List.mem_cons.1 h with rfl | h
  · have e:s.data.toList.length=s.size:=by rw [Array.length_toList]; rfl
    omega
  · have:=xG (H:=H) l s h
    omega
theorem wX {H:Type} {enc:TypeId × Value→H} {W:World} {r:Reach} {b0:Nat} {held:Bool} {v:Value} {d:DataW H} {p:List MemPlace}
 (hval:Value.okWide Tryz.prog W r b0 28 v) (hd:DataW.Trod enc Tryz.prog W 0 (fun _=>true) held 28 v d p) (hlt:∀ x ∈ p,x.block<W.heap.size) :
 ∃ (ps:List ByteArray) (A:Option Addr) (n c:Nat),v = .slice A n c∧ps.length=n∧n≤9223372036854775807∧aU W W.heap.size 1 A n (ps.map Value.string)∧∀ s ∈ ps,s.size≤Rows.uptoBulk d:=by
 obtain⟨A,n,c,rfl⟩:=okWide_slice Tryz.underlying28 hval
 obtain⟨fuel,hf⟩:=hd
 rcases Go.Deep.open_strs Tryz.underlying28 Tryz.underlying9 (by kernel_rfl) hf with ⟨h,-⟩ | ⟨a,len,cap,m,Sx,h,hb,hl,hm,hmm,hx,hc⟩
 · simp only [Value.cells,List.cons.injEq,Value.slice.injEq,and_true] at h
   obtain⟨rfl,rfl,rfl⟩:=h
   exact⟨[],none,0,0,rfl,rfl,by omega,aU.nil,fun _ h=>by cases h⟩
 · simp only [Value.cells,List.cons.injEq,Value.slice.injEq,and_true] at h
   obtain⟨rfl,rfl,rfl⟩:=h
   simp only [if_true] at hmm
   subst hmm
   simp only [Prod.mk.injEq] at hx
   obtain⟨rfl,rfl⟩:=hx
   refine⟨(List.range n).map Sx,some a,n,m,rfl,by simp,by unfold maxLen at hm; omega,⟨by simp,fun hn=>?_⟩,fun s hs=>?_⟩
   · obtain⟨b,off,spot⟩:=a
     have h0:=(hc 0 (by omega)).1
     have hspot:spot=none:=by simpa [Addr.add] using World.cell?_spot h0
     subst hspot
     refine⟨b,off,rfl,?_,fun j u hu=>?_⟩
     · exact hlt (.cell b off) (MemPlace.mem_row.2 ⟨0,by omega,rfl⟩)
     · have hj:j<n:=by
        rcases Nat.lt_or_ge j n with h1 | h1
        · exact h1
        · rw [List.getElem?_eq_none (by simpa using h1)] at hu; cases hu
       have hg:=(hc j (by omega)).1
       rw [add_plain] at hg
       rw [hg,← hu]
       simp [hj]
   · have h1:=xG (H:=H) ((List.range n).map Sx) s hs
     rw [List.map_map] at h1
     simp only [Rows.uptoBulk]
     have h2:(List.range n).map ((fun s:ByteArray=>(DataW.lit (.string s.data.toList):DataW H)) ∘ Sx)=(List.range n).map fun i=>.lit (.string (Sx i).data.toList):=rfl
     rw [h2] at h1
     omega
end Go.Proofs.YtbllgmociapjeaaGreatDoor
