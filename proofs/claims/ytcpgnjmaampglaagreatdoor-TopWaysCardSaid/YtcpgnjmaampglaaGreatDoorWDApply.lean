/- Of the proof of a statement: DApply. -/
import Derived.Test.YtcpgnjmaampglaaGreatDoorWChgW
import Derived.Test.YtcpgnjmaampglaaGreatDoorWWEnc
set_option linter.unusedVariables false
set_option linter.unusedSimpArgs false
set_option maxRecDepth 100000
set_option maxHeartbeats 8000000
/- The walk of delta.Apply. -/
namespace Go.Proofs.YtcpgnjmaampglaaGreatDoor
open Go.Lib (hid)
open Go.RowKit
def vE (s:ah) (d:aK) (w:World) (e:Ending) (w':World):Prop:=
 ∃ (st:ah) (x:StA) (E:Int),e = .returned (.tuple #[.agg (stC st x),.int .i64 E])∧gN s d=(st,E)∧StAt w' w'.heap.size st x∧Below w.heap.size w w'
theorem vE.none_ {s:ah} {d:aK} {E:Int} {w w':World} (h:gN s d=(aY,E)) (hb:Below w.heap.size w w'):vE s d w (.returned (.tuple #[.agg iT,.int .i64 E])) w':=
 ⟨aY,Nf,E,rfl,h,zeroAt _ _,hb⟩
structure ApAt (w0:World) (st:ah) (x:StA) (d:aK) (y:eW) (O:Nat) (oc:Array Value) (wr:World):Prop where
 below:Below w0.heap.size w0 wr
 s:Blk wr w0.heap.size 26 (stC st x)
 d:Blk wr (w0.heap.size+1) 48 (dC d y)
 r:Blk wr (w0.heap.size+2) 26 iT
 o:Blk wr O 26 oc
 lo:w0.heap.size+2<O
theorem ApAt.kept {w0 w w':World} {st:ah} {x:StA} {d:aK} {y:eW} {O:Nat} {oc:Array Value} (h:ApAt w0 st x d y O oc w) (hb:Below w.heap.size w w'):ApAt w0 st x d y O oc w':=
 ⟨h.below.trans (hb.mono h.below.size),h.s.below hb h.s.lt,h.d.below hb h.d.lt,h.r.below hb h.r.lt,h.o.below hb h.o.lt,h.lo⟩
theorem ApAt.set {w0 w:World} {st:ah} {x:StA} {d:aK} {y:eW} {O:Nat} {oc oc':Array Value} (h:ApAt w0 st x d y O oc w) (i:Nat) (v:Value) (e:oc.setIfInBounds i v=oc'):ApAt w0 st x d y O oc' (w.setCell ⟨O,i,none⟩ v):=
 have hl:=h.lo
 ⟨aJ h.below (aC w O i v) (by omega),aA (aC w O i v) h.s (by omega),aA (aC w O i v) h.d (by omega),aA (aC w O i v) h.r (by omega),Blk.eq (h.o.set i v) e,hl⟩
def sL {α:Type} (key:α→ByteArray) (T:TypeId) (sz:Nat) (enc:α→List Value) (rows set:List α) (gone:List ByteArray) (b:Nat) (w:World) (A:Option Addr) (n c:Nat) (t:Bool):Prop:=
 aW key rows gone = !t∧(t=true→n=(bR key rows set gone).length∧w.ownsRow b T sz (.slice A n c) n (au enc (bR key rows set gone)))
theorem tN.got {α:Type} {key:α→ByteArray} {T:TypeId} {sz:Nat} {enc:α→List Value} {rows set:List α} {gone:List ByteArray} {w w':World} {e:Ending} (h:tN key T sz enc rows set gone w e w') :
 ∃ A n c t,e = .returned (.tuple #[.slice A n c,.bool t])∧sL key T sz enc rows set gone w.heap.size w' A n c t∧Below w.heap.size w w':=by
 obtain⟨hb,⟨hm,rfl⟩ | ⟨hm,A,c,rfl,ho⟩⟩:=h
 · exact⟨none,0,0,false,rfl,⟨hm,fun h=>by cases h⟩,hb⟩
 · exact⟨A,_,c,true,rfl,⟨hm,fun _=>⟨rfl,ho⟩⟩,hb⟩
section
variable {α:Type} {key:α→ByteArray} {T:TypeId} {sz:Nat} {enc:α→List Value} {rows set:List α} {gone:List ByteArray} {b:Nat} {w w':World} {A:Option Addr} {n c:Nat} {t:Bool}
theorem sL.kept (h:sL key T sz enc rows set gone b w A n c t) (hb:Below w.heap.size w w'):sL key T sz enc rows set gone b w' A n c t:=
 ⟨h.1,fun ht=>⟨(h.2 ht).1,aU (h.2 ht).2 hb⟩⟩
theorem sL.stored {O i:Nat} {v:Value} (h:sL key T sz enc rows set gone b w A n c t) (hO:O<b):sL key T sz enc rows set gone b (w.setCell ⟨O,i,none⟩ v) A n c t:=
 ⟨h.1,fun ht=>⟨(h.2 ht).1,aD (h.2 ht).2 (aC w O i v) hO⟩⟩
theorem vF {W:World} {B:Nat} {w2:World} {g:Nat} {t:TypeId} {cs:Array Value} {sz n:Nat} {A:Option Addr} {xs:List Value} (h:aQ W B sz A n xs) (hb:Blk W g t cs) (hc:∀ v ∈ cs,∀ s,v ≠ .string s) (h0:0<n→∃ s,xs[0]? = some (.string s)) (hg:W.grownBy w2 (some g)):aQ w2 B sz A n xs:=
 ⟨h.len,fun hn=>by
  obtain⟨b,off,e,hB,hr⟩:=h.at_ hn
  obtain⟨s,hs⟩:=h0 hn
  have h1:=hr 0 _ hs
  have hne:b≠g:=fun e=>by
   subst e
   rw [hb.cell] at h1
   exact hc _ (Array.mem_of_getElem? h1) s rfl
  exact⟨b,off,e,hB,fun j u hu=>gS hg hne (hr j u hu)⟩⟩
theorem yM {α:Type} {enc:α→List Value} (f:α→ByteArray) (hf:∀ a,∃ r,enc a = .string (f a) :: r) {l:List α} {n:Nat} (h:l.length=n) (hn:0<n):∃ s,(au enc l)[0]? = some (.string s):=by
 cases l with
 | nil=>simp at h; omega
 | cons a l=>
  obtain⟨r,hr⟩:=hf a
  exact⟨f a,by simp [au,hr]⟩
theorem StAt.butZ {W w2:World} {B g:Nat} {t:TypeId} {cs:Array Value} {st:ah} {x:StA} (h:StAt W B st x) (hb:Blk W g t cs) (hc:∀ v ∈ cs,∀ s,v ≠ .string s) (hg:W.grownBy w2 (some g)):StAt w2 B st x:=
 ⟨vF h.j hb hc (fun hn=>yM aB.name (fun a=>⟨_,rfl⟩) h.lj hn) hg,vF h.n hb hc (fun hn=>yM av.name (fun a=>⟨_,rfl⟩) h.ln hn) hg,vF h.l hb hc (fun hn=>yM ak.job (fun a=>⟨_,rfl⟩) h.ll hn) hg,
  h.lj,h.ln,h.ll,h.bj,h.bn,h.bl,h.oj,h.on_,h.ol⟩
theorem Cs {base:Nat} {e:TypeId} {v:Value} {xs:List Value} (h:w.ownsRow base e sz v n xs):n≤9223372036854775807:=by
 rcases h.2 with ⟨_,rfl⟩ | ⟨g,cap,cur,_,_,_,h1,h2,_⟩
 · exact Nat.zero_le _
 · unfold maxLen at h2; omega
end
theorem I0 (st:ah) (x:StA) (d:aK) (y:eW) (w:World) (hS:StAt w w.heap.size st x) (hD:dM w w.heap.size d y) (hT:Tabs w) (hf1 : -9223372036854775808≤d.from_) (hf2:d.from_≤9223372036854775807) :
 Calls Tryz.prog 15 #[.agg (stC st x),.agg (dC d y)] w (vE st d w):=by
 have gM:=hid (fun E (h:gN st d=(aY,E)) w'=>vE.none_ (w:=w) (w':=w') h)
 have Hok:=hid (fun (st':ah) (x':StA) (h:gN st d=(st',0)) w' (hs:StAt w' w'.heap.size st' x') (hb:Below w.heap.size w w')=>(⟨st',x',0,rfl,h,hs,hb⟩:vE st d w (.returned (.tuple #[.agg (stC st' x'),.int .i64 0])) w'))
 have Ec:=hid (fun h=>KN (s:=st) (d:=d) h)
 have Ed:=hid (fun h h2=>KO (s:=st) (d:=d) h h2)
 have Eo:=hid (fun h h2 h3=>Pv (s:=st) (d:=d) h h2 h3)
 have En:=hid (fun h h2 h3 h4=>Ng (s:=st) (d:=d) h h2 h3 h4)
 have Eb:=hid (fun h h2 h3 h4 h5 h6 h7=>Pw (s:=st) (d:=d) h h2 h3 h4 h5 h6 h7)
 have Ek:=hid (fun h h2 h3 h4 h5 h6 h7=>QM (s:=st) (d:=d) h h2 h3 h4 h5 h6 h7)
 have Kn:=hid (fun h h2=>Px (s:=st) (d:=d) h h2)
 have Mj:=hid (fun z h=>vG (key:=aB.name) (rows:=st.jobs) (set:=d.jobs) (gone:=d.gj) (z:=z) h)
 have Mn:=hid (fun z h=>vG (key:=av.name) (rows:=st.nodes) (set:=d.nodes) (gone:=d.gn) (z:=z) h)
 have Ml:=hid (fun z h=>vG (key:=ak.job) (rows:=st.leases) (set:=d.leases) (gone:=d.gl) (z:=z) h)
 have HS:=hid hS
 have HD:=hid hD
 have HF:=hid (And.intro hf1 hf2)
 have HT0:=hid hT
 obtain⟨w1,hw1⟩:∃ w1,((w.alloc (.cells (stC st x) 26)).alloc (.cells (dC d y) 48)).alloc (.cells iT 26)=w1:=⟨_,rfl⟩
 have hs1:w1.heap.size=w.heap.size+3:=by rw [← hw1]; simp
 have hb1:Below w.heap.size w w1:=by rw [← hw1]; exact (((Below.refl _ w).alloc (Nat.le_refl _) _).alloc (by simp) _).alloc (by simp; omega) _
 have hBS:Blk w1 w.heap.size 26 (stC st x):=by rw [← hw1]; exact ((show Blk (w.alloc (.cells (stC st x) 26)) w.heap.size 26 _ from heap_alloc_new w _).alloc _).alloc _
 have hBD:Blk w1 (w.heap.size+1) 48 (dC d y):=by
  rw [← hw1]
  have h:=heap_alloc_new (w.alloc (.cells (stC st x) 26)) (.cells (dC d y) 48)
  rw [show (w.alloc (.cells (stC st x) 26)).heap.size=w.heap.size+1 by simp] at h
  exact (show Blk _ _ _ _ from h).alloc _
 have hBR:Blk w1 (w.heap.size+2) 26 iT:=by
  rw [← hw1]
  have h:=heap_alloc_new ((w.alloc (.cells (stC st x) 26)).alloc (.cells (dC d y) 48)) (.cells iT 26)
  rwa [show ((w.alloc (.cells (stC st x) 26)).alloc (.cells (dC d y) 48)).heap.size=w.heap.size+2 by simp] at h
 have HW1:=hid hw1
 have HB1:=hid hb1
 have HBS:=hid hBS
 have HBD:=hid hBD
 have HBR:=hid hBR
 have HT1:=hid (hT.below hb1)
 have Hc1:=hid (fq st x w1 ((hS.below hb1).more hb1.size) (hT.below hb1))
 clear hw1 hb1 hBS hBD hBR hS hD hT hf1 hf2
 obtain⟨rev,jobs,nodes,leases⟩:=st
 obtain⟨aj,nj,cj,an,nn,cn,al,nl,cl⟩:=x
 obtain⟨from_,to_,mR,jw,gO,ggj,ggn,ggl⟩:=d
 obtain⟨bj,mj,ej,bn,mn,en,bl,ml,el,gj,qj,fj,gn,qn,fn,gl,ql,fl⟩:=y
 simp only [stC,dC] at HW1 HBS HBD Hc1
 simp only [stC,dC]
 go_enter Tryz.func15,Tryz.ntmps15
 obtain⟨s0,s1,s2,s3⟩:=Blk.c4 (HBS.out)
 rw [← HW1.out] at s0 s1 s2 s3
 go_wp2_with fail
 rw [HW1.out]
 refine Calls.mono Hc1.out ?_
 rintro e w2 ⟨rfl,hb2⟩
 clear s0 s1 s2 s3
 have HB2:=hid (HB1.out.trans (hb2.mono HB1.out.size))
 have HS2:=hid (HBS.out.below hb2 HBS.out.lt)
 have HD2:=hid (HBD.out.below hb2 HBD.out.lt)
 have HR2:=hid (HBR.out.below hb2 HBR.out.lt)
 have HT2:=hid (HT1.out.below hb2)
 have hlr:=HR2.out.lt
 clear hb2 hs1 HW1 HBS HBD HBR HT1 Hc1
 obtain⟨E,hE⟩:∃ E,ay (⟨rev,jobs,nodes,leases⟩:ah)=E:=⟨_,rfl⟩
 rw [hE]
 by_cases he:E=0
 rotate_left
 · have hend:=hid (gM.out E (by rw [Ec.out (by rw [hE]; exact he),hE]))
   have e1:(E == 0)=false:=beq_eq_false_iff_ne.2 he
   have e2:(E != 0)=true:=bne_iff_ne.2 he
   obtain⟨r0,r1,r2,r3⟩:=Blk.c4 (HR2.out)
   obtain⟨z0,z1,z2,z3⟩:=Blk.z4 (HR2.out)
   obtain⟨hbl,hgr⟩:=Blk.S4 (HR2.out) (.int .i64 0) (.slice none 0 0) (.slice none 0 0) (.slice none 0 0)
   obtain⟨q0,q1,q2,q3⟩:=Blk.c4 hbl
   have hfin:=hend.out _ (aJ HB2.out hgr (by omega))
   have bJ:=hid hfin
   clear hbl hgr hfin
   go_wp2
   refine bodyPost_ret (v:=.tuple #[.agg #[.int .i64 0,.slice none 0 0,.slice none 0 0,.slice none 0 0],.int .i64 E]) (by simp [results,Tryz.f15,go_sem,q0,q1,q2,q3]) rfl ?_
   exact bJ.out
 subst he
 have HE:=hid hE
 clear hE
 have Hc2:=hid (yN (⟨from_,to_,mR,jw,gO,ggj,ggn,ggl⟩:aK) (⟨bj,mj,ej,bn,mn,en,bl,ml,el,gj,qj,fj,gn,qn,fn,gl,ql,fl⟩:eW) w2 ((HD.out.below HB2.out).more HB2.out.size) HT2.out HF.out.1 HF.out.2)
 simp only [dC] at Hc2
 obtain⟨d0,d1,d2,d3,d4,d5,d6,d7⟩:=Blk.c8 (HD2.out)
 go_wp2_with fail
 refine Calls.mono Hc2.out ?_
 rintro e w3 ⟨rfl,hb3⟩
 clear d0 d1 d2 d3 d4 d5 d6 d7
 have HB3:=hid (HB2.out.trans (hb3.mono HB2.out.size))
 have HS3:=hid (HS2.out.below hb3 HS2.out.lt)
 have HD3:=hid (HD2.out.below hb3 HD2.out.lt)
 have HR3:=hid (HR2.out.below hb3 HR2.out.lt)
 have HT3:=hid (HT2.out.below hb3)
 have hlr:=HR3.out.lt
 clear hb3 HS2 HD2 HR2 HB2 HT2 Hc2
 obtain⟨E,hE⟩:∃ E,cW (⟨from_,to_,mR,jw,gO,ggj,ggn,ggl⟩:aK)=E:=⟨_,rfl⟩
 rw [hE]
 by_cases he:E=0
 rotate_left
 · have hend:=hid (gM.out E (by rw [Ed.out HE.out (by rw [hE]; exact he),hE]))
   have e1:(E == 0)=false:=beq_eq_false_iff_ne.2 he
   have e2:(E != 0)=true:=bne_iff_ne.2 he
   obtain⟨r0,r1,r2,r3⟩:=Blk.c4 (HR3.out)
   obtain⟨z0,z1,z2,z3⟩:=Blk.z4 (HR3.out)
   obtain⟨hbl,hgr⟩:=Blk.S4 (HR3.out) (.int .i64 0) (.slice none 0 0) (.slice none 0 0) (.slice none 0 0)
   obtain⟨q0,q1,q2,q3⟩:=Blk.c4 hbl
   have hfin:=hend.out _ (aJ HB3.out hgr (by omega))
   have bJ:=hid hfin
   clear hbl hgr hfin
   go_wp2
   refine bodyPost_ret (v:=.tuple #[.agg #[.int .i64 0,.slice none 0 0,.slice none 0 0,.slice none 0 0],.int .i64 E]) (by simp [results,Tryz.f15,go_sem,q0,q1,q2,q3]) rfl ?_
   exact bJ.out
 subst he
 have HE2:=hid hE
 clear hE
 have d0:w3.cell? ⟨w.heap.size+1,0,none⟩=some (.int .i64 from_):=HD3.out.cell 0
 have s0:w3.cell? ⟨w.heap.size,0,none⟩=some (.int .i64 rev):=HS3.out.cell 0
 by_cases hfr:from_=rev
 rotate_left
 · have hend:=hid (gM.out 10 (Eo.out HE.out HE2.out hfr))
   have e1:(from_ == rev)=false:=beq_eq_false_iff_ne.2 hfr
   have e2:(from_ != rev)=true:=bne_iff_ne.2 hfr
   obtain⟨r0,r1,r2,r3⟩:=Blk.c4 (HR3.out)
   obtain⟨z0,z1,z2,z3⟩:=Blk.z4 (HR3.out)
   obtain⟨hbl,hgr⟩:=Blk.S4 (HR3.out) (.int .i64 0) (.slice none 0 0) (.slice none 0 0) (.slice none 0 0)
   obtain⟨q0,q1,q2,q3⟩:=Blk.c4 hbl
   have hfin:=hend.out _ (aJ HB3.out hgr (by omega))
   have bJ:=hid hfin
   clear hbl hgr hfin hfr
   go_wp2
   refine bodyPost_ret (v:=.tuple #[.agg #[.int .i64 0,.slice none 0 0,.slice none 0 0,.slice none 0 0],.int .i64 10]) (by simp [results,Tryz.f15,go_sem,q0,q1,q2,q3]) rfl ?_
   exact bJ.out
 have HFr:=hid hfr
 have e1:(from_ == rev)=true:=beq_iff_eq.2 hfr
 have e2:(from_ != rev)=false:=by rw [bne,e1]; rfl
 clear hfr
 have HK:=hid (Kn.out HE.out HE2.out)
 have d1:w3.cell? ⟨w.heap.size+1,1,none⟩=some (.int .i64 to_):=HD3.out.cell 1
 have HO3:=hid (show ApAt w ⟨rev,jobs,nodes,leases⟩ ⟨aj,nj,cj,an,nn,cn,al,nl,cl⟩ ⟨from_,to_,mR,jw,gO,ggj,ggn,ggl⟩ ⟨bj,mj,ej,bn,mn,en,bl,ml,el,gj,qj,fj,gn,qn,fn,gl,ql,fl⟩ w3.heap.size #[.int .i64 to_,.slice none 0 0,.slice none 0 0,.slice none 0 0] (w3.alloc (.cells #[.int .i64 to_,.slice none 0 0,.slice none 0 0,.slice none 0 0] 26)) from
  ⟨HB3.out.alloc HB3.out.size _,HS3.out.alloc _,HD3.out.alloc _,HR3.out.alloc _,heap_alloc_new w3 _,hlr⟩)
 obtain⟨w4,hw4⟩:∃ w4,w3.alloc (.cells #[.int .i64 to_,.slice none 0 0,.slice none 0 0,.slice none 0 0] 26)=w4:=⟨_,rfl⟩
 rw [hw4] at HO3
 have HW4:=hid hw4
 have HB0:=hid HB3.out.size
 clear hw4 HB3 HS3 HD3 HR3 HT3
 have hsb:∀ (W:World),Below w.heap.size w W→StAt W W.heap.size (⟨rev,jobs,nodes,leases⟩:ah) ⟨aj,nj,cj,an,nn,cn,al,nl,cl⟩∧dM W W.heap.size (⟨from_,to_,mR,jw,gO,ggj,ggn,ggl⟩:aK) (⟨bj,mj,ej,bn,mn,en,bl,ml,el,gj,qj,fj,gn,qn,fn,gl,ql,fl⟩:eW):=fun W hb=>⟨(HS.out.below hb).more hb.size,(HD.out.below hb).more hb.size⟩
 have HSB:=hid hsb
 have hO:w3.heap.size<w4.heap.size:=HO3.out.o.lt
 have hlo:=HO3.out.lo
 clear hsb
 have a1:w4.cell? ⟨w.heap.size,1,none⟩=some (.slice aj nj cj):=HO3.out.s.cell 1
 have a2:w4.cell? ⟨w.heap.size+1,2,none⟩=some (.slice bj mj ej):=HO3.out.d.cell 2
 have a3:w4.cell? ⟨w.heap.size+1,5,none⟩=some (.slice gj qj fj):=HO3.out.d.cell 5
 have HC0:=hid (Dq jobs mR ggj aj bj gj nj cj mj ej qj fj w4 (HSB.out _ HO3.out.below).1.j HS.out.lj (by have h1:=HS.out.lj; have h2:=HK.out.nsj; simp only at h1 h2; omega) (HSB.out _ HO3.out.below).2.j HD.out.lj (by have h1:=HD.out.lj; have h2:=HK.out.ndj; simp only at h1 h2; omega)
  (HSB.out _ HO3.out.below).2.gj HD.out.lgj (by have h1:=HD.out.lgj; have h2:=HK.out.ngj; simp only at h1 h2; omega) HK.out.sj HK.out.dj HK.out.gj (fun z hz=>(HS.out.oj z hz).1) (fun z hz=>(HD.out.oj z hz).1) (fun z hz=>HD.out.ogj z hz))
 rw [← HW4.out] at a1 a2 a3
 go_wp2_with fail
 rw [HW4.out]
 clear HW4 d0 d1 s0 e1 e2
 refine Calls.mono HC0.out ?_
 intro e w5 hp
 obtain⟨Pj,Nj,Cj,tj,rfl,DA,hbx⟩:=hp.got
 have HO4:=hid (HO3.out.kept hbx)
 have hsz0:=hbx.size
 have Gj:=hid DA
 clear hp DA hbx a1 a2 a3 HC0 HO3
 have o1:w5.cell? ⟨w3.heap.size,1,none⟩=some (.slice none 0 0):=HO4.out.o.cell 1
 have y1:w5.frozen? ⟨w3.heap.size,1,none⟩=false:=HO4.out.o.thaw 1
 have HO4:=hid (HO4.out.set 1 (.slice Pj Nj Cj) (show _=#[.int .i64 to_,.slice Pj Nj Cj,.slice none 0 0,.slice none 0 0] from rfl))
 have hsw0:(w5.setCell ⟨w3.heap.size,1,none⟩ (.slice Pj Nj Cj)).heap.size=w5.heap.size:=by simp [World.setCell]
 have Gj:=hid (Gj.out.stored (O:=w3.heap.size) (i:=1) (v:=.slice Pj Nj Cj) (by omega))
 have a1:(w5.setCell ⟨w3.heap.size,1,none⟩ (.slice Pj Nj Cj)).cell? ⟨w.heap.size,2,none⟩=some (.slice an nn cn):=HO4.out.s.cell 2
 have a2:(w5.setCell ⟨w3.heap.size,1,none⟩ (.slice Pj Nj Cj)).cell? ⟨w.heap.size+1,3,none⟩=some (.slice bn mn en):=HO4.out.d.cell 3
 have a3:(w5.setCell ⟨w3.heap.size,1,none⟩ (.slice Pj Nj Cj)).cell? ⟨w.heap.size+1,6,none⟩=some (.slice gn qn fn):=HO4.out.d.cell 6
 have HC1:=hid (Cg nodes jw ggn an bn gn nn cn mn en qn fn (w5.setCell ⟨w3.heap.size,1,none⟩ (.slice Pj Nj Cj)) (HSB.out _ HO4.out.below).1.n HS.out.ln (by have h1:=HS.out.ln; have h2:=HK.out.nsn; simp only at h1 h2; omega) (HSB.out _ HO4.out.below).2.n HD.out.ln (by have h1:=HD.out.ln; have h2:=HK.out.ndn; simp only at h1 h2; omega)
  (HSB.out _ HO4.out.below).2.gn HD.out.lgn (by have h1:=HD.out.lgn; have h2:=HK.out.ngn; simp only at h1 h2; omega) HK.out.sn HK.out.dn HK.out.gn (fun z hz=>(HS.out.on_ z hz).1) (fun z hz=>(HD.out.on_ z hz).1) (fun z hz=>HD.out.ogn z hz))
 go_wp2_with fail
 refine Calls.mono HC1.out ?_
 intro e w7 hp
 obtain⟨Pn,Nn,Cn,tn,rfl,DA,hbx⟩:=hp.got
 have HO5:=hid (HO4.out.kept hbx)
 have hsz1:=hbx.size
 have Gj:=hid (Gj.out.kept hbx)
 have Gn:=hid DA
 clear hp DA hbx a1 a2 a3 HC1 HO4
 have o2:w7.cell? ⟨w3.heap.size,2,none⟩=some (.slice none 0 0):=HO5.out.o.cell 2
 have y2:w7.frozen? ⟨w3.heap.size,2,none⟩=false:=HO5.out.o.thaw 2
 have HO5:=hid (HO5.out.set 2 (.slice Pn Nn Cn) (show _=#[.int .i64 to_,.slice Pj Nj Cj,.slice Pn Nn Cn,.slice none 0 0] from rfl))
 have hsw1:(w7.setCell ⟨w3.heap.size,2,none⟩ (.slice Pn Nn Cn)).heap.size=w7.heap.size:=by simp [World.setCell]
 have Gj:=hid (Gj.out.stored (O:=w3.heap.size) (i:=2) (v:=.slice Pn Nn Cn) (by omega))
 have Gn:=hid (Gn.out.stored (O:=w3.heap.size) (i:=2) (v:=.slice Pn Nn Cn) (by omega))
 have a1:(w7.setCell ⟨w3.heap.size,2,none⟩ (.slice Pn Nn Cn)).cell? ⟨w.heap.size,3,none⟩=some (.slice al nl cl):=HO5.out.s.cell 3
 have a2:(w7.setCell ⟨w3.heap.size,2,none⟩ (.slice Pn Nn Cn)).cell? ⟨w.heap.size+1,4,none⟩=some (.slice bl ml el):=HO5.out.d.cell 4
 have a3:(w7.setCell ⟨w3.heap.size,2,none⟩ (.slice Pn Nn Cn)).cell? ⟨w.heap.size+1,7,none⟩=some (.slice gl ql fl):=HO5.out.d.cell 7
 have HC2:=hid (AU leases gO ggl al bl gl nl cl ml el ql fl (w7.setCell ⟨w3.heap.size,2,none⟩ (.slice Pn Nn Cn)) (HSB.out _ HO5.out.below).1.l HS.out.ll (by have h1:=HS.out.ll; have h2:=HK.out.nsl; simp only at h1 h2; omega) (HSB.out _ HO5.out.below).2.l HD.out.ll (by have h1:=HD.out.ll; have h2:=HK.out.ndl; simp only at h1 h2; omega)
  (HSB.out _ HO5.out.below).2.gl HD.out.lgl (by have h1:=HD.out.lgl; have h2:=HK.out.ngl; simp only at h1 h2; omega) HK.out.sl HK.out.dl HK.out.gl (fun z hz=>(HS.out.ol z hz).1) (fun z hz=>(HD.out.ol z hz).1) (fun z hz=>HD.out.ogl z hz))
 go_wp2_with fail
 refine Calls.mono HC2.out ?_
 intro e w9 hp
 obtain⟨Pl,Nl,Cl,tl,rfl,DA,hbx⟩:=hp.got
 have HO6:=hid (HO5.out.kept hbx)
 have hsz2:=hbx.size
 have Gj:=hid (Gj.out.kept hbx)
 have Gn:=hid (Gn.out.kept hbx)
 have Gl:=hid DA
 clear hp DA hbx a1 a2 a3 HC2 HO5
 have o3:w9.cell? ⟨w3.heap.size,3,none⟩=some (.slice none 0 0):=HO6.out.o.cell 3
 have y3:w9.frozen? ⟨w3.heap.size,3,none⟩=false:=HO6.out.o.thaw 3
 have HO6:=hid (HO6.out.set 3 (.slice Pl Nl Cl) (show _=#[.int .i64 to_,.slice Pj Nj Cj,.slice Pn Nn Cn,.slice Pl Nl Cl] from rfl))
 have hsw2:(w9.setCell ⟨w3.heap.size,3,none⟩ (.slice Pl Nl Cl)).heap.size=w9.heap.size:=by simp [World.setCell]
 have Gj:=hid (Gj.out.stored (O:=w3.heap.size) (i:=3) (v:=.slice Pl Nl Cl) (by omega))
 have Gn:=hid (Gn.out.stored (O:=w3.heap.size) (i:=3) (v:=.slice Pl Nl Cl) (by omega))
 have Gl:=hid (Gl.out.stored (O:=w3.heap.size) (i:=3) (v:=.slice Pl Nl Cl) (by omega))
 have HB:=hid HO6.out.below
 have HR:=hid HO6.out.r
 have hlo:=HO6.out.lo
 generalize hwz:(w9.setCell ⟨w3.heap.size,3,none⟩ (.slice Pl Nl Cl))=wz at HB HR HO6 Gj Gn Gl hsw2
 have HWZ:=hid hwz
 clear hwz
 cases tj
 · have hm:aW aB.name jobs ggj=true:=Gj.out.1
   have hend:=hid (gM.out 6 (En.out HE.out HE2.out HFr.out (by show (aW aB.name jobs ggj || aW av.name nodes ggn || aW ak.job leases ggl)=true; rw [hm]; simp)))
   clear hm
   obtain⟨r0,r1,r2,r3⟩:=Blk.c4 (HR.out)
   obtain⟨z0,z1,z2,z3⟩:=Blk.z4 (HR.out)
   obtain⟨hbl,hgr⟩:=Blk.S4 (HR.out) (.int .i64 0) (.slice none 0 0) (.slice none 0 0) (.slice none 0 0)
   obtain⟨q0,q1,q2,q3⟩:=Blk.c4 hbl
   have bJ:=hid (hend.out _ (aJ HB.out hgr (by omega)))
   clear hbl hgr
   rw [← HWZ.out] at bJ r0 z0 q0 r1 z1 q1 r2 z2 q2 r3 z3 q3
   go_wp2
   refine bodyPost_ret (v:=.tuple #[.agg #[.int .i64 0,.slice none 0 0,.slice none 0 0,.slice none 0 0],.int .i64 6]) (by simp [results,Tryz.f15,go_sem,q0,q1,q2,q3]) rfl ?_
   exact bJ.out
 cases tn
 · have hm:aW av.name nodes ggn=true:=Gn.out.1
   have hend:=hid (gM.out 6 (En.out HE.out HE2.out HFr.out (by show (aW aB.name jobs ggj || aW av.name nodes ggn || aW ak.job leases ggl)=true; rw [hm]; simp)))
   clear hm
   obtain⟨r0,r1,r2,r3⟩:=Blk.c4 (HR.out)
   obtain⟨z0,z1,z2,z3⟩:=Blk.z4 (HR.out)
   obtain⟨hbl,hgr⟩:=Blk.S4 (HR.out) (.int .i64 0) (.slice none 0 0) (.slice none 0 0) (.slice none 0 0)
   obtain⟨q0,q1,q2,q3⟩:=Blk.c4 hbl
   have bJ:=hid (hend.out _ (aJ HB.out hgr (by omega)))
   clear hbl hgr
   rw [← HWZ.out] at bJ r0 z0 q0 r1 z1 q1 r2 z2 q2 r3 z3 q3
   go_wp2
   refine bodyPost_ret (v:=.tuple #[.agg #[.int .i64 0,.slice none 0 0,.slice none 0 0,.slice none 0 0],.int .i64 6]) (by simp [results,Tryz.f15,go_sem,q0,q1,q2,q3]) rfl ?_
   exact bJ.out
 cases tl
 · have hm:aW ak.job leases ggl=true:=Gl.out.1
   have hend:=hid (gM.out 6 (En.out HE.out HE2.out HFr.out (by show (aW aB.name jobs ggj || aW av.name nodes ggn || aW ak.job leases ggl)=true; rw [hm]; simp)))
   clear hm
   obtain⟨r0,r1,r2,r3⟩:=Blk.c4 (HR.out)
   obtain⟨z0,z1,z2,z3⟩:=Blk.z4 (HR.out)
   obtain⟨hbl,hgr⟩:=Blk.S4 (HR.out) (.int .i64 0) (.slice none 0 0) (.slice none 0 0) (.slice none 0 0)
   obtain⟨q0,q1,q2,q3⟩:=Blk.c4 hbl
   have bJ:=hid (hend.out _ (aJ HB.out hgr (by omega)))
   clear hbl hgr
   rw [← HWZ.out] at bJ r0 z0 q0 r1 z1 q1 r2 z2 q2 r3 z3 q3
   go_wp2
   refine bodyPost_ret (v:=.tuple #[.agg #[.int .i64 0,.slice none 0 0,.slice none 0 0,.slice none 0 0],.int .i64 6]) (by simp [results,Tryz.f15,go_sem,q0,q1,q2,q3]) rfl ?_
   exact bJ.out
 have Kj:=hid (show aW aB.name jobs ggj=false from Gj.out.1)
 have Kn':=hid (show aW av.name nodes ggn=false from Gn.out.1)
 have Kl:=hid (show aW ak.job leases ggl=false from Gl.out.1)
 obtain⟨rfl,hoj⟩:=Gj.out.2 rfl
 obtain⟨rfl,hon⟩:=Gn.out.2 rfl
 obtain⟨rfl,hol⟩:=Gl.out.2 rfl
 have hsz':StAt wz wz.heap.size (kJ (⟨rev,jobs,nodes,leases⟩:ah) (⟨from_,to_,mR,jw,gO,ggj,ggn,ggl⟩:aK)) ⟨Pj,(bR aB.name jobs mR ggj).length,Cj,Pn,(bR av.name nodes jw ggn).length,Cn,Pl,(bR ak.job leases gO ggl).length,Cl⟩:=
  ⟨cD hoj,cD hon,cD hol,rfl,rfl,rfl,Cs hoj,Cs hon,Cs hol,
   fun z hz=>(Mj.out z hz).elim (HS.out.oj z) (HD.out.oj z),fun z hz=>(Mn.out z hz).elim (HS.out.on_ z) (HD.out.on_ z),fun z hz=>(Ml.out z hz).elim (HS.out.ol z) (HD.out.ol z)⟩
 have HZ:=hid hsz'
 have HCk:=hid (fq _ _ wz hsz' (HT0.out.below HB.out))
 have HOz:=hid HO6.out.o
 have hOl:=HO6.out.o.lt
 clear HO6 Gj Gn Gl hoj hon hol hsz'
 rw [show kJ (⟨rev,jobs,nodes,leases⟩:ah) (⟨from_,to_,mR,jw,gO,ggj,ggn,ggl⟩:aK)=⟨to_,bR aB.name jobs mR ggj,bR av.name nodes jw ggn,bR ak.job leases gO ggl⟩ from rfl] at HCk
 simp only [stC] at HCk
 obtain⟨o0,o1,o2,o3⟩:=Blk.c4 (HOz.out)
 rw [← HWZ.out] at o0 o1 o2 o3
 go_wp2_with fail
 rw [HWZ.out]
 refine Calls.mono HCk.out ?_
 rintro e wc ⟨rfl,hbc⟩
 have HBc:=hid (HB.out.trans (hbc.mono HB.out.size))
 have HRc:=hid (HR.out.below hbc HR.out.lt)
 have HOc:=hid (HOz.out.below hbc HOz.out.lt)
 have HZc:=hid ((HZ.out.below hbc).more hbc.size)
 clear hbc o0 o1 o2 o3 HB HR HOz HZ HCk HWZ
 obtain⟨E,hE⟩:∃ E,ay (kJ (⟨rev,jobs,nodes,leases⟩:ah) (⟨from_,to_,mR,jw,gO,ggj,ggn,ggl⟩:aK))=E:=⟨_,rfl⟩
 rw [show ay (⟨to_,bR aB.name jobs mR ggj,bR av.name nodes jw ggn,bR ak.job leases gO ggl⟩:ah)=E from hE]
 by_cases he:E=0
 rotate_left
 · have hend:=hid (gM.out E (by rw [Eb.out HE.out HE2.out HFr.out Kj.out Kn'.out Kl.out (by rw [hE]; exact he),hE]))
   have e1:(E == 0)=false:=beq_eq_false_iff_ne.2 he
   have e2:(E != 0)=true:=bne_iff_ne.2 he
   obtain⟨r0,r1,r2,r3⟩:=Blk.c4 (HRc.out)
   obtain⟨z0,z1,z2,z3⟩:=Blk.z4 (HRc.out)
   obtain⟨hbl,hgr⟩:=Blk.S4 (HRc.out) (.int .i64 0) (.slice none 0 0) (.slice none 0 0) (.slice none 0 0)
   obtain⟨q0,q1,q2,q3⟩:=Blk.c4 hbl
   have bJ:=hid (hend.out _ (aJ HBc.out hgr (by omega)))
   clear hbl hgr
   go_wp2
   refine bodyPost_ret (v:=.tuple #[.agg #[.int .i64 0,.slice none 0 0,.slice none 0 0,.slice none 0 0],.int .i64 E]) (by simp [results,Tryz.f15,go_sem,q0,q1,q2,q3]) rfl ?_
   exact bJ.out
 subst he
 have hend:=hid (Hok.out (kJ (⟨rev,jobs,nodes,leases⟩:ah) (⟨from_,to_,mR,jw,gO,ggj,ggn,ggl⟩:aK)) ⟨Pj,(bR aB.name jobs mR ggj).length,Cj,Pn,(bR av.name nodes jw ggn).length,Cn,Pl,(bR ak.job leases gO ggl).length,Cl⟩ (Ek.out HE.out HE2.out HFr.out Kj.out Kn'.out Kl.out hE))
 clear hE
 obtain⟨o0,o1,o2,o3⟩:=Blk.c4 (HOc.out)
 obtain⟨r0,r1,r2,r3⟩:=Blk.c4 (HRc.out)
 obtain⟨z0,z1,z2,z3⟩:=Blk.z4 (HRc.out)
 obtain⟨hbl,hgr⟩:=Blk.S4 (HRc.out) (.int .i64 to_) (.slice Pj (bR aB.name jobs mR ggj).length Cj) (.slice Pn (bR av.name nodes jw ggn).length Cn) (.slice Pl (bR ak.job leases gO ggl).length Cl)
 obtain⟨q0,q1,q2,q3⟩:=Blk.c4 hbl
 have hst':=HZc.out.butZ HRc.out (by simp) hgr
 have bJ:=hid (hend.out _ (hst'.more (by have:=hgr.size; omega)) (aJ HBc.out hgr (by omega)))
 clear hbl hgr hst'
 go_wp2
 refine bodyPost_ret (v:=.tuple #[.agg #[.int .i64 to_,.slice Pj (bR aB.name jobs mR ggj).length Cj,.slice Pn (bR av.name nodes jw ggn).length Cn,.slice Pl (bR ak.job leases gO ggl).length Cl],.int .i64 0]) (by simp [results,Tryz.f15,go_sem,q0,q1,q2,q3]) rfl ?_
 exact bJ.out
end Go.Proofs.YtcpgnjmaampglaaGreatDoor
