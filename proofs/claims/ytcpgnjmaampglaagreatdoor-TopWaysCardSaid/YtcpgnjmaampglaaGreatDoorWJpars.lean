/- Of the proof of a statement: ReqD1, PlWireB, WFrame, PlWays, Jpars, ArgInts. -/
import Derived.Lib.QuietBelow
import Derived.Deep.DeepCutAuto
import Derived.Deep.Slices
import Derived.Test.YtcpgnjmaampglaaGreatDoorWDiff
import Derived.Test.YtcpgnjmaampglaaGreatDoorWJels
import Derived.Test.YtcpgnjmaampglaaGreatDoorWWEnc
set_option linter.unusedVariables false
set_option linter.unusedSimpArgs false
set_option maxRecDepth 100000
set_option maxHeartbeats 8000000
/- req.Decode at the bytes of a job that is put. -/
namespace Go.Proofs.YtcpgnjmaampglaaGreatDoor
open Go.Lib (hid)
open Go.RowKit
open Go.ChangeShapes Go.WideShapes Go.ChangeAt Go.RowKit
theorem LN (x:aB) (w:World) (hx:eZ x=0) (hT:Tabs w) :
 Calls Tryz.prog 117 #[.string (BA (bg 1 ++ eC x 3))] w (oK ⟨1,x,kK,iU,⟨#[]⟩,0⟩ 0 w):=by
 have hjw:=cU (fQ hx).1
 have hjt:=iI (fQ hx).2.1
 refine Jg ⟨1,x,kK,iU,⟨#[]⟩,0⟩ w rfl ?_ ⟨by show x.name.size≤_; omega,by show x.tag.size≤_; omega,(by decide:kK.name.size≤9223372036854775807),(by decide:kK.zone.size≤9223372036854775807),(by decide:iU.job.size≤9223372036854775807),(by decide:iU.node.size≤9223372036854775807),(by decide:ByteArray.size ⟨#[]⟩≤9223372036854775807)⟩ hT
 have h1:ranged (⟨1,x,kK,iU,⟨#[]⟩,0⟩:cJ).kind 1 9=true:=by show ranged 1 1 9=true; decide
 unfold kB
 rw [if_neg (by rw [h1]; simp),if_neg (by simp [DC])]
 exact hx
theorem Jy {st:ah} (h:ay st=0):Cp (BA (jc st 3)) 3=(st,0):=by
 have g:=Ea h
 obtain⟨_,_,h3,h4,h5,_⟩:=cP.1 h
 have gr0:=g.r0
 have gr1:=g.r1
 have hd:stP 3 (BA (jc st 3)) = .ok st (BA []):=by
  have e:jc st 3=bg st.rev.toNat ++ (fM (fun x=>eC x 3) st.jobs ++ (fM (fun x=>cZ x 3) st.nodes ++ (fM eQ st.leases ++ []))):=by simp [jc,Ir]
  rw [e]
  unfold stP Dy
  rw [if_pos (by decide),jH _ (by omega),RR.bind_ok,
   sY (F:=fun x=>eC x 3) 40 (by decide) st.jobs _ g.nj (fun x hx r=>Bv (cI h3 hx) r),RR.bind_ok,
   sY (F:=fun x=>cZ x 3) 20 (by decide) st.nodes _ g.nn (fun x hx r=>Gh (cI h4 hx) r),RR.bind_ok,
   sY (F:=eQ) 40 (by decide) st.leases _ g.nl (fun x hx r=>Em (KR h hx) r),RR.bind_ok]
  have e1:((st.rev.toNat:Nat):Int)=st.rev:=Int.toNat_of_nonneg gr0
  rw [e1]
 exact Ic (by decide) (by rw [hd]; rfl) h
def nL (st:ah) (v:Int):ByteArray × Int:=if (jK st v).2≠0 then (⟨#[]⟩,(jK st v).2) else (sV v 1 (jK st v).1)
def rN (st:ah) (v:Int) (w:World) (e:Ending) (w':World):Prop:=e = .returned (.tuple #[.string (nL st v).1,.int .i64 (nL st v).2])∧Below w.heap.size w w'
theorem rN.mk' {st:ah} {v E:Int} {s:ByteArray} {w w':World} (h:nL st v=(s,E)) (hb:Below w.heap.size w w'):rN st v w (.returned (.tuple #[.string s,.int .i64 E])) w':=⟨by rw [h],hb⟩
theorem Gi (st:ah) (x:StA) (v:Int) (w:World) (hS:StAt w w.heap.size st x) (hT:Tabs w) :
 Calls Tryz.prog 5 #[.agg (stC st x),.int .i64 v] w (rN st v w):=by
 have hb1:Below w.heap.size w (w.alloc (.cells (stC st x) 26)):=(Below.refl _ _).alloc (Nat.le_refl _) _
 have hC:=Ep st x v _ (hS.up hb1) (hT.below hb1)
 have cX:=hid (fun s E (h:nL st v=(s,E)) w'=>rN.mk' (w:=w) (w':=w') h)
 have HF:=hid (show nL st v=if (jK st v).2≠0 then (⟨#[]⟩,(jK st v).2) else (sV v 1 (jK st v).1) from rfl)
 have Hb1:=hid hb1
 unfold zQ at hC
 obtain⟨T,hT2⟩:∃ T,(jK st v).1=T:=⟨_,rfl⟩
 obtain⟨E,hE2⟩:∃ E,(jK st v).2=E:=⟨_,rfl⟩
 rw [hT2,hE2] at hC HF
 have HC:=hid hC
 clear hb1 hS hC hT2 hE2 hT
 obtain⟨rev,jobs,nodes,leases⟩:=st
 obtain⟨aj,nj,cj,an,nn,cn,al,nl,cl⟩:=x
 unfold stC at *
 dsimp only at *
 go_enter Tryz.func5,Tryz.ntmps5
 go_wp2_with fail
 refine Calls.mono HC.out ?_
 rintro e w1 ⟨rfl,hb⟩
 have HbA:=hid (Hb1.out.trans (hb.mono Hb1.out.size))
 clear hb HC
 by_cases h0:E=0
 rotate_left
 · have e2:(E != 0)=true:=bne_iff_ne.2 h0
   have hend:=hid (cX.out _ _ (by rw [HF.out,if_pos h0]) _ HbA.out)
   go_wp2
   go_ret2
   exact hend.out
 subst h0
 have hF2:=HF.out
 rw [if_neg (by simp)] at hF2
 have hN:=Cx v 1 T w1
 unfold jq at hN
 obtain⟨a,ha⟩:∃ a,(sV v 1 T).1=a:=⟨_,rfl⟩
 obtain⟨b,hb⟩:∃ b,(sV v 1 T).2=b:=⟨_,rfl⟩
 rw [ha,hb] at hN
 have HN:=hid hN
 have hend:=hid (cX.out a b (by rw [hF2,← ha,← hb]))
 clear hN ha hb hF2
 go_wp2_with fail
 refine Calls.mono HN.out ?_
 rintro e w2 ⟨rfl,hb⟩
 have hfin:=hid (hend.out _ (HbA.out.trans (hb.mono HbA.out.size)))
 clear hb
 go_wp2
 go_ret2
 exact hfin.out
theorem Er (st:ah):o7 st 3=true:=by
 unfold o7
 simp [okJ,okN]
theorem LO {st:ah} (h:(nL st 3).2≠0∨(j6 st).2≠0):ay st≠0∨(nL st 3).2=2:=by
 by_cases hc:ay st=0
 · right
   have hp:(j6 st).2=0:=by unfold j6; rw [if_neg (by simp [hc])]
   have hw:(nL st 3).2≠0:=by
    rcases h with h | h
    · exact h
    · exact absurd hp h
   have he:=zR hc (v:=3) (by decide) (Er st)
   unfold nL at hw ⊢
   rw [he] at hw ⊢
   rw [if_neg (by simp)] at hw ⊢
   unfold sV at hw ⊢
   rw [if_neg (by omega)] at hw ⊢
   split
   · rfl
   · rename_i h6
     rw [if_neg h6] at hw
     exact absurd rfl hw
 · exact .inl hc
theorem NS {st:ah} (h1:(nL st 3).2=0) (h2:(j6 st).2=0):ay st=0∧(jc st 3).length≤6000∧(nL st 3).1=BA (gB 3 1 (jc st 3))∧(j6 st).1=⟨(eU st).toArray⟩:=by
 by_cases hc:ay st=0
 · have he:=zR hc (v:=3) (by decide) (Er st)
   refine⟨hc,?_⟩
   unfold nL at h1 ⊢
   rw [he] at h1 ⊢
   rw [if_neg (by simp)] at h1 ⊢
   unfold sV at h1 ⊢
   rw [if_neg (by omega)] at h1 ⊢
   have hs:(⟨(jc st 3).toArray⟩:ByteArray).size=(jc st 3).length:=cT _
   split at h1
   · cases h1
   · rename_i h6
     rw [if_neg h6]
     refine⟨by have h7:¬ 6000<(⟨(jc st 3).toArray⟩:ByteArray).size:=h6; omega,?_,by unfold j6; rw [if_neg (by simp [hc])]⟩
     show BA (gB 3 1 (BA (jc st 3)).data.toList)=_
     rw [ko]
 · unfold j6 at h2
   rw [if_pos hc] at h2
   exact absurd h2 hc
def upto (T:ByteArray) (p:Nat):ByteArray:=if p<T.size then T.extract 0 p else ⟨#[]⟩
def fS (T:ByteArray) (f:bL) (p:Nat):List bL:=if p<T.size then [] else [f]
def qm (T:ByteArray) (p:Nat):Nat:=if p<T.size then 0 else T.size
theorem Es (T:ByteArray) {p q:Nat} (h1:p≤q) (h2:q≤T.size):T.extract 0 p ++ T.extract p q=T.extract 0 q:=by
 apply ByteArray.ext
 apply Array.ext'
 have e2:T.data.toList.length=T.size:=by simp
 simp only [ByteArray.data_append,ByteArray.data_extract,Array.toList_append,Array.toList_extract,List.extract_eq_take_drop,List.drop_zero,Nat.sub_zero]
 rw [← List.take_add,Nat.add_sub_cancel' h1]
theorem Et (T:ByteArray) {p:Nat} (h:p≤T.size):T.extract 0 p ++ T.extract p T.size=T:=by
 rw [Es T h (Nat.le_refl _)]
 simp
theorem Jz {T:ByteArray} {f:bL} (hT:eK T=(f,T.size,0)) (h0:0<T.size) {p q:Nat} (hp:p≤q) (hq:q≤T.size) :
 ∃ s m,upto T p ++ T.extract p q=s∧Frs s (if p<T.size∧q=T.size then [f] else []) m 3∧s.size≤T.size∧s.extract m s.size=upto T q∧qm T p+m=qm T q∧fS T f p ++ (if p<T.size∧q=T.size then [f] else [])=fS T f q:=by
 by_cases h1:p<T.size
 · have hu:upto T p=T.extract 0 p:=by unfold upto; rw [if_pos h1]
   have hn:qm T p=0:=by unfold qm; rw [if_pos h1]
   have hf:fS T f p=[]:=by unfold fS; rw [if_pos h1]
   by_cases h2:q=T.size
   · subst h2
     have hz:T.extract T.size T.size=⟨#[]⟩:=by apply ByteArray.ext; apply Array.ext'; simp [ByteArray.data_extract,List.extract_eq_take_drop]
     refine⟨T,T.size,by rw [hu,Et T hp],?_,Nat.le_refl _,?_,?_,?_⟩
     · rw [if_pos ⟨h1,rfl⟩]
       have:=Frs.step hT h0 (Nat.le_refl _) (fs:=[]) (m:=0) (e:=3) (by rw [hz]; exact Frs.stop sZ (by decide))
       simpa using this
     · rw [hz]; unfold upto; rw [if_neg (by omega)]
     · rw [hn]; unfold qm; rw [if_neg (by omega)]; omega
     · rw [hf,if_pos ⟨h1,rfl⟩]; unfold fS; rw [if_neg (by omega)]; rfl
   · have h3:q<T.size:=by omega
     have hs:(T.extract 0 q).size=q:=by rw [ByteArray.size_extract]; omega
     refine⟨T.extract 0 q,0,by rw [hu,Es T hp hq],?_,by omega,?_,?_,?_⟩
     · rw [if_neg (fun h=>h2 h.2)]
       exact JA (t:=T.extract q T.size) (f:=f) (n:=T.size) (by rw [Et T hq]; exact hT) (by omega)
     · unfold upto; rw [if_pos h3,hs,ByteArray.extract_extract]; simp
     · rw [hn]; unfold qm; rw [if_pos h3]
     · rw [hf,if_neg (fun h=>h2 h.2)]; unfold fS; rw [if_pos h3]; rfl
 · have hpe:p=T.size:=by omega
   have hqe:q=T.size:=by omega
   subst hpe
   subst hqe
   have hz:T.extract T.size T.size=⟨#[]⟩:=by apply ByteArray.ext; apply Array.ext'; simp [ByteArray.data_extract,List.extract_eq_take_drop]
   have hu:upto T T.size=⟨#[]⟩:=by unfold upto; rw [if_neg (by omega)]
   refine⟨⟨#[]⟩,0,by rw [hu,hz]; rfl,?_,Nat.zero_le _,by rw [hu]; rfl,rfl,?_⟩
   · rw [if_neg (fun h=>h1 h.1)]
     exact Frs.stop sZ (by decide)
   · rw [if_neg (fun h=>h1 h.1),List.append_nil]
theorem NT {st:ah} (h:(jc st 3).length≤6000):eK (BA (gB 3 1 (jc st 3)))=(⟨3,1,BA (jc st 3)⟩,(BA (gB 3 1 (jc st 3))).size,0):=by
 rw [cT]
 exact Eu 3 1 _ (by decide) (by decide) h
theorem JB {T:ByteArray} (h:0<T.size):upto T 0=⟨#[]⟩∧qm T 0=0∧∀ f,fS T f 0=[]:=by
 refine⟨?_,?_,fun f=>?_⟩
 · unfold upto; rw [if_pos h]; simp; rfl
 · unfold qm; rw [if_pos h]
 · unfold fS; rw [if_pos h]
theorem JC (T:ByteArray) (f:bL) (p:Nat):(fS T f p).length≤1:=by
 unfold fS; split <;> simp
theorem BK (T:ByteArray) (f:bL):fS T f T.size=[f]:=by unfold fS; rw [if_neg (by omega)]
theorem JD (T:ByteArray) (p:Nat):qm T p≤T.size:=by unfold qm; split <;> omega
theorem Gk {st:ah} (h:ay st=0) (hl:(⟨(eU st).toArray⟩:ByteArray).size≤60000):nu ⟨(eU st).toArray⟩=(st,0):=BL (by omega) h rfl
theorem zS:ay aY=0:=by decide +kernel
theorem JE {st:ah} (h:ay st=0) (hr:st.rev≠0):qc aY st=(cF aY st,0)∧gN aY (cF aY st)=(st,0):=by
 have hr0:=(Ea h).r0
 have hz:aY.rev=0:=rfl
 exact⟨DF zS h (by rw [hz]; omega),AY zS h (by rw [hz]; omega)⟩
def zT (t:ByteArray) (w:World) (e:Ending) (w':World):Prop:=
 ∃ (st:ah) (x:StA) (E:Int),e = .returned (.tuple #[.agg (stC st x),.int .i64 E])∧nu t=(st,E)∧StAt w' w'.heap.size st x∧Below w.heap.size w w'
theorem zT.none_ {t:ByteArray} {E:Int} {w w':World} (h:nu t=(aY,E)) (hb:Below w.heap.size w w'):zT t w (.returned (.tuple #[.agg iT,.int .i64 E])) w':=
 ⟨aY,Nf,E,rfl,h,zeroAt _ _,hb⟩
structure A0 (w0:World) (G S:Nat) (σ:JS) (st:ah) (x:StA) (w:World):Prop where
 rd:fK w G σ
 res:Blk w w0.heap.size 26 iT
 box:Blk w S 26 (stC st x)
 own:StOwn w (S+1) st x
 below:Below w0.heap.size w0 w
theorem A0.call {w0 w w':World} {G S:Nat} {σ σ':JS} {st:ah} {x:StA} (h:A0 w0 G S σ st x w) (hr:fK w' G σ') (hg:w.grownBy w' (some G)) (h1:w0.heap.size<G) (h2:G<S):A0 w0 G S σ' st x w':=
 ⟨hr,aA hg h.res (by omega),aA hg h.box (by omega),h.own.grow hg (by omega),aJ h.below hg (by omega)⟩
theorem A0.up {w0 w w':World} {G S:Nat} {σ:JS} {st:ah} {x:StA} (h:A0 w0 G S σ st x w) (hb:Below w.heap.size w w') (h1:w0.heap.size<G) (h2:G<S):A0 w0 G S σ st x w':=
 h.call (h.rd.up hb) (aG G hb) h1 h2
theorem A0.put {w0 w:World} {G S:Nat} {σ:JS} {st st':ah} {x x':StA} (h:A0 w0 G S σ st x w) (k:Nat) (v:Value) (he:(stC st x).setIfInBounds k v=stC st' x') (h1:w0.heap.size<G) (h2:G<S) (hE1 : 2 < w0.heap.size) (hE2 : 3 < w0.heap.size)
 (ho:StOwn (w.setCell ⟨S,k,none⟩ v) (S+1) st' x'):A0 w0 G S σ st' x' (w.setCell ⟨S,k,none⟩ v):=
 ⟨h.rd.other (aC _ _ _ _) (by omega) (by omega) (by omega),aA (aC _ _ _ _) h.res (by omega),Blk.eq (Blk.set h.box k v) he,ho,aJ h.below (aC _ _ _ _) (by omega)⟩
theorem Gm (t : ByteArray) (w : World) (ht : t.size ≤ 9223372036854775807) (hT : Tabs w) (htab : Lib.TabBelow Tryz.prog w.heap.size w "internal/strconv.uint64pow10" .u64 Lib.pow10Tab)
 (hES:∃ t p,w.cell? ⟨2,0,none⟩=some (.iface t p)) (hER:∃ t p,w.cell? ⟨3,0,none⟩=some (.iface t p)) :
 Calls Tryz.prog 13 #[.string t] w (zT t w):=by
 have hlS : 2 < w.heap.size:=by obtain⟨a,b,c⟩:=hES; exact block_lt_of_cell c
 have hlR : 3 < w.heap.size:=by obtain⟨a,b,c⟩:=hER; exact block_lt_of_cell c
 have hb1:Below w.heap.size w (w.alloc (.cells iT 26)):=(Below.refl _ _).alloc (Nat.le_refl _) _
 by_cases hl:60000<t.size
 · have hd:decide ((60000:Int)<(t.size:Int))=true:=decide_eq_true (by omega)
   have cX:=hid (zT.none_ (CK hl) hb1)
   clear hT htab hES hER hb1
   go_enter Tryz.func13,Tryz.ntmps13
   go_wp2
   refine bodyPost_ret (v:=.tuple #[.agg #[.int .i64 0,.slice none 0 0,.slice none 0 0,.slice none 0 0],.int .i64 2]) (by simp [results,Tryz.results13,go_sem]) rfl ?_
   exact cX.out
 · have hd:decide ((60000:Int)<(t.size:Int))=false:=decide_eq_false (by omega)
   have hts:t.size≤60000:=by omega
   obtain⟨l,hl0⟩:∃ l,t.data.toList=l:=⟨_,rfl⟩
   have hll:l.length≤60000:=by rw [← hl0,o8]; exact hts
   have htl:BA l=t:=by rw [← hl0,yu]
   have xO:=hid (fun (h:(lY l).2.2=true∨(lY l).2.1≠[]∨ay (lY l).1≠0∨(⟨(eU (lY l).1).toArray⟩:ByteArray)≠t) (w':World) (hb:Below w.heap.size w w')=>zT.none_ (w:=w) (w':=w') (LP hl (by rw [hl0]; exact h)) hb)
   have Hok:=hid (fun (st:ah) (hc:ay st=0) (hp:(⟨(eU st).toArray⟩:ByteArray)=t)=>BL hl hc hp)
   obtain⟨W2,hW2⟩:∃ W2,(w.alloc (.cells iT 26)).alloc (.cells #[.string t,.bool false] 95)=W2:=⟨_,rfl⟩
   have hb2:Below w.heap.size w W2:=by rw [← hW2]; exact hb1.alloc hb1.size _
   have hG2:Blk W2 (w.heap.size+1) 95 #[.string t,.bool false]:=by
    have h:=heap_alloc_new (w.alloc (.cells iT 26)) (.cells #[.string t,.bool false] 95)
    rw [show (w.alloc (.cells iT 26)).heap.size=w.heap.size+1 by simp,hW2] at h
    exact h
   have hR2:Blk W2 w.heap.size 26 iT:=by rw [← hW2]; exact Blk.alloc (show Blk _ _ _ _ from heap_alloc_new w _) _
   have hJ2:fK W2 (w.heap.size+1) (l,false):=by
    refine⟨by show Blk _ _ _ #[.string (BA l),.bool false]; rw [htl]; exact hG2,?_,hll⟩
    obtain⟨a,b,c⟩:=hES
    obtain⟨a',b',c'⟩:=hER
    exact⟨⟨a,b,(hb2.cell (p:=⟨2,0,none⟩) hlS).trans c⟩,⟨a',b',(hb2.cell (p:=⟨3,0,none⟩) hlR).trans c'⟩,by omega,by omega⟩
   have HM:=hid (dB (w.heap.size+1) (l,false) ⟨#[123,34,114,101,118,34,58]⟩ W2 hJ2)
   obtain⟨σ1,hσ1⟩:∃ σ1,aX [123,34,114,101,118,34,58] (l,false)=σ1:=⟨_,rfl⟩
   rw [show aX (⟨#[123,34,114,101,118,34,58]⟩:ByteArray).data.toList (l,false)=σ1 from hσ1] at HM
   have HP:=hid (show lY l=(⟨(bC σ1).1,(jh kS iy (bC σ1).2).1.map kQ,(jh jr eI (jh kS iy (bC σ1).2).2).1.map iX,(jh iO cR (jh jr eI (jh kS iy (bC σ1).2).2).2).1.map gH⟩,aX [125] (jh iO cR (jh jr eI (jh kS iy (bC σ1).2).2).2).2) from by rw [← hσ1]; rfl)
   have Hb2:=hid hb2
   have HR2:=hid hR2
   have HTab:=hid (fun W (hb:Below w.heap.size w W)=>hT.below hb)
   have HPow := hid (fun W (hb : Below w.heap.size w W) => (show Lib.TabBelow Tryz.prog W.heap.size W "internal/strconv.uint64pow10" .u64 Lib.pow10Tab from fun w' h' => htab w' (hb.trans (h'.mono hb.size))))
   have HW2:=hid hW2
   have Htl:=hid htl
   clear hT htab hES hER hb1 hb2 hG2 hR2 hJ2 hσ1 hl0 hll htl hW2 hl
   go_enter Tryz.func13,Tryz.ntmps13
   go_wp2_with fail
   rw [HW2.out]
   refine Calls.mono HM.out ?_
   rintro e w3 ⟨rfl,hJ3,hg3⟩
   have HN:=hid (qy (w.heap.size+1) σ1 w3 hJ3)
   have Hg3:=hid hg3
   clear hJ3 hg3
   go_wp2_with fail
   refine Calls.mono HN.out ?_
   rintro e w4 ⟨rfl,hJ4,hg4⟩
   obtain⟨n1,hn1⟩:∃ n1,(bC σ1).1=n1:=⟨_,rfl⟩
   obtain⟨σ2,hσ2⟩:∃ σ2,(bC σ1).2=σ2:=⟨_,rfl⟩
   rw [hn1,hσ2] at HP
   rw [hσ2] at hJ4
   rw [hn1]
   have hG4:w.heap.size+1<w4.heap.size:=hJ4.at_.lt
   have H4:=hid (show A0 w (w.heap.size+1) w4.heap.size σ2 ⟨n1,[],[],[]⟩ ⟨none,0,0,none,0,0,none,0,0⟩ (w4.alloc (.cells #[.int .i64 n1,.slice none 0 0,.slice none 0 0,.slice none 0 0] 26)) from by
    have hbb:=(Below.refl w4.heap.size w4).alloc (Nat.le_refl _) (.cells #[.int .i64 n1,.slice none 0 0,.slice none 0 0,.slice none 0 0] 26)
    have hgg:=aM Hg3.out hg4
    exact⟨hJ4.up hbb,(aA hgg HR2.out (by omega)).below hbb (by omega),heap_alloc_new w4 _,⟨World.ownsRow_nil _ _ _ _,World.ownsRow_nil _ _ _ _,World.ownsRow_nil _ _ _ _,rfl,rfl,rfl⟩,(aJ Hb2.out hgg (by omega)).trans (hbb.mono (by omega))⟩)
   obtain⟨S,hS⟩:∃ S,w4.heap.size=S:=⟨_,rfl⟩
   obtain⟨W5,hW5⟩:∃ W5,w4.alloc (.cells #[.int .i64 n1,.slice none 0 0,.slice none 0 0,.slice none 0 0] 26)=W5:=⟨_,rfl⟩
   rw [hS,hW5] at H4
   rw [hS] at hG4
   have HE1:=hid (NQ (w.heap.size+1) σ2 kS W5 H4.out.rd (by decide))
   have HW5:=hid hW5
   have HS:=hid hS
   have hS5:S<W5.heap.size:=H4.out.box.lt
   clear hJ4 hg4 hn1 hσ2 hW5 hS HN HM
   go_wp2_with fail
   rw [HW5.out]
   simp only [HS.out]
   refine Calls.mono HE1.out ?_
   rintro e w6 ⟨a1,m1,c1,rfl,hm1,hmb1,ho1,hr1,hg1⟩
   obtain⟨js,hjs⟩:∃ js,(jh kS iy σ2).1.map kQ=js:=⟨_,rfl⟩
   obtain⟨σ3,hσ3⟩:∃ σ3,(jh kS iy σ2).2=σ3:=⟨_,rfl⟩
   rw [hjs,hσ3] at HP
   rw [hσ3] at hr1
   rw [hjs] at ho1
   have JF:=hid (show _ from by have:=LQ (name:=kS) (σ:=σ2) H4.out.rd.len; rw [hjs] at this; exact this)
   have hln1:js.length=m1:=by rw [← hjs,List.length_map]; exact hm1
   have h6:=H4.out.call hr1 hg1 (by omega) hG4
   have xu:=aC w6 S 1 (.slice a1 m1 c1)
   have H6:=hid (h6.put (st':=⟨n1,js,[],[]⟩) (x':=⟨a1,m1,c1,none,0,0,none,0,0⟩) 1 (.slice a1 m1 c1) rfl (by omega) hG4 hlS hlR
    ⟨aD (bV ho1 (by omega)) xu (by omega),World.ownsRow_nil _ _ _ _,World.ownsRow_nil _ _ _ _,hln1,rfl,rfl⟩)
   have y1:w6.cell? ⟨S,1,none⟩=some (.slice none 0 0):=h6.box.cell 1
   have z1:w6.frozen? ⟨S,1,none⟩=false:=h6.box.thaw 1
   have hS6:S<w6.heap.size:=h6.box.lt
   obtain⟨w7,hw7⟩:∃ w7,w6.setCell ⟨S,1,none⟩ (.slice a1 m1 c1)=w7:=⟨_,rfl⟩
   rw [hw7] at H6
   have Hw7:=hid hw7
   have hS7:S<w7.heap.size:=H6.out.box.lt
   have HE2:=hid (LM (w.heap.size+1) σ3 jr w7 H6.out.rd (by decide))
   clear hjs hσ3 hr1 ho1 hg1 h6 xu hw7 hm1 HE1
   go_wp2_with fail
   rw [Hw7.out]
   refine Calls.mono HE2.out ?_
   rintro e w8 ⟨a2,m2,c2,rfl,hm2,hmb2,ho2,hr2,hg2⟩
   obtain⟨ns,hns⟩:∃ ns,(jh jr eI σ3).1.map iX=ns:=⟨_,rfl⟩
   obtain⟨σ4,hσ4⟩:∃ σ4,(jh jr eI σ3).2=σ4:=⟨_,rfl⟩
   rw [hns,hσ4] at HP
   rw [hσ4] at hr2
   rw [hns] at ho2
   have Hok2:=hid (show _ from by have:=JG (name:=jr) (σ:=σ3) H6.out.rd.len; rw [hns] at this; exact this)
   have hln2:ns.length=m2:=by rw [← hns,List.length_map]; exact hm2
   have h8:=H6.out.call hr2 hg2 (by omega) hG4
   have In:=aC w8 S 2 (.slice a2 m2 c2)
   have H8:=hid (h8.put (st':=⟨n1,js,ns,[]⟩) (x':=⟨a1,m1,c1,a2,m2,c2,none,0,0⟩) 2 (.slice a2 m2 c2) rfl (by omega) hG4 hlS hlR
    ⟨aD h8.own.j In (by omega),aD (bV ho2 (by omega)) In (by omega),World.ownsRow_nil _ _ _ _,h8.own.lj,hln2,rfl⟩)
   have y2:w8.cell? ⟨S,2,none⟩=some (.slice none 0 0):=h8.box.cell 2
   have z2:w8.frozen? ⟨S,2,none⟩=false:=h8.box.thaw 2
   have hS8:S<w8.heap.size:=h8.box.lt
   obtain⟨w9,hw9⟩:∃ w9,w8.setCell ⟨S,2,none⟩ (.slice a2 m2 c2)=w9:=⟨_,rfl⟩
   rw [hw9] at H8
   have Hw9:=hid hw9
   have hS9:S<w9.heap.size:=H8.out.box.lt
   have HE3:=hid (Jw (w.heap.size+1) σ4 iO w9 H8.out.rd (by decide))
   clear hns hσ4 hr2 ho2 hg2 h8 In hw9 hm2 HE2
   go_wp2_with fail
   rw [Hw9.out]
   refine Calls.mono HE3.out ?_
   rintro e w10 ⟨a3,m3,c3,rfl,hm3,hmb3,ho3,hr3,hg3⟩
   obtain⟨ls,hls⟩:∃ ls,(jh iO cR σ4).1.map gH=ls:=⟨_,rfl⟩
   obtain⟨σ5,hσ5⟩:∃ σ5,(jh iO cR σ4).2=σ5:=⟨_,rfl⟩
   rw [hls,hσ5] at HP
   rw [hσ5] at hr3
   rw [hls] at ho3
   have Hok3:=hid (show _ from by have:=Gp (name:=iO) (σ:=σ4) H8.out.rd.len; rw [hls] at this; exact this)
   have hln3:ls.length=m3:=by rw [← hls,List.length_map]; exact hm3
   have h10:=H8.out.call hr3 hg3 (by omega) hG4
   have Is:=aC w10 S 3 (.slice a3 m3 c3)
   have H10:=hid (h10.put (st':=⟨n1,js,ns,ls⟩) (x':=⟨a1,m1,c1,a2,m2,c2,a3,m3,c3⟩) 3 (.slice a3 m3 c3) rfl (by omega) hG4 hlS hlR
    ⟨aD h10.own.j Is (by omega),aD h10.own.n Is (by omega),aD (bV ho3 (by omega)) Is (by omega),h10.own.lj,h10.own.ln,hln3⟩)
   have y3:w10.cell? ⟨S,3,none⟩=some (.slice none 0 0):=h10.box.cell 3
   have z3:w10.frozen? ⟨S,3,none⟩=false:=h10.box.thaw 3
   have hS10:S<w10.heap.size:=h10.box.lt
   obtain⟨w11,P4⟩:∃ w11,w10.setCell ⟨S,3,none⟩ (.slice a3 m3 c3)=w11:=⟨_,rfl⟩
   rw [P4] at H10
   have Hw11:=hid P4
   have hS11:S<w11.heap.size:=H10.out.box.lt
   have HM2:=hid (dB (w.heap.size+1) σ5 ⟨#[125]⟩ w11 H10.out.rd)
   rw [show (⟨#[125]⟩:ByteArray).data.toList=[125] from rfl] at HM2
   clear hls hσ5 hr3 ho3 hg3 h10 Is P4 hm3 HE3
   go_wp2_with fail
   rw [Hw11.out]
   refine Calls.mono HM2.out ?_
   rintro e w12 ⟨rfl,P5,hg12⟩
   obtain⟨⟨lr,br⟩,hσ6⟩:∃ σ6,aX [125] σ5=σ6:=⟨_,rfl⟩
   rw [hσ6] at P5 HP
   have h12:=H10.out.call P5 hg12 (by omega) hG4
   have H12:=hid h12
   have HAt:=hid (show StAt w12 w12.heap.size ⟨n1,js,ns,ls⟩ ⟨a1,m1,c1,a2,m2,c2,a3,m3,c3⟩ from ⟨cD h12.own.j,cD h12.own.n,cD h12.own.l,h12.own.lj,h12.own.ln,h12.own.ll,by show m1≤_; omega,by show m2≤_; omega,by show m3≤_; omega,JF.out,Hok2.out,Hok3.out⟩)
   have P6:=hid h12.below
   have hRl:=h12.res.lt
   have hGl:=h12.rd.at_.lt
   have hSl:=h12.box.lt
   have hGS:w.heap.size+1<S:=hG4
   have v1:w12.cell? ⟨w.heap.size+1,1,none⟩=some (.bool br):=Blk.cell h12.rd.at_ 1
   have v0:w12.cell? ⟨w.heap.size+1,0,none⟩=some (.string (BA lr)):=Blk.cell h12.rd.at_ 0
   obtain⟨s0,s1,s2,s3⟩:=Blk.c4 (h12.box)
   obtain⟨r0,r1,r2,r3⟩:=Blk.c4 (h12.res)
   obtain⟨u0,u1,u2,u3⟩:=Blk.z4 (h12.res)
   have NU:=hid (fun (W:World) (hb:Below w.heap.size w W)=>(show Below w.heap.size w ((((W.setCell ⟨w.heap.size,0,none⟩ (.int .i64 0)).setCell ⟨w.heap.size,1,none⟩ (.slice none 0 0)).setCell ⟨w.heap.size,2,none⟩ (.slice none 0 0)).setCell ⟨w.heap.size,3,none⟩ (.slice none 0 0)) from
    aJ (aJ (aJ (aJ hb (aC _ _ _ _) (Nat.le_refl _)) (aC _ _ _ _) (Nat.le_refl _)) (aC _ _ _ _) (Nat.le_refl _)) (aC _ _ _ _) (Nat.le_refl _)))
   clear P5 hg12 h12 hσ6
   by_cases hbr:br=true
   · subst hbr
     have cX:=hid (xO.out (.inl (by rw [HP.out])) _ (NU.out _ P6.out))
     clear HP
     go_wp2
     refine bodyPost_ret (v:=.tuple #[.agg #[.int .i64 0,.slice none 0 0,.slice none 0 0,.slice none 0 0],.int .i64 4]) (by simp [results,Tryz.results13,go_sem, *]) rfl ?_
     exact cX.out
   · have hbf:br=false:=by simpa using hbr
     subst hbf
     clear hbr
     by_cases hlr:lr=[]
     · subst hlr
       rw [show BA ([]:List UInt8)=⟨#[]⟩ from rfl] at v0
       obtain⟨st,hst⟩:∃ st:ah,(⟨n1,js,ns,ls⟩:ah)=st:=⟨_,rfl⟩
       have HPs:=hid (show (lY l).1=st from by rw [HP.out]; exact hst)
       have Hst:=hid hst
       rw [hst] at HAt
       have HC:=hid (fq st ⟨a1,m1,c1,a2,m2,c2,a3,m3,c3⟩ w12 HAt.out (HTab.out _ P6.out))
       have Hpr:=hid (fun (hc:ay st=0) (W:World) (hA:StAt W W.heap.size st ⟨a1,m1,c1,a2,m2,c2,a3,m3,c3⟩) (hb:Below w.heap.size w W)=>xw st ⟨a1,m1,c1,a2,m2,c2,a3,m3,c3⟩ W hA hc (HPow.out _ hb))
       have wA:=hid (show stC st ⟨a1,m1,c1,a2,m2,c2,a3,m3,c3⟩=#[.int .i64 n1,.slice a1 m1 c1,.slice a2 m2 c2,.slice a3 m3 c3] from by rw [← hst]; rfl)
       rw [wA.out] at HC Hpr
       obtain⟨E,hE⟩:∃ E,ay st=E:=⟨_,rfl⟩
       rw [hE] at HC
       have HE:=hid hE
       clear hE hst HP
       by_cases hE0:E=0
       · subst hE0
         go_wp2_with fail
         refine Calls.mono HC.out ?_
         rintro e w13 ⟨rfl,A7⟩
         have H13:=hid (H12.out.up A7 (by omega) hG4)
         have HA13:=hid ((HAt.out.below A7).more A7.size)
         have zU:=H13.out.below
         obtain⟨t0,t1,t2,t3⟩:=Blk.c4 (H13.out.box)
         have hS13:S<w13.heap.size:=H13.out.box.lt
         have Hp13:=hid (Hpr.out HE.out w13 HA13.out zU)
         clear s0 s1 s2 s3 r0 r1 r2 r3 u0 u1 u2 u3 v0 v1 A7 zU HC
         go_wp2_with fail
         refine Calls.mono Hp13.out ?_
         rintro e w14 ⟨rfl,zU⟩
         have H14:=hid (H13.out.up zU (by omega) hG4)
         have HA14:=hid ((HA13.out.below zU).more zU.size)
         have HB14:=hid H14.out.below
         have hR14:=H14.out.res.lt
         obtain⟨t0,t1,t2,t3⟩:=Blk.c4 (H14.out.box)
         obtain⟨r0,r1,r2,r3⟩:=Blk.c4 (H14.out.res)
         obtain⟨u0,u1,u2,u3⟩:=Blk.z4 (H14.out.res)
         have hS14:S<w14.heap.size:=H14.out.box.lt
         obtain⟨P,hP⟩:∃ P,(⟨(eU st).toArray⟩:ByteArray)=P:=⟨_,rfl⟩
         rw [hP]
         have HPP:=hid hP
         clear hP zU Hp13
         by_cases hpt:P=t
         · subst hpt
           have bJ:=hid (Hok.out st HE.out HPP.out)
           have hg1:=aO (aO (aO (aO (gF w14 w.heap.size) 0 (.int .i64 n1)) 1 (.slice a1 m1 c1)) 2 (.slice a2 m2 c2)) 3 (.slice a3 m3 c3)
           have HO:=hid (H14.out.own.grow hg1 (by omega))
           have HB15:=hid (aJ HB14.out hg1 (Nat.le_refl _))
           have hq:=((((Blk.set H14.out.res 0 (.int .i64 n1)).set 1 (.slice a1 m1 c1)).set 2 (.slice a2 m2 c2)).set 3 (.slice a3 m3 c3))
           have q0:=(show _=(some (.int .i64 n1):Option Value) from hq.cell 0)
           have q1:=(show _=(some (.slice a1 m1 c1):Option Value) from hq.cell 1)
           have q2:=(show _=(some (.slice a2 m2 c2):Option Value) from hq.cell 2)
           have q3:=(show _=(some (.slice a3 m3 c3):Option Value) from hq.cell 3)
           clear hg1 hq
           go_wp2
           refine bodyPost_ret (v:=.tuple #[.agg #[.int .i64 n1,.slice a1 m1 c1,.slice a2 m2 c2,.slice a3 m3 c3],.int .i64 0]) (by simp [results,Tryz.results13,go_sem, *]) rfl ?_
           exact⟨st,_,0,by rw [wA.out],bJ.out,by rw [← Hst.out]; exact⟨cD HO.out.j,cD HO.out.n,cD HO.out.l,HO.out.lj,HO.out.ln,HO.out.ll,by show m1≤_; omega,by show m2≤_; omega,by show m3≤_; omega,JF.out,Hok2.out,Hok3.out⟩,HB15.out⟩
         · have cX:=hid (xO.out (.inr (.inr (.inr (by rw [HPs.out,HPP.out]; exact hpt)))) _ (NU.out _ HB14.out))
           have hpt2:(P.toList == t.toList)=false:=by
            rw [beq_eq_false_iff_ne]
            exact fun e=>hpt (by rw [ByteArray.toList_eq,ByteArray.toList_eq] at e; exact ByteArray.ext (Array.toList_inj.1 e))
           clear hpt
           go_wp2
           refine bodyPost_ret (v:=.tuple #[.agg #[.int .i64 0,.slice none 0 0,.slice none 0 0,.slice none 0 0],.int .i64 4]) (by simp [results,Tryz.results13,go_sem, *]) rfl ?_
           exact cX.out
       · have hne:(E == 0)=false:=beq_eq_false_iff_ne.2 hE0
         have hne2:(E != 0)=true:=by simpa using hE0
         have Hb4:=hid (xO.out (.inr (.inr (.inl (by rw [HPs.out,HE.out]; exact hE0)))))
         clear hE0
         go_wp2_with fail
         refine Calls.mono HC.out ?_
         rintro e w13 ⟨rfl,A7⟩
         have H13:=hid (H12.out.up A7 (by omega) hG4)
         have HB13:=hid H13.out.below
         have hR13:=H13.out.res.lt
         obtain⟨r0,r1,r2,r3⟩:=Blk.c4 (H13.out.res)
         obtain⟨u0,u1,u2,u3⟩:=Blk.z4 (H13.out.res)
         have cX:=hid (Hb4.out _ (NU.out _ HB13.out))
         clear A7 s0 s1 s2 s3 HC v0 v1
         go_wp2
         refine bodyPost_ret (v:=.tuple #[.agg #[.int .i64 0,.slice none 0 0,.slice none 0 0,.slice none 0 0],.int .i64 4]) (by simp [results,Tryz.results13,go_sem, *]) rfl ?_
         exact cX.out
     · have hz:(BA lr).size≠0:=by rw [cT]; exact fun h=>hlr (List.length_eq_zero_iff.1 h)
       have hne:=mP hz
       have hne2:=kZ hz
       have cX:=hid (xO.out (.inr (.inl (by rw [HP.out]; exact hlr))) _ (NU.out _ P6.out))
       obtain⟨sr,hsr⟩:∃ sr,BA lr=sr:=⟨_,rfl⟩
       rw [hsr] at v0 hne hne2
       clear HP hz hsr hlr
       go_wp2
       refine bodyPost_ret (v:=.tuple #[.agg #[.int .i64 0,.slice none 0 0,.slice none 0 0,.slice none 0 0],.int .i64 4]) (by simp [results,Tryz.results13,go_sem, *]) rfl ?_
       exact cX.out
theorem A9 {H:Type} {enc:TypeId × Value→H} {W:World} {r:Reach} {b0:Nat} {held:Bool} {v:Value} {d:DataW H} {p:List MemPlace}
 (hval:Value.okWide Tryz.prog W r b0 27 v) (hd:DataW.Trod enc Tryz.prog W 0 (fun _=>true) held 27 v d p) (hlt:∀ x ∈ p,x.block<W.heap.size) :
 ∃ (zs:List Int) (A:Option Addr) (n c:Nat),v = .slice A n c∧zs.length=n∧n≤9223372036854775807∧aQ W W.heap.size 1 A n (zs.map fun z=>.int .i64 z)∧∀ z ∈ zs,-9223372036854775808≤z∧z≤9223372036854775807:=by
 obtain⟨A,n,c,rfl⟩:=okWide_slice Tryz.underlying27 hval
 obtain⟨fuel,hf⟩:=hd
 rcases open_ints Tryz.underlying27 Tryz.underlying3 (by kernel_rfl) hf with ⟨h,-⟩ | ⟨a,len,cap,zs,h,hb,hl,hm,hz,hx,hc,hw⟩
 · simp only [Value.cells,List.cons.injEq,Value.slice.injEq,and_true] at h
   obtain⟨rfl,rfl,rfl⟩:=h
   exact⟨[],none,0,0,rfl,rfl,by omega,aQ.nil,fun _ h=>by cases h⟩
 · simp only [Value.cells,List.cons.injEq,Value.slice.injEq,and_true] at h
   obtain⟨rfl,rfl,rfl⟩:=h
   simp only [if_true] at hz
   simp only [Prod.mk.injEq] at hx
   obtain⟨rfl,rfl⟩:=hx
   have hzl:(zs.take n).length=n:=by rw [List.length_take]; omega
   refine⟨zs.take n,some a,n,c,rfl,hzl,by unfold maxLen at hm; omega,⟨by rw [List.length_map,hzl,Nat.mul_one],fun hn=>?_⟩,fun z hz'=>gq (hw z (List.mem_of_mem_take hz'))⟩
   obtain⟨b,off,spot⟩:=a
   have h0:=hc 0 (by omega)
   have hspot:spot=none:=by simpa [Addr.add] using World.cell?_spot h0
   subst hspot
   refine⟨b,off,rfl,?_,fun j u hu=>?_⟩
   · exact hlt (.cell b off) (MemPlace.mem_row.2 ⟨0,by omega,rfl⟩)
   · rw [List.getElem?_map] at hu
     cases hj:(zs.take n)[j]? with
     | none=>rw [hj] at hu; cases hu
     | some z=>
      rw [hj] at hu
      injection hu with hu
      subst hu
      have hjn:j<n:=by
       rcases Nat.lt_or_ge j n with h1 | h1
       · exact h1
       · rw [List.getElem?_eq_none (by omega)] at hj; cases hj
      have hg:=hc j (by omega)
      rw [add_plain] at hg
      rw [hg]
      have hz2:zs[j]? = some z:=by rw [List.getElem?_take] at hj; rw [if_pos hjn] at hj; exact hj
      rw [List.getD_eq_getElem?_getD,hz2]
      rfl
end Go.Proofs.YtcpgnjmaampglaaGreatDoor
