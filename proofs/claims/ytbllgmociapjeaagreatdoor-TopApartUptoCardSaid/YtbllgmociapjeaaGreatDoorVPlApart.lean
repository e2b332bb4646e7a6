/- Of the proof of a statement: PlApart. -/
import Derived.Test.YtbllgmociapjeaaGreatDoorVArgJk
set_option linter.unusedVariables false
set_option linter.unusedSimpArgs false
set_option maxRecDepth 100000
set_option maxHeartbeats 8000000
/- Junk by one connection: what the others are told stays as it is: plain. -/
namespace Go.Proofs.YtbllgmociapjeaaGreatDoor
open Go.Lib (hid)
inductive eL where
 | req (c:Nat) (L:List UInt8):eL
 | junk (j:ByteArray):eL
def eL.conn:eL→Nat
 | .req c _=>c
 | .junk _=>5
def eL.text:eL→ByteArray
 | .req _ L=>BA (cR 3 3 L)
 | .junk j=>j
structure jB where
 H:dM
 O:Nat→List UInt8
section
variable (tl:ah→List UInt8) (rq:ByteArray→aF × Int)
noncomputable def fq (H:dM):eL→dM
 | .req c L=>je tl rq H c (BA (cR 3 3 L)) [⟨3,3,BA L⟩] (cR 3 3 L).length 3
 | .junk j=>je tl rq H 5 j [] 0 4
noncomputable def iq (S:jB) (a:eL):jB:=
 if (S.H.cs a.conn).closed=true then S else ⟨lC (fq tl rq S.H a) a.conn,upd S.O a.conn (S.O a.conn ++ ((fq tl rq S.H a).cs a.conn).waits)⟩
noncomputable def nK (S:jB) (l:List eL):jB:=l.foldl (iq tl rq) S
def iw:eL→Prop
 | .req c L=>c<5∧L.length≤6000∧(rq (BA L)).2=0
 | .junk j=>fM j=(.zero,0,4)∧j.size≤1048577
end
section
variable {tl:ah→List UInt8} {rq:ByteArray→aF × Int}
theorem vO {H:dM} {c:Nat} {L:List UInt8} (hc:(H.cs c).closed=false) (hr:(rq (BA L)).2=0) (s:ByteArray) (m:Nat) :
 je tl rq H c s [⟨3,3,BA L⟩] m 3=eV tl ⟨H.st,H.now,upd H.cs c (jc (H.cs c) s m 3)⟩ c (rq (BA L)).1:=by
 unfold je
 rw [if_neg (fun h=>h.1 rfl)]
 show dE tl rq c _ [⟨3,3,BA L⟩]=_
 rw [dE,dE,if_neg (by show ¬ (upd H.cs c _ c).closed=true; rw [bB]; show ¬ (H.cs c).closed=true; rw [hc]; decide)]
 unfold gP
 rw [if_neg (by simp),if_neg (by simpa using hr)]
theorem sO {H:dM} {j:ByteArray} (hc:(H.cs 5).closed=false):je tl rq H 5 j [] 0 4=iA ⟨H.st,H.now,upd H.cs 5 (jc (H.cs 5) j 0 4)⟩ 5 4:=by
 unfold je
 rw [dE,if_pos ⟨by decide,by show (upd H.cs 5 _ 5).closed=false; rw [bB]; exact hc⟩]
 rfl
theorem En (st:ah) (b:ByteArray) (e:Int) (c:bQ):(jD tl st b e c).closed=c.closed∧(jD tl st b e c).stuck=c.stuck∧(jD tl st b e c).rest=c.rest∧(jD tl st b e c).far=c.far:=by
 unfold jD
 split
 · exact⟨rfl,rfl,rfl,rfl⟩
 · split <;> exact⟨rfl,rfl,rfl,rfl⟩
theorem Cc (q:aF) (R:mM) (c:bQ):(eJ tl q R c).closed=c.closed∧(eJ tl q R c).stuck=c.stuck∧(eJ tl q R c).rest=c.rest∧(eJ tl q R c).far=c.far:=by
 unfold eJ
 split <;> exact⟨rfl,rfl,rfl,rfl⟩
theorem yV (H:dM) (D:aW) (i:Nat):((jr tl H D).cs i).closed=(H.cs i).closed∧((jr tl H D).cs i).stuck=(H.cs i).stuck∧((jr tl H D).cs i).rest=(H.cs i).rest∧((jr tl H D).cs i).far=(H.cs i).far:=by
 show (fA tl H.st (jC D).1 (jC D).2 H.cs 8 i).closed=_∧(fA tl H.st (jC D).1 (jC D).2 H.cs 8 i).stuck=_∧(fA tl H.st (jC D).1 (jC D).2 H.cs 8 i).rest=_∧(fA tl H.st (jC D).1 (jC D).2 H.cs 8 i).far=_
 unfold fA
 split
 · exact En _ _ _ _
 · exact⟨rfl,rfl,rfl,rfl⟩
theorem Eo (H:dM) (c:Nat) (q:aF) (i:Nat):((eV tl H c q).cs i).closed=(H.cs i).closed∧((eV tl H c q).cs i).stuck=(H.cs i).stuck∧((eV tl H c q).cs i).rest=(H.cs i).rest∧((eV tl H c q).cs i).far=(H.cs i).far:=by
 have ha:∀ R:mM,(upd H.cs c (eJ tl q R (H.cs c)) i).closed=(H.cs i).closed∧(upd H.cs c (eJ tl q R (H.cs c)) i).stuck=(H.cs i).stuck∧(upd H.cs c (eJ tl q R (H.cs c)) i).rest=(H.cs i).rest∧(upd H.cs c (eJ tl q R (H.cs c)) i).far=(H.cs i).far:=fun R=>by
  by_cases e:i=c
  · subst e; rw [bB]; exact Cc _ _ _
  · rw [upd_ne _ _ e]; exact⟨rfl,rfl,rfl,rfl⟩
 unfold eV
 dsimp only
 split
 · have h1:=yV (tl:=tl) ⟨(iN H.st H.now (iI H.st H.now q)).st,(iN H.st H.now (iI H.st H.now q)).now,upd H.cs c (eJ tl q (iN H.st H.now (iI H.st H.now q)) (H.cs c))⟩ (eW H.st (iN H.st H.now (iI H.st H.now q)).st) i
   have h2:=ha (iN H.st H.now (iI H.st H.now q))
   exact⟨h1.1.trans h2.1,h1.2.1.trans h2.2.1,h1.2.2.1.trans h2.2.2.1,h1.2.2.2.trans h2.2.2.2⟩
 · exact ha _
theorem Ep {H:dM} {c:Nat} (hc:c≠5) (hw:(H.cs 5).aH=false) (q:aF):(eV tl H c q).cs 5=H.cs 5:=by
 have h1:∀ R:mM,upd H.cs c (eJ tl q R (H.cs c)) 5=H.cs 5:=fun R=>upd_ne _ _ (by omega)
 unfold eV
 dsimp only
 split
 · show fA tl _ _ _ _ 8 5=_
   unfold fA
   rw [if_pos (by decide)]
   dsimp only
   rw [h1]
   unfold jD
   rw [if_pos (.inr hw)]
 · exact h1 _
theorem GE {H H':dM} {c:Nat} (hc:c≠5) (h1:H.st=H'.st) (h2:H.now=H'.now) (h3:∀ i,i≠5→H.cs i=H'.cs i) (q:aF) :
 (eV tl H c q).st=(eV tl H' c q).st∧(eV tl H c q).now=(eV tl H' c q).now∧∀ i,i≠5→(eV tl H c q).cs i=(eV tl H' c q).cs i:=by
 obtain⟨st,now,cs⟩:=H
 obtain⟨st',now',cs'⟩:=H'
 dsimp only at h1 h2 h3
 subst h1 h2
 unfold eV
 dsimp only
 rw [h3 c hc]
 have hu:∀ R:mM,∀ i,i≠5→upd cs c (eJ tl q R (cs' c)) i=upd cs' c (eJ tl q R (cs' c)) i:=fun R i hi=>by
  by_cases e:i=c
  · subst e; rw [bB,bB]
  · rw [upd_ne _ _ e,upd_ne _ _ e]; exact h3 i hi
 split
 · refine⟨rfl,rfl,fun i hi=>?_⟩
   show fA tl _ _ _ _ 8 i=fA tl _ _ _ _ 8 i
   unfold fA
   dsimp only
   rw [hu _ i hi]
 · exact⟨rfl,rfl,fun i hi=>hu _ i hi⟩
structure Good (n:Nat) (S:jB):Prop where
 op:∀ i,i<5→(S.H.cs i).closed=false∧(S.H.cs i).stuck=0∧(S.H.cs i).rest=⟨#[]⟩
 five:(S.H.cs 5).aH=false∧((S.H.cs 5).closed=false→(S.H.cs 5).stuck=0∧(S.H.cs 5).rest=⟨#[]⟩)
 far:∀ i,(S.H.cs i).far≤6020*n
 len:∀ i,(S.O i).length+(S.H.cs i).waits.length≤21000*n
theorem GF (st:ah):Good 0 ⟨mA st,fun _=>[]⟩:=⟨fun _ _=>⟨rfl,rfl,rfl⟩,⟨rfl,fun _=>⟨rfl,rfl⟩⟩,fun _=>Nat.le_refl _,fun _=>Nat.le_refl _⟩
theorem Cd (H:dM) (k i:Nat):((lC H k).cs i).closed=(H.cs i).closed∧((lC H k).cs i).stuck=(H.cs i).stuck∧((lC H k).cs i).rest=(H.cs i).rest∧((lC H k).cs i).far=(H.cs i).far∧((lC H k).cs i).aH=(H.cs i).aH:=by
 show (upd H.cs k _ i).closed=_∧(upd H.cs k _ i).stuck=_∧(upd H.cs k _ i).rest=_∧(upd H.cs k _ i).far=_∧(upd H.cs k _ i).aH=_
 by_cases e:i=k
 · subst e; rw [bB]; exact⟨rfl,rfl,rfl,rfl,rfl⟩
 · rw [upd_ne _ _ e]; exact⟨rfl,rfl,rfl,rfl,rfl⟩
theorem Jr (L:List UInt8):(BA (cR 3 3 L)).extract (cR 3 3 L).length (BA (cR 3 3 L)).size=⟨#[]⟩:=by
 rw [vP,List.drop_of_length_le (Nat.le_refl _)]; rfl
theorem Er (htl:∀ st,(tl st).length≤7000) {H:dM} {a:eL} (ho:iw rq a) (hc:(H.cs a.conn).closed=false) (i:Nat):((fq tl rq H a).cs i).waits.length≤(H.cs i).waits.length+21000:=by
 have hu:∀ (k:Nat) (s:ByteArray) (m e:Nat),((upd H.cs k (jc (H.cs k) s m e)) i).waits=(H.cs i).waits:=fun k s m e=>by
  by_cases h:i=k
  · subst h; rw [bB]; rfl
  · rw [upd_ne _ _ h]
 cases a with
 | req c L=>
  have hf:=(lY (tl:=tl) (rq:=rq) (k:=c) htl [⟨3,3,BA L⟩] ⟨H.st,H.now,upd H.cs c (jc (H.cs c) (BA (cR 3 3 L)) (cR 3 3 L).length 3)⟩).1 i
  dsimp only at hf
  rw [hu,List.length_cons,List.length_nil,Nat.zero_add,Nat.one_mul] at hf
  show ((je tl rq H c _ _ _ 3).cs i).waits.length≤_
  unfold je
  rw [if_neg (fun h=>h.1 rfl)]
  exact hf
 | junk j=>
  have hc:(H.cs 5).closed=false:=hc
  show ((je tl rq H 5 j [] 0 4).cs i).waits.length≤_
  rw [sO hc]
  obtain⟨G,hG⟩:∃ G:dM,(⟨H.st,H.now,upd H.cs 5 (jc (H.cs 5) j 0 4)⟩:dM)=G:=⟨_,rfl⟩
  have hw:(G.cs i).waits=(H.cs i).waits:=by rw [← hG]; exact hu 5 j 0 4
  rw [hG,← hw]
  exact uB (c:=yE 4 G.st.rev (G.cs 5)) (n:=21000) (Nat.le_trans (ni 4 G.st.rev (G.cs 5)) (by omega)) i
theorem good_step (htl:∀ st,(tl st).length≤7000) {n:Nat} {S:jB} (g:Good n S) {a:eL} (ho:iw rq a):Good (n+1) (iq tl rq S a):=by
 unfold iq
 by_cases hcl:(S.H.cs a.conn).closed=true
 · rw [if_pos hcl]
   exact⟨g.op,g.five,fun i=>by have:=g.far i; omega,fun i=>by have:=g.len i; omega⟩
 rw [if_neg hcl]
 have hcl:(S.H.cs a.conn).closed=false:=by simpa using hcl
 have hlen:=Er htl ho hcl
 have key:(∀ i,i≠5→((fq tl rq S.H a).cs i).closed=(S.H.cs i).closed∧((fq tl rq S.H a).cs i).stuck=(S.H.cs i).stuck∧(i<5→((fq tl rq S.H a).cs i).rest=⟨#[]⟩))∧(∀ i,((fq tl rq S.H a).cs i).far≤(S.H.cs i).far+6020)∧(((fq tl rq S.H a).cs 5).aH=false∧(((fq tl rq S.H a).cs 5).closed=false→((fq tl rq S.H a).cs 5).stuck=0∧((fq tl rq S.H a).cs 5).rest=⟨#[]⟩)):=by
  cases a with
  | req c L=>
   obtain⟨hc5,hL,hr⟩:=ho
   have hfl:=jW 3 3 L hL
   have e:fq tl rq S.H (.req c L)=eV tl ⟨S.H.st,S.H.now,upd S.H.cs c (jc (S.H.cs c) (BA (cR 3 3 L)) (cR 3 3 L).length 3)⟩ c (rq (BA L)).1:=vO hcl hr _ _
   rw [e]
   have k:=Eo (tl:=tl) ⟨S.H.st,S.H.now,upd S.H.cs c (jc (S.H.cs c) (BA (cR 3 3 L)) (cR 3 3 L).length 3)⟩ c (rq (BA L)).1
   have hz:=g.op c hc5
   refine⟨fun i hi=>?_,fun i=>?_,?_⟩
   · obtain⟨k1,k2,k3,_⟩:=k i
     rw [k1,k2,k3]
     dsimp only
     by_cases e:i=c
     · subst e; rw [bB]; exact⟨rfl,hz.2.1.symm,fun _=>Jr L⟩
     · rw [upd_ne _ _ e]; exact⟨rfl,rfl,fun h=>(g.op i h).2.2⟩
   · rw [(k i).2.2.2]
     dsimp only
     by_cases e:i=c
     · subst e; rw [bB]; show (S.H.cs i).far+_≤_; omega
     · rw [upd_ne _ _ e]; omega
   · have h5:upd S.H.cs c (jc (S.H.cs c) (BA (cR 3 3 L)) (cR 3 3 L).length 3) 5=S.H.cs 5:=upd_ne _ _ (by omega)
     rw [Ep (by omega) (by dsimp only; rw [h5]; exact g.five.1)]
     dsimp only
     rw [h5]
     exact g.five
  | junk j=>
   have e:fq tl rq S.H (.junk j)=iA ⟨S.H.st,S.H.now,upd S.H.cs 5 (jc (S.H.cs 5) j 0 4)⟩ 5 4:=sO hcl
   rw [e]
   have h5:∀ i,i≠5→(iA ⟨S.H.st,S.H.now,upd S.H.cs 5 (jc (S.H.cs 5) j 0 4)⟩ 5 4).cs i=S.H.cs i:=fun i hi=>by
    unfold iA
    dsimp only
    rw [qH,upd_ne _ _ hi]
   have h5':(iA ⟨S.H.st,S.H.now,upd S.H.cs 5 (jc (S.H.cs 5) j 0 4)⟩ 5 4).cs 5=yE 4 S.H.st.rev (jc (S.H.cs 5) j 0 4):=by
    unfold iA
    dsimp only
    rw [bB,bB]
   refine⟨fun i hi=>?_,fun i=>?_,?_⟩
   · rw [h5 i hi]; exact⟨rfl,rfl,fun h=>(g.op i h).2.2⟩
   · by_cases e:i=5
     · subst e; rw [h5']; show (S.H.cs 5).far+0≤_; omega
     · rw [h5 i e]; omega
   · rw [h5']
     exact⟨g.five.1,fun h=>by cases h⟩
 obtain⟨k1,k2,k3⟩:=key
 have hfl:=Cd (fq tl rq S.H a) a.conn
 refine⟨fun i hi=>?_,?_,fun i=>?_,fun i=>?_⟩
 · obtain⟨f1,f2,f3,_⟩:=hfl i
   obtain⟨a1,a2,a3⟩:=k1 i (by omega)
   obtain⟨g1,g2,_⟩:=g.op i hi
   exact⟨f1.trans (a1.trans g1),f2.trans (a2.trans g2),f3.trans (a3 hi)⟩
 · obtain⟨f1,f2,f3,_,f5⟩:=hfl 5
   dsimp only
   rw [f1,f2,f3,f5]
   exact k3
 · dsimp only
   rw [(hfl i).2.2.2.1]
   have:=k2 i; have:=g.far i; omega
 · have h1:=hlen i
   have h2:=g.len i
   show (upd S.O a.conn _ i).length+(upd (fq tl rq S.H a).cs a.conn _ i).waits.length≤_
   by_cases e:i=a.conn
   · subst e
     rw [bB,bB,List.length_append]
     show _+_+0≤_
     omega
   · rw [upd_ne _ _ e,upd_ne _ _ e]; omega
structure Rel (S S':jB):Prop where
 st:S.H.st=S'.H.st
 now:S.H.now=S'.H.now
 cs:∀ i,i≠5→S.H.cs i=S'.H.cs i
 O:∀ i,i≠5→S.O i=S'.O i
theorem Js {S S':jB} {n m:Nat} (r:Rel S S') (g:Good n S) (g':Good m S') {c:Nat} {L:List UInt8} (ho:iw rq (.req c L)):Rel (iq tl rq S (.req c L)) (iq tl rq S' (.req c L)):=by
 obtain⟨hc,hL,hr⟩:=ho
 have c1:=(g.op c hc).1
 have c2:=(g'.op c hc).1
 unfold iq
 rw [if_neg (by show ¬ (S.H.cs c).closed=true; rw [c1]; decide),if_neg (by show ¬ (S'.H.cs c).closed=true; rw [c2]; decide)]
 have e1:fq tl rq S.H (.req c L)=_:=vO c1 hr _ _
 have e2:fq tl rq S'.H (.req c L)=_:=vO c2 hr _ _
 rw [e1,e2]
 obtain⟨h1,h2,h3⟩:=GE (tl:=tl) (H:=⟨S.H.st,S.H.now,upd S.H.cs c (jc (S.H.cs c) (BA (cR 3 3 L)) (cR 3 3 L).length 3)⟩) (H':=⟨S'.H.st,S'.H.now,upd S'.H.cs c (jc (S'.H.cs c) (BA (cR 3 3 L)) (cR 3 3 L).length 3)⟩) (c:=c) (by omega) r.st r.now (fun i hi=>by
  dsimp only
  rw [r.cs c (by omega)]
  by_cases e:i=c
  · subst e; rw [bB,bB]
  · rw [upd_ne _ _ e,upd_ne _ _ e]; exact r.cs i hi) (rq (BA L)).1
 have h4:=h3 c (by omega)
 refine⟨h1,h2,fun i hi=>?_,fun i hi=>?_⟩
 · show upd _ c (rV _) i=upd _ c (rV _) i
   dsimp only [eL.conn]
   rw [h4]
   by_cases e:i=c
   · subst e; rw [bB,bB]
   · rw [upd_ne _ _ e,upd_ne _ _ e]; exact h3 i hi
 · show upd _ c _ i=upd _ c _ i
   dsimp only [eL.conn]
   rw [h4,r.O c (by omega)]
   by_cases e:i=c
   · subst e; rw [bB,bB]
   · rw [upd_ne _ _ e,upd_ne _ _ e]; exact r.O i hi
theorem GG {S S':jB} (r:Rel S S') (j:ByteArray):Rel S (iq tl rq S' (.junk j)):=by
 by_cases hcl:(S'.H.cs 5).closed=true
 · have hp:iq tl rq S' (.junk j)=S':=by unfold iq; exact if_pos hcl
   rw [hp]; exact r
 have hp:iq tl rq S' (.junk j)=⟨lC (fq tl rq S'.H (.junk j)) 5,upd S'.O 5 (S'.O 5 ++ ((fq tl rq S'.H (.junk j)).cs 5).waits)⟩:=by unfold iq; exact if_neg hcl
 have hcl:(S'.H.cs 5).closed=false:=by simpa using hcl
 have e:fq tl rq S'.H (.junk j)=_:=sO hcl
 rw [hp,e]
 refine⟨r.st,r.now,fun i hi=>?_,fun i hi=>?_⟩
 · show _=upd (upd (upd S'.H.cs 5 _) 5 _) 5 _ i
   rw [upd_ne _ _ hi,upd_ne _ _ hi,upd_ne _ _ hi]; exact r.cs i hi
 · show _=upd _ 5 _ i
   rw [upd_ne _ _ hi]; exact r.O i hi
inductive Mix:List eL→List eL→Prop
 | nil:Mix [] []
 | req {a b:List eL} (c:Nat) (L:List UInt8):Mix a b→Mix (a ++ [.req c L]) (b ++ [.req c L])
 | junk {a b:List eL} (j:ByteArray):Mix a b→Mix a (b ++ [.junk j])
theorem mR (S:jB) (l:List eL) (a:eL):nK tl rq S (l ++ [a])=iq tl rq (nK tl rq S l) a:=by
 unfold nK; rw [List.foldl_append]; rfl
theorem pA (htl:∀ st,(tl st).length≤7000) (st:ah) (l:List eL) (h:∀ x ∈ l,iw rq x):∀ n,n≤l.length→Good n (nK tl rq ⟨mA st,fun _=>[]⟩ (l.take n))
 | 0,_=>by rw [List.take_zero]; exact GF st
 | n+1,hn=>by
  have hlt:n<l.length:=by omega
  rw [List.take_succ_eq_append_getElem hlt,mR]
  exact good_step htl (pA htl st l h n (by omega)) (h _ (List.getElem_mem hlt))
theorem Jt (htl:∀ st,(tl st).length≤7000) (st:ah) {a b:List eL} (hm:Mix a b):(∀ x ∈ a,iw rq x)→(∀ x ∈ b,iw rq x)→Rel (nK tl rq ⟨mA st,fun _=>[]⟩ a) (nK tl rq ⟨mA st,fun _=>[]⟩ b):=by
 induction hm with
 | nil=>exact fun _ _=>⟨rfl,rfl,fun _ _=>rfl,fun _ _=>rfl⟩
 | @req a b c L _ ih=>
  intro ha hb
  have ha':∀ x ∈ a,iw rq x:=fun x hx=>ha x (List.mem_append_left _ hx)
  have hb':∀ x ∈ b,iw rq x:=fun x hx=>hb x (List.mem_append_left _ hx)
  have g1:=pA htl st a ha' a.length (Nat.le_refl _)
  have g2:=pA htl st b hb' b.length (Nat.le_refl _)
  rw [List.take_length] at g1 g2
  rw [mR,mR]
  exact Js (ih ha' hb') g1 g2 (ha _ (by simp))
 | @junk a b j _ ih=>
  intro ha hb
  rw [mR]
  exact GG (ih ha (fun x hx=>hb x (List.mem_append_left _ hx))) j
def vL (S:jB) (k:Nat):List UInt8:=S.O k ++ (S.H.cs k).waits
theorem Es (htl:∀ st,(tl st).length≤7000) (st:ah) {a b:List eL} (hm:Mix a b) (ha:∀ x ∈ a,iw rq x) (hb:∀ x ∈ b,iw rq x) {k:Nat} (hk:k≠5):vL (nK tl rq ⟨mA st,fun _=>[]⟩ a) k=vL (nK tl rq ⟨mA st,fun _=>[]⟩ b) k:=by
 have r:=Jt (rq:=rq) htl st hm ha hb
 unfold vL
 rw [r.cs k hk,r.O k hk]
end
end Go.Proofs.YtbllgmociapjeaaGreatDoor
