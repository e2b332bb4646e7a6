/- Of the proof of a statement: PlNext, PlDiff, DChkR, ZeroDe, DDec, EqFrm, FrsR, PushFeed, FeedN, PlEncS, PlEnc, PlJson, Clone, DEqR, UpStep, FitsR, TwoW. -/
import Derived.Shelf.Abstract
import Derived.Deep.RegionWith
import Derived.Deep.Cut
import Derived.Deep.CutRange
import Derived.Deep.QuietTactic
import Derived.BigQuiet
import Derived.Lib.ItoaNum
import Derived.Lib.Join
import Derived.Lib.QuietBelow
import Derived.Test.YtimglglgcgpjgaaGreatDoorQFrmDecR1
import Derived.Test.YtimglglgcgpjgaaGreatDoorQHas
set_option linter.unusedVariables false
set_option linter.unusedSimpArgs false
set_option maxRecDepth 100000
set_option maxHeartbeats 8000000
namespace Go.Proofs.YtimglglgcgpjgaaGreatDoor
open Go.RowKit
structure aK where
 kind:Int
 job:aC
 node:av
 lease:ak
 name:ByteArray
 n:Int
def mJ (st:ah) (x:aC):ah:=⟨st.rev,jI aC.name st.jobs x,st.nodes,st.leases⟩
def mK (st:ah) (x:av):ah:=⟨st.rev,st.jobs,jI av.name st.nodes x,st.leases⟩
def nB (st:ah) (s:ByteArray):ah:=⟨st.rev,st.jobs.filter fun a=>!decide (a.name=s),st.nodes,st.leases.filter fun l=>!decide (l.job=s)⟩
def nC (st:ah) (s:ByteArray):ah:=⟨st.rev,st.jobs,st.nodes.filter fun a=>!decide (a.name=s),st.leases.filter fun l=>!decide (l.node=s)⟩
def mR (st:ah) (s:ByteArray):ah:=⟨st.rev,st.jobs,st.nodes,st.leases.filter fun l=>!decide (l.job=s)⟩
def nF (st:ah) (t:Int):ah:=⟨st.rev,st.jobs,st.nodes,st.leases.filter fun l=>!decide (l.till<=t)⟩
def zI (j:aC):aC:=⟨j.name,j.prio,j.need,j.tries+1,j.tag⟩
def j5 (st:ah) (j:aC) (l:ak):ah:=⟨st.rev,jI aC.name st.jobs (zI j),st.nodes,jI ak.job st.leases l⟩
def oG (st:ah) (now:Int) (l:ak):Int × ah × Int:=
 match cC st.jobs l.job with
 | none=>(6,st,now)
 | some j=>if (bU st.nodes l.node).isSome=false then (6,st,now)
  else if (cD st.leases l.job).isSome=true then (7,st,now)
  else if l.till<=now then (1,st,now)
  else if j.tries=100 then (2,st,now)
  else (aE (j5 st j l),j5 st j l,now)
def doR (st:ah) (now:Int) (q:aK):Int × ah × Int:=
 if q.kind=1 then (aE (mJ st q.job),mJ st q.job,now)
 else if q.kind=2 then (aE (mK st q.node),mK st q.node,now)
 else if q.kind=3 then (if (cC st.jobs q.name).isSome=true then 0 else 6,nB st q.name,now)
 else if q.kind=4 then (if (bU st.nodes q.name).isSome=true then 0 else 6,nC st q.name,now)
 else if q.kind=5 then oG st now q.lease
 else if q.kind=6 then (if (cD st.leases q.name).isSome=true then 0 else 6,mR st q.name,now)
 else if q.kind=7 then (if 1099511627776 - now<q.n then (1,st,now) else (0,nF st (now+q.n),now+q.n))
 else (0,st,now)
def eQ (q:aK):Int:=
 if q.kind=1 then fS q.job else if q.kind=2 then dP q.node
 else if q.kind=3\/q.kind=4\/q.kind=6 then (if cP q.name then 0 else 4)
 else if q.kind=5 then lsE q.lease
 else if q.kind=7 then (if ranged q.n 0 1099511627776 then 0 else 1) else 0
def bJ:aC:=⟨⟨#[]⟩,0,0,0,⟨#[]⟩⟩
def aU:av:=⟨⟨#[]⟩,0,⟨#[]⟩⟩
def aN:ak:=⟨⟨#[]⟩,⟨#[]⟩,0⟩
def qO (q:aK):aK:=
 ⟨q.kind,if q.kind=1 then q.job else bJ,if q.kind=2 then q.node else aU,if q.kind=5 then q.lease else aN,if q.kind=3\/q.kind=4\/q.kind=6 then q.name else ⟨#[]⟩,if q.kind=7 then q.n else 0⟩
open Classical in
noncomputable def cO (q:aK):Int:=if ranged q.kind 1 9=false then 1 else if qO q≠q then 4 else eQ q
theorem kH {α:Type} {E:α->Int} {key:α->ByteArray} {l:List α} (h:cE E key l=0):cH key l:=(pL none l h).2
noncomputable def newL {α:Type} (a b:List α):List α:=b.filter fun x=>!a.any (eqB x)
def bI {α:Type} (key:α->ByteArray) (a b:List α):List ByteArray:=(a.filter fun x=>!b.any fun y=>decide (key y=key x)).map key
noncomputable def dL (a b:ah):aX:=⟨a.rev,b.rev,newL a.jobs b.jobs,newL a.nodes b.nodes,newL a.leases b.leases,bI aC.name a.jobs b.jobs,bI av.name a.nodes b.nodes,bI ak.job a.leases b.leases⟩
section
variable {α:Type} {p:α->Bool} {l:List α} {k:Nat} {x:α}
theorem nk (h:l[k]? = some x) (a:p x=true):(l.take (k+1)).filter p=(l.take k).filter p ++ [x]:=by
 rw [List.take_add_one,h,List.filter_append]; simp [a]
theorem oT (h:l[k]? = some x) (a:p x=false):(l.take (k+1)).filter p=(l.take k).filter p:=by
 rw [List.take_add_one,h,List.filter_append]; simp [a]
theorem kG (p:α->Bool) (l:List α) (k:Nat):((l.take k).filter p).length<=k:=v6 (List.length_filter_le _ _) (by rw [List.length_take]; omega)
theorem filter_all (p:α->Bool) {l:List α} {k:Nat} (h:l.length<=k):(l.take k).filter p=l.filter p:=by rw [List.take_of_length_le h]
end
theorem AF {α:Type} (a b:List α):(newL a b).length<=b.length:=List.length_filter_le _ _
theorem yc {α:Type} (key:α->ByteArray) (a b:List α):(bI key a b).length<=a.length:=by unfold bI; rw [List.length_map]; exact List.length_filter_le _ _
theorem Ea (e:Int):iL [e]=e:=by unfold iL; split <;> simp_all [iL]
def PC (d:aX) (x:eF) (w:World) (n:Nat) (R:Int) (i:Value) (wr:World):Prop:=
 ∃ k:Nat,k<=n/\i = .int .i64 k/\eG lsE ak.job (prevK ak.job d.leases k) (d.leases.drop k)=R/\Below w w wr/\Blk wr w 95 (dC d x)
theorem DV (d:aX) (x:eF) (w:World) (hD:dz w w d x) :
 ψ 60 #[.agg (dC d x)] w (sH d w):=by
 have c:=ω hD;have h:=ω (show Below w w (χ w (dC d x) 95) from (θ).alloc lJ _);have aj:=ω (show Blk (χ w (dC d x) 95) w 95 (dC d x) from n5 w _);have e:=ω (fun (E:Int) (ah:gG d=E) w'=>sH.mk' (w:=w) (w':=w') ah);clear hD;obtain⟨i,q,jobs,nodes,leases,m,o,r⟩:=d;obtain⟨aw,U,cj,an,J,cn,ax,u,cl,aq,Q,ay,au,T,a0,ar,S,az⟩:=x;have aD:=c.lj;have aE:=c.ln;have ai:=c.ll;have KM:=c.lgj;have KN:=c.lgn;have KO:=c.lgl;have aA:=c.bj;have aB:=c.bn;have aT:=c.bl;have Ou:=c.bgj;have Ov:=c.bgn;have Ow:=c.bgl;simp only at aD aE ai KM KN KO aA aB aT Ou Ov Ow;simp only [dC] at *;go_enter Tryz.func60,Tryz.ntmps60
 go_wp2_with fail
 refine Calls.mono (dF _ _ _ _) ?_;rintro G w0 ⟨rfl,rfl⟩;cases P:ranged i 0 1099511627776
 · have a:=ω (e.z 1 (tZ (by unfold lD; simp only; rw [P]; rfl)) _ h.z);go_wp2;go_ret;exact a
 have bp:=aM.1 P
 go_wp2_with fail
 refine Calls.mono (dF _ _ _ _) ?_;rintro G w0 ⟨rfl,rfl⟩;cases aF:ranged q 0 1099511627776
 · have a:=ω (e.z 1 (tZ (by
    have:=fT.1 aF;unfold lD;simp only;rw [P];by_cases ah:i<q
    · rw [decide_eq_true ah,decide_eq_false (by omega)]; rfl
    · rw [decide_eq_false ah]; rfl)) _ h.z)
   go_wp2;go_ret;exact a
 have be:=aM.1 aF;by_cases aY:i<q;rotate_left
 · have a:=ω (e.z 1 (tZ (by unfold lD; simp only; rw [P,decide_eq_false aY]; rfl)) _ h.z);have d1:decide (q<=i)=true:=t8 (by omega);go_wp2;go_ret;exact a
 have d1:decide (q<=i)=false:=fK (by omega);have K:=ω (show lD ⟨i,q,jobs,nodes,leases,m,o,r⟩=true by unfold lD; simp only; rw [P,decide_eq_true aY,decide_eq_true be.2]; rfl);clear P aF;by_cases s1:U<=40;rotate_left
 · have a:=ω (e.z 2 (mT K.z (by unfold jW; simp; omega)) _ h.z);have q1:decide ((40:Int)<(U:Int))=true:=t8 (by omega);go_wp2;go_ret;exact a
 have q1:decide ((40:Int)<(U:Int))=false:=fK (by omega);by_cases s2:u<=40;rotate_left
 · have a:=ω (e.z 2 (mT K.z (by unfold jW; simp; omega)) _ h.z);have q2:decide ((40:Int)<(u:Int))=true:=t8 (by omega);go_wp2;go_ret;exact a
 have q2:decide ((40:Int)<(u:Int))=false:=fK (by omega);by_cases s3:Q<=40;rotate_left
 · have a:=ω (e.z 2 (mT K.z (by unfold jW; simp; omega)) _ h.z);have q3:decide ((40:Int)<(Q:Int))=true:=t8 (by omega);go_wp2;go_ret;exact a
 have q3:decide ((40:Int)<(Q:Int))=false:=fK (by omega);by_cases s4:S<=40;rotate_left
 · have a:=ω (e.z 2 (mT K.z (by unfold jW; simp; omega)) _ h.z);have q4:decide ((40:Int)<(S:Int))=true:=t8 (by omega);go_wp2;go_ret;exact a
 have q4:decide ((40:Int)<(S:Int))=false:=fK (by omega);by_cases s5:J<=20;rotate_left
 · have a:=ω (e.z 2 (mT K.z (by unfold jW; simp; omega)) _ h.z);have q5:decide ((20:Int)<(J:Int))=true:=t8 (by omega);go_wp2;go_ret;exact a
 have q5:decide ((20:Int)<(J:Int))=false:=fK (by omega);by_cases s6:T<=20;rotate_left
 · have a:=ω (e.z 2 (mT K.z (by unfold jW; simp; omega)) _ h.z);have q6:decide ((20:Int)<(T:Int))=true:=t8 (by omega);go_wp2;go_ret;exact a
 have q6:decide ((20:Int)<(T:Int))=false:=fK (by omega);have Eb:=ω (CX K.z (show jW ⟨i,q,jobs,nodes,leases,m,o,r⟩=true by unfold jW; simp; omega));have a4:=ω (c.up h.z)
 go_wp2_with fail
 refine Calls.mono (gA.2.2.1 jobs aw U cj _ a4.j aD aA a4.oj) ?_;rintro G w2 ⟨rfl,a7⟩;have aa:=ω (h.trans (a7.mono h.size));have ab:=ω (aj.below a7 aj.lt);clear d1 q1 q2 q3 q4 q5 q6 a7 aj a4;have y3:ζ w2 w 3 (.slice an J cn):=ab.cell 3;obtain⟨V,a2⟩:∃ E,cE fS aC.name jobs=E:=⟨_,rfl⟩;have ao:=ω (show gG ⟨i,q,jobs,nodes,leases,m,o,r⟩=iL (V :: cE dP av.name nodes :: cE lsE ak.job leases :: jL (fun s=>(cC jobs s).isSome) m :: jL (fun s=>(bU nodes s).isSome) o :: jL (fun s=>(cD leases s).isSome) r :: []) by rw [Eb.z]; unfold AG; simp only; rw [a2]);rw [a2];clear a2 Eb;by_cases b:V=0;rotate_left
 · have a:=ω (e.z V (by rw [ao.z,jm b]) _ aa.z);have e1:(V == 0)=false:=beq_eq_false_iff_ne.2 b;have e2:(V != 0)=true:=bne_iff_ne.2 b;go_wp2;go_ret;exact a
 subst b;have a5:=ω (c.up aa.z)
 go_wp2_with fail
 refine Calls.mono (gA.2.2.2 nodes an J cn _ a5.n aE aB a5.on_) ?_;rintro G w3 ⟨rfl,a8⟩;have am:=ω (aa.trans (a8.mono aa.size));have al:=ω (ab.below a8 ab.lt);clear y3 a8 ab a5;obtain⟨X,a3⟩:∃ E,cE dP av.name nodes=E:=⟨_,rfl⟩;have ap:=ω (show gG ⟨i,q,jobs,nodes,leases,m,o,r⟩=iL (X :: cE lsE ak.job leases :: jL (fun s=>(cC jobs s).isSome) m :: jL (fun s=>(bU nodes s).isSome) o :: jL (fun s=>(cD leases s).isSome) r :: []) by rw [ao.z,kI rfl,a3]);rw [a3];clear a3 ao;by_cases b:X=0;rotate_left
 · have a:=ω (e.z X (by rw [ap.z,jm b]) _ am.z);have e1:(X == 0)=false:=beq_eq_false_iff_ne.2 b;have e2:(X != 0)=true:=bne_iff_ne.2 b;go_wp2;go_ret;exact a
 subst b;obtain⟨R,hR⟩:∃ R,cE lsE ak.job leases=R:=⟨_,rfl⟩;have HR:=ω hR;have ad:=ω (show gG ⟨i,q,jobs,nodes,leases,m,o,r⟩=iL (R :: jL (fun s=>(cC jobs s).isSome) m :: jL (fun s=>(bU nodes s).isSome) o :: jL (fun s=>(cD leases s).isSome) r :: []) by rw [ap.z,kI rfl,hR]);have y4:ζ w3 w 4 (.slice ax u cl):=al.cell 4;clear hR ap;go_wp2;clear y4
 go_loopw [2,5,6,7,74,80] (fun _ _ _ _ aG _ wr=>PC ⟨i,q,jobs,nodes,leases,m,o,r⟩ ⟨aw,U,cj,an,J,cn,ax,u,cl,aq,Q,ay,au,T,a0,ar,S,az⟩ w u R aG wr) (fun _ _ _ _ aG _ _=>u - (intOf aG).toNat)
 case atStart=>exact⟨0,Nat.zero_le _,rfl,HR,am,al⟩
 case round=>
  clear al am aa;obtain⟨k,hk,rfl,ba,O,H⟩:=hrel;have N:=ω ba;have Hb:=ω O;have Y:=ω H;have Ox:=O.size;clear ba;by_cases hlt:k<u
  · obtain⟨y,hf⟩:∃ y,leases[k]? = some y:=⟨_,gO (by omega)⟩;obtain⟨ag,aH,aR,bg,hc⟩:=(c.l.below O).eC aI ai hf;have bb:=ω (c.ol y (m8 hf));have Hf:=ω hf;simp only at aR;subst aR;obtain⟨E,hE⟩:∃ E,lsE y=E:=⟨_,rfl⟩;have M:=ω hE;obtain⟨job,node,bc⟩:=y;obtain⟨c0,c1,c2⟩:=rc3 hc;have bm:ag<wr.heap.size:=by omega
    have a6:=(Below.refl wr wr).alloc lJ (.cells #[job,node,bc] 66);have aJ:=ω (H.below a6 H.lt);have aL:=ω (O.trans (a6.mono Ox));clear hc hf a6 O H hE
    go_wp2_with fail
    refine Calls.mono (sS ⟨job,node,bc⟩ _ bb.z.1 bb.z.2) ?_;rintro G v ⟨rfl,z⟩;have l0:ζ v wr 0 (.string job):=by rw [(dD z).1 _ _ (by simp)]; simp [go_sem]
    have C:=ω (aL.trans (z.mono aL.size));have L:=ω (aJ.below z aJ.lt);have bk:wr.heap.size<v.heap.size:=by have:=z.size; simp at this; omega
    rw [M.z];clear z c0 c1 c2;by_cases b:E=0;rotate_left
    · have I:=ω (nZ (E:=lsE) (key:=ak.job) Hf.z (by rw [M.z]; exact b));have D:=ω (show R=E by rw [<- N.z,I.z,M.z]);have a:=ω (e.z E (by rw [ad.z,jm (by rw [D.z]; exact b),D.z]) _ C.z);have e1:(E == 0)=false:=beq_eq_false_iff_ne.2 b;have e2:(E != 0)=true:=bne_iff_ne.2 b;go_wp2;go_ret;exact a
    subst b;have y4:ζ v w 4 (.slice (some ⟨ag,aH,none⟩) u cl):=L.cell 4;have a1:=ω C.drew;have aK:=ω (show Blk v.drew w 95 _ from L.z);by_cases aZ:k=0
    · subst aZ;have I:=ω (gC (key:=ak.job) Hf.z M.z (.inl rfl));go_wp2
      go_region
      go_wp2
      go_roundw
      case rel=>exact⟨1,by omega,by go_num,by rw [<- I.z]; exact N.z,a1.z,aK.z⟩
      case measure=>simp [intOf]; omega
    · obtain⟨y,hy⟩:∃ y,leases[k - 1]? = some y:=⟨_,gO (by omega)⟩;obtain⟨b',bf,bd,Az,hp⟩:=(c.l.below C.z).eC aI ai hy;obtain⟨rfl,rfl⟩:ag=b'/\aH=bf:=by simpa using bd
      have Hy:=ω hy;obtain⟨qo,Ec,Ed⟩:=y;have q0:ζ v ag (aH+(k - 1)*3) (.string qo):=hp 0 _ rfl;clear hp hy;have bi:decide ((0:Int)<(k:Int))=true:=t8 (by omega);have bh:0<k:=by omega
      obtain⟨B,H⟩:∃ B,Op.bytesLess qo.toList job.toList=B:=⟨_,rfl⟩;have HL:=ω H;cases B
      · have I:=ω (kJ (key:=ak.job) Hf.z M.z aZ Hy.z HL.z);have D:=ω (show R=8 by rw [<- N.z,I.z]);have a:=ω (e.z 8 (by rw [ad.z,jm (by rw [D.z]; omega),D.z]) _ a1.z);go_wp2
        go_region
        go_wp2;go_ret;exact a
      · have I:=ω (gC (key:=ak.job) Hf.z M.z (.inr ⟨_,Hy,HL⟩));go_wp2
        go_region
        go_wp2
        go_roundw
        case rel=>exact⟨k+1,by omega,by go_num,by rw [<- I.z]; exact N.z,a1.z,aK.z⟩
        case measure=>simp [intOf]; omega
  · obtain rfl:k=u:=by omega
    have D:R=0:=by rw [<- N.z]; exact sU (by show leases.length<=k; omega) _
    have ae:=ω (ad.trans (kI D));have bo:∀ (fn:Fn) (first aO:Array Value) (w:World),(Instr.makeFunc fn first aO).run Tryz.prog w = .ok (.func fn first aO) w:=fun _ _ _ _=>rfl;have y5:ζ wr w 5 (.slice aq Q ay):=Y.cell 5;have g:=ω (c.up Hb.z);have aU:=ω (fun s W (F:Below wr wr W)=>I3 jobs s aw U cj w W (g.up F).j aD aA ((F.cell (p:=⟨w,2,none⟩) Y.lt).trans (Y.cell 2)));clear D O H N ad HR
    go_wp2_with fail
    refine Calls.mono (qp (fun s=>(cC jobs s).isSome) 118 (π w 0) m aq Q ay wr g.gj KM Ou g.ogj (Go.Proofs.enters_of Tryz.func118 (by kernel_rfl) rfl) aU.z) ?_;rintro G w4 ⟨rfl,a9⟩;have ac:=ω (Hb.trans (a9.mono Hb.size));have Z:=ω (Y.below a9 Y.lt);clear a9 y5 g aU;obtain⟨E3,aP⟩:∃ E,jL (fun s=>(cC jobs s).isSome) m=E:=⟨_,rfl⟩;rw [aP] at ae |-;clear aP;by_cases b:E3=0;rotate_left
    · have a:=ω (e.z E3 (by rw [ae.z,jm b]) _ ac.z);have e1:(E3 == 0)=false:=beq_eq_false_iff_ne.2 b;have e2:(E3 != 0)=true:=bne_iff_ne.2 b;go_wp2;go_ret;exact a
    subst b;have af:=ω (ae.trans (kI rfl));have y6:ζ w4 w 6 (.slice au T a0):=Z.cell 6;have g:=ω (c.up ac.z);have aW:=ω (fun s W (F:Below w4 w4 W)=>FX nodes s an J cn w W (g.up F).n aE aB ((F.cell (p:=⟨w,3,none⟩) Z.lt).trans (Z.cell 3)));clear ae
    go_wp2_with fail
    refine Calls.mono (qp (fun s=>(bU nodes s).isSome) 119 (π w 0) o au T a0 w4 g.gn KN Ov g.ogn (Go.Proofs.enters_of Tryz.func119 (by kernel_rfl) rfl) aW.z) ?_;rintro G v ⟨rfl,z⟩;have C:=ω (ac.trans (z.mono ac.size));have L:=ω (Z.below z Z.lt);clear z y6 g aW;obtain⟨E4,aQ⟩:∃ E,jL (fun s=>(bU nodes s).isSome) o=E:=⟨_,rfl⟩;rw [aQ] at af |-;clear aQ;by_cases b:E4=0;rotate_left
    · have a:=ω (e.z E4 (by rw [af.z,jm b]) _ C.z);have e1:(E4 == 0)=false:=beq_eq_false_iff_ne.2 b;have e2:(E4 != 0)=true:=bne_iff_ne.2 b;go_wp2;go_ret;exact a
    subst b;have aN:=ω ((af.trans (kI rfl)).trans (Ea _));have y7:ζ v w 7 (.slice ar S az):=L.cell 7;have g:=ω (c.up C.z);have aV:=ω (fun s W (F:Below v v W)=>Ee leases s ax k cl w W (g.up F).l ai aT ((F.cell (p:=⟨w,4,none⟩) L.lt).trans (L.cell 4)));clear af
    go_wp2_with fail
    refine Calls.mono (qp (fun s=>(cD leases s).isSome) 120 (π w 0) r ar S az v g.gl KO Ow g.ogl (Go.Proofs.enters_of Tryz.func120 (by kernel_rfl) rfl) aV.z) ?_;rintro G w6 ⟨rfl,aS⟩;have a:=ω (e.z _ aN.z _ (C.trans (aS.mono C.size)));clear aS y7 g aV aN;go_wp2;go_ret;exact a
def PD:aX:=⟨0,0,[],[],[],[],[],[]⟩
def Oy:eF:=⟨none,0,0,none,0,0,none,0,0,none,0,0,none,0,0,none,0,0⟩
theorem CY (w:World) (B:Nat):dz w B PD Oy:=
 { j:=bC.nil,n:=bC.nil,l:=bC.nil,gj:=bC.nil,gn:=bC.nil,gl:=bC.nil,lj:=rfl,ln:=rfl,ll:=rfl,lgj:=rfl,lgn:=rfl,lgl:=rfl,
   bj:=by decide,bn:=by decide,bl:=by decide,bgj:=by decide,bgn:=by decide,bgl:=by decide,
   oj:=(fun _ h=>by cases h),on_:=(fun _ h=>by cases h),ol:=(fun _ h=>by cases h),ogj:=(fun _ h=>by cases h),ogn:=(fun _ h=>by cases h),ogl:=(fun _ h=>by cases h) }
structure sL (w:World) (g:Nat) (d:aX) (x:eF):Prop where
 j:∃ b,g<b/\w.ownsRow b 85 5 (.slice x.aj x.nj x.cj) x.nj (au aS d.jobs)
 n:∃ b,g<b/\w.ownsRow b 70 3 (.slice x.an x.nn x.cn) x.nn (au aH d.nodes)
 l:∃ b,g<b/\w.ownsRow b 66 3 (.slice x.al x.nl x.cl) x.nl (au aB d.leases)
 gj:∃ b,g<b/\w.ownsRow b 9 1 (.slice x.agj x.ngj x.cgj) x.ngj (au lR d.gj)
 gn:∃ b,g<b/\w.ownsRow b 9 1 (.slice x.agn x.ngn x.cgn) x.ngn (au lR d.gn)
 gl:∃ b,g<b/\w.ownsRow b 9 1 (.slice x.agl x.ngl x.cgl) x.ngl (au lR d.gl)
 lj:d.jobs.length=x.nj
 ln:d.nodes.length=x.nn
 ll:d.leases.length=x.nl
 lgj:d.gj.length=x.ngj
 lgn:d.gn.length=x.ngn
 lgl:d.gl.length=x.ngl
theorem yg {w w':World} {g sz n:Nat} {e:TypeId} {v:Value} {xs:List Value} (h:∃ b,g<b/\w.ownsRow b e sz v n xs) (c:w.grownBy w' (some g)):∃ b,g<b/\w'.ownsRow b e sz v n xs:=by
 obtain⟨b,a,d⟩:=h; exact⟨b,a,cu d c a⟩
theorem sL.grow {w w':World} {g:Nat} {d:aX} {x:eF} (h:sL w g d x) (a:w.grownBy w' (some g)):sL w' g d x:=
 ⟨yg h.j a,yg h.n a,yg h.l a,yg h.gj a,yg h.gn a,yg h.gl a,h.lj,h.ln,h.ll,h.lgj,h.lgn,h.lgl⟩
structure Id (d:aX):Prop where
 j:d.jobs.length<=40
 n:d.nodes.length<=20
 l:d.leases.length<=40
 gj:d.gj.length<=40
 gn:d.gn.length<=20
 gl:d.gl.length<=40
 oj:oF d.jobs
 on_:mP d.nodes
 ol:lI d.leases
 ogj:nM d.gj
 ogn:nM d.gn
 ogl:nM d.gl
theorem oW {w:World} {g sz n c:Nat} {A:Option Addr} {e:TypeId} {xs:List Value} (h:∃ b,g<b/\w.ownsRow b e sz (.slice A n c) n xs):bC w w sz A n xs:=by
 obtain⟨b,d,a⟩:=h; exact cS a
theorem sL.at_ {w:World} {g:Nat} {d:aX} {x:eF} (h:sL w g d x) (z:Id d):dz w w d x:=
 ⟨oW h.j,oW h.n,oW h.l,oW h.gj,oW h.gn,oW h.gl,h.lj,h.ln,h.ll,h.lgj,h.lgn,h.lgl,
  by have:=z.j; have:=h.lj; omega,by have:=z.n; have:=h.ln; omega,by have:=z.l; have:=h.ll; omega,by have:=z.gj; have:=h.lgj; omega,by have:=z.gn; have:=h.lgn; omega,by have:=z.gl; have:=h.lgl; omega,
  z.oj,z.on_,z.ol,z.ogj,z.ogn,z.ogl⟩
def zJ (f:cM):List Value:=[.int .i64 f.ver,.int .i64 f.kind,.string f.pay]
theorem qP (f:cM):(zJ f).length=3:=rfl
def KP:Value:=.agg #[(0:Int),(0:Int),.string ⟨#[]⟩]
theorem Cc:(Tryz.prog.info? 78).map (fun i=>(i.zero,i.size,i.bytes))=some (some KP,3,32):=by kernel_rfl
theorem Ef (f:cM):∀ u ∈ zJ f,u.oneCell'=true:=by
 intro u a;simp only [zJ,List.mem_cons,List.not_mem_nil,or_false] at a;rcases a with rfl | rfl | rfl <;> rfl
theorem nG {w w':World} {base:Nat} {e:TypeId} {sz n:Nat} {v:Value} {xs:List Value} (h:w.ownsRow base e sz v n xs) (a:Below w w w'):w'.ownsRow base e sz v n xs:=
 h.kept (row:=none) ⟨a.os,a.tape,a.output,a.size,fun k b _=>a.block k b⟩ (by
  by_cases h:v.ownBlock=none
  · exact .inl h
  · exact .inr h)
theorem Ie {s:ByteArray} {f:cM} {n e:Nat} (h:jK s=(f,n,e)) (w:World) (b:s.size<=9223372036854775807) :
 ψ 47 #[s] w fun x c=>x = .returned (.tuple #[.agg #[f.ver,f.kind,f.pay],(n:Int),(e:Int)])/\Below w w c:=by
 have a:=KL s w b;unfold eP MT at a;rw [h] at a;exact a
theorem KQ {s:ByteArray} {f:cM} {n e:Nat} (h:jK s=(f,n,e)) (w:World) (b:s.size<=9223372036854775807) :
 ψ 41 #[s] w fun x c=>x = .returned (.tuple #[.agg #[f.ver,f.kind,f.pay],(n:Int),(e:Int)])/\Below w w c:=by
 have a:=MW s w b;unfold eP MT at a;rw [h] at a;exact a
def Oz (a:List cM) (m e:Nat) (w:World) (x:Ending) (w':World):Prop:=
 ∃ A n c,x = .returned (.tuple #[.slice A n c,(m:Int),(e:Int)])/\a.length=n/\w'.ownsRow w 78 3 (.slice A n c) n (au zJ a)/\Below w w w'
def FInv (s:ByteArray) (d:List cM) (m e:Nat) (w:World) (out at_:Value) (wr:World):Prop:=
 ∃ (done left:List cM) (A:Option Addr) (n c a b:Nat),d=done ++ left/\m=a+b/\out = .slice A n c/\at_ = .int .i64 (a:Int)/\n<=a/\a<=s.size/\Frs (s.extract a s.size) left b e/\wr.ownsRow w 78 3 (.slice A n c) n (au zJ done)/\Below w w wr
theorem Eg {s:ByteArray} {h:List cM} {m e:Nat} (I:Frs s h m e) (w:World) (hs:s.size<=2097152) :
 ψ 26 #[s] w (Oz h m e w):=by
 have V:=ω I;clear I;go_enter Tryz.func26,Tryz.ntmps26;go_wp2
 go_loopw [2,3,4,5,6,7,8,9,10] (fun _ _ _ out at_ _ _ _ _ wr=>FInv s h m e w out at_ wr) (fun _ _ _ _ at_ _ _ _ _ _=>s.size - (intOf at_).toNat)
 case atStart=>exact⟨[],h,none,0,0,0,m,rfl,by omega,rfl,rfl,lJ,Nat.zero_le _,by rw [show s.extract 0 s.size=s from by simp]; exact V.z,World.ownsRow_nil _ _ _ _,θ⟩
 case round=>
  obtain⟨done,left,A,C,H,a,m',u,i,rfl,rfl,aa,ha,r,j,c⟩:=hrel
  have L:∀ W:World,(Instr.slice 9 (.string s) (some (.int .i64 (a:Int))) none none).run Tryz.prog W = .ok (.string (s.extract a s.size)) W:=fun W=>by
   rw [run_slice_string_from_if (P:=Tryz.prog) (w:=W) 9 s .i64 (a:Int) Tryz.underlying9,if_pos ⟨by omega,by omega⟩,show ((a:Int)).toNat=a from by omega]
  have K:=ω (show (s.extract a s.size).size<=9223372036854775807 from by rw [ByteArray.size_extract]; omega)
  cases r with
  | stop d S=>
   have d:=ω d;have e1:((e:Int) != 0)=true:=by simp; omega
   have o:=ω (show h=done from by rw [u]; simp);have i:=ω (show m=a from i);clear u S
   go_wp2_with fail
   refine Calls.mono (Ie d.z _ K.z) ?_;rintro x Z ⟨rfl,b⟩;have z:=ω ((nG j b).alloc (.cells #[(0:Int),(0:Int),.string ⟨#[]⟩] 78));have q:=ω ((c.trans (b.mono c.size)).alloc (v6 c.size b.size) (.cells #[(0:Int),(0:Int),.string ⟨#[]⟩] 78));have X:=ω (show done.length=C from by have:=j.1; rw [jo qP] at this; omega);clear j c b L;go_wp2;refine bodyPost_ret (v:=.tuple #[.slice A C H,.int .i64 (a:Int),.int .i64 (e:Int)]) (by simp [results,Tryz.results26,go_sem]) rfl ?_;exact⟨A,C,H,by rw [i.z],by rw [o.z]; exact X.z,by rw [o.z]; exact z.z,q⟩
  | @step _ f n F G _ d h1 Q r=>
   have d:=ω d;rw [ByteArray.size_extract] at Q
   have R:=ω (show Frs (s.extract (a+n) s.size) F G e from by
    have O:(s.extract a s.size).extract n (s.extract a s.size).size=s.extract (a+n) s.size:=by
     rw [ByteArray.extract_extract,ByteArray.size_extract]
     congr 1
     omega
    rw [<- O]; exact r)
   have o:=ω (show h=(done ++ [f]) ++ F from by rw [u]; simp);have i:=ω (show m=(a+n)+G from by omega);clear u r;obtain⟨E,B,D⟩:=f
   go_wp2_with fail
   refine Calls.mono (Ie d.z _ K.z) ?_;rintro x Z ⟨rfl,b⟩;dsimp only;have z:=(nG j b).alloc (.cells #[(E:Int),(B:Int),D] 78);have q:=ω ((c.trans (b.mono c.size)).alloc (v6 c.size b.size) (.cells #[(E:Int),(B:Int),D] 78));have J:=q.size;have hlt:=z.lt;have N:=ω hlt;clear j c b L hlt
   go_wp2_with (at_builtin; refine cI zJ rfl _ _ 74 78 KP 3 32 rfl Tryz.underlying74 Cc rfl (by decide) qP Ef w _ _ _ done rfl z _ ⟨E,B,D⟩ rfl _ (by simp) rfl (by omega) (by unfold maxLen; omega) J ?_; intro M c2 w2 Y U)
   go_roundw
   case rel=>exact⟨done ++ [⟨E,B,D⟩],F,M,C+1,c2,a+n,G,o.z,i.z,rfl,by go_num,by omega,by omega,R.z,Y,q.z.trans (U.below J (fun g T=>(N.z g T).1))⟩
   case measure=>simp [intOf]; omega
def kB (w:World) (g:Nat) (a:ByteArray) (at_:Int) (stuck:Int):Prop:=Blk w g 108 #[a,at_,stuck]
def PE (s:ByteArray) (g d:Nat) (h:List cM) (m e:Nat) (w:World) (out:Value) (wr:World) (k:Nat):Prop:=
 ∃ (done left:List cM) (A:Option Addr) (n c a b:Nat),h=done ++ left/\m=a+b/\out = .slice A n c/\n<=a/\a<=s.size/\k=s.size - a/\Frs (s.extract a s.size) left b e/\wr.ownsRow w 78 3 (.slice A n c) n (au zJ done)/\w.grownBy wr (some g)/\kB wr g (s.extract a s.size) ((d:Int)+(a:Int)) 0
def MX (s:ByteArray) (g b:Nat) (a:List cM) (m e:Nat) (w:World) (x:Ending) (w':World):Prop:=
 ∃ A n c,x = .returned (.tuple #[.slice A n c,.int .i64 (if e=3 then 0 else (e:Int))])/\a.length=n/\w'.ownsRow w 78 3 (.slice A n c) n (au zJ a)/\w.grownBy w' (some g) /\
  kB w' g (if e=3 then s.extract m s.size else ⟨#[]⟩) ((b:Int)+(m:Int)) (if e=3 then 0 else (e:Int))
theorem KR {G p s:ByteArray} {g q:Nat} {u:List cM} {m e:Nat} (w:World) (hs:G ++ p=s) (z:Frs s u m e) (c:kB w g G q 0) (au:s.size<=2097152) (ap:q<=2097152) :
 ψ 22 #[π g 0,p] w (MX s g q u m e w):=by
 have hh:=ω z;have hlt:=c.lt;have x0:ζ w g 0 (.string G):=Blk.cell c 0;have x2:ζ w g 2 (.int .i64 0):=Blk.cell c 2;have Y:=Blk.thaw c 0;have aa:=ω (show kB (sX w g 0 (.string s)) g s (q:Int) 0 from Blk.eq (Blk.set c 0 _) (by simp))
 have am:¬ 9223372036854775807<G.size+p.size:=by
  have:=congrArg ByteArray.size hs;rw [ByteArray.size_append] at this; omega
 have ao:G.size+p.size<=9223372036854775807:=by omega
 clear z c;go_enter Tryz.func22,Tryz.ntmps22;go_wp2
 go_loopg [4,5,6,7,8,9,27] s.size (fun k _ _ out _ _ _ _ wr=>PE s g q u m e w out wr k)
 case atStart=>exact⟨[],u,none,0,0,0,m,rfl,by omega,rfl,lJ,Nat.zero_le _,rfl,by rw [show s.extract 0 s.size=s from by simp]; exact hh.z,World.ownsRow_nil _ _ _ _,aJ (World.grownBy.refl w _) _ _,by rw [show s.extract 0 s.size=s from by simp]; exact Blk.eq aa.z (by simp)⟩
 case round=>
  obtain⟨done,left,A,C,H,b,m',L,B,rfl,ar,ha,rfl,c,o,F,J⟩:=hrel;have R:ζ wr g 0 (.string (s.extract b s.size)):=Blk.cell J 0;have af:=ω (show (s.extract b s.size).size<=9223372036854775807 from by rw [ByteArray.size_extract]; omega);have n:=J.lt;have h:=ω J;clear x0 x2 Y aa am ao hs J
  cases c with
  | stop j he=>
   have j:=ω j;have e1:((e:Int) == 0)=false:=by simp; omega
   have r:=ω (show u=done from by rw [L]; simp);have B:=ω (show m=b from B);clear L
   go_wp2_with fail
   refine Calls.mono (KQ j.z _ af.z) ?_;rintro x D ⟨rfl,a⟩;have M:=ω ((nG o a).alloc (.cells #[(0:Int),(0:Int),.string ⟨#[]⟩] 78));have i:=a.alloc a.size (.cells #[(0:Int),(0:Int),.string ⟨#[]⟩] 78);have K:=ω (iT F i);have ab:=h.below i n;have z0:ζ D g 0 (.string (s.extract b s.size)):=Blk.cell (Blk.below h.z a n) 0;have z2:ζ D g 2 (.int .i64 0):=Blk.cell (Blk.below h.z a n) 2;have Y:=Blk.thaw (Blk.below h.z a n) 0;have t2:=Blk.thaw (Blk.below h.z a n) 2;have aq:g<D.heap.size:=by have:=a.size; omega
   have S:=ω ab;have ad:=ω (show done.length=C from by have:=o.1; rw [jo qP] at this; omega);have al:=ω ((nG o a).kept (row:=some g) (aJ (aJ (World.grownBy.refl D _) 0 (.string ⟨#[]⟩)) 2 (.int .i64 (e:Int))) (.inr (fun z=>by have:=((nG o a).lt g z).1; omega)));have aj:=ω (aJ (aJ (iT F a) 0 (.string ⟨#[]⟩)) 2 (.int .i64 (e:Int)));have ah:=ω (show kB (sX (sX D g 0 (.string ⟨#[]⟩)) g 2 (.int .i64 (e:Int))) g ⟨#[]⟩ ((q:Int)+(b:Int)) (e:Int) from Blk.eq ((Blk.set (Blk.below h.z a n) 0 _).set 2 _) (by simp));clear o a i F ab R;by_cases I:e=3
   · subst I;clear e1 he;go_wp2;refine bodyPost_ret (v:=.tuple #[.slice A C H,.int .i64 0]) (by simp [results,Tryz.results22,go_sem]) rfl ?_;exact⟨A,C,H,rfl,by rw [r.z]; exact ad.z,by rw [r.z]; exact M.z,K,by rw [B.z]; exact S.z⟩
   · have e2:((e:Int) == 3)=false:=by simp; omega
     go_wp2;refine bodyPost_ret (v:=.tuple #[.slice A C H,.int .i64 (e:Int)]) (by simp [results,Tryz.results22,go_sem]) rfl ?_;exact⟨A,C,H,by rw [if_neg I],by rw [r.z]; exact ad.z,by rw [r.z]; exact al.alloc _,iT aj.z ((θ).alloc lJ _),by rw [B.z,if_neg I,if_neg I]; exact ah.alloc _⟩
  | @step _ f d U X _ j h1 h2 c=>
   have j:=ω j;have ag:=h2;rw [ByteArray.size_extract] at ag
   have T:(s.extract b s.size).extract d (s.extract b s.size).size=s.extract (b+d) s.size:=by
    rw [ByteArray.extract_extract,ByteArray.size_extract]
    congr 1
    omega
   have ai:=ω (show Frs (s.extract (b+d) s.size) U X e from by rw [<- T]; exact c)
   have q1:∀ W:World,(Instr.slice 9 (.string (s.extract b s.size)) (some (.int .i64 (d:Int))) none none).run Tryz.prog W = .ok (.string (s.extract (b+d) s.size)) W:=fun W=>by
    rw [run_slice_string_from_if (P:=Tryz.prog) (w:=W) 9 (s.extract b s.size) .i64 (d:Int) Tryz.underlying9,if_pos ⟨by omega,by omega⟩,show ((d:Int)).toNat=d from by omega,T]
   have r:=ω (show u=(done ++ [f]) ++ U from by rw [L]; simp);have B:=ω (show m=(b+d)+X from by omega);clear L c T;obtain⟨Q,N,O⟩:=f
   go_wp2_with fail
   refine Calls.mono (KQ j.z _ af.z) ?_;rintro x D ⟨rfl,a⟩;dsimp only;have M:=(nG o a).alloc (.cells #[(Q:Int),(N:Int),O] 78);have i:=a.alloc a.size (.cells #[(Q:Int),(N:Int),O] 78);have K:=ω (iT F i);have ak:=K.size;have S:=ω (h.below i n);have Z:=ω M.lt;clear o a i F R
   go_wp2_with (at_builtin; refine cI zJ rfl _ _ 74 78 KP 3 32 rfl Tryz.underlying74 Cc rfl (by decide) qP Ef w _ _ _ done rfl M _ ⟨Q,N,O⟩ rfl _ (by simp) rfl (by omega) (by unfold maxLen; omega) ak ?_; intro A2 c2 w2 ae ac; have E:=ω (S.grew ac (fun k V=>by have:=(Z.z k V).1; omega)); have R:=Blk.cell E.z 0; have y1:=Blk.cell E.z 1; have Y:=Blk.thaw E.z 0; have t1:=Blk.thaw E.z 1; dsimp at R y1)
   go_roundg (s.size - (b+d))
   case rel=>exact⟨done ++ [⟨Q,N,O⟩],U,A2,C+1,c2,b+d,X,r.z,B.z,rfl,by omega,by omega,rfl,ai.z,ae.kept (row:=some g) (aJ (aJ (World.grownBy.refl w2 _) 0 _) 1 _) (.inr (fun z=>by have:=(ae.lt g z).1; omega)),aJ (aJ (JW K.z ac (fun k V=>(Z.z k V).1)) _ _) _ _,Blk.eq ((E.z.set 0 _).set 1 _) (by simp; omega)⟩
   case measure=>omega
theorem MY (w:World):ψ 14 #[] w fun x a=>x = .returned (π w 0)/\a=w.alloc (.cells #[.string ⟨#[]⟩,(0:Int),(0:Int)] 108):=by
 go_enter Tryz.func14,Tryz.ntmps14;go_wp2;go_ret;exact⟨rfl,rfl⟩
theorem If {j:aC} (h:fS j=0):uF j:=by
 obtain⟨a,b,c,d,e⟩:=oX h;have:=eV a;have:=nH b;exact⟨by omega,by omega,by omega,by omega,by omega⟩
theorem Eh {n:av} (h:dP n=0):p8 n:=by
 obtain⟨a,b,c⟩:=pM h;have:=eV a;have:=nH b;exact⟨by omega,by omega,by omega⟩
theorem I4 {l:ak} (h:lsE l=0):vB l:=by
 obtain⟨a,b,c⟩:=KS h;have:=eV a;have:=eV b;exact⟨by omega,by omega,by omega⟩
theorem AH:∀ {l:List Int},iL l=0->∀ e ∈ l,e=0
 | [],_,e,a=>by cases a
 | x :: l,h,e,a=>by
  by_cases b:x=0
  · rw [kI b] at h;rcases List.mem_cons.1 a with rfl | a
    · exact b
    · exact AH h e a
  · rw [jm b] at h; exact absurd h b
def oD (d:aX):List UInt8:=bg d.from_.toNat ++ bg (d.to_ - d.from_).toNat ++ fZ (fun x=>eK x 3) d.jobs ++ fZ (fun x=>cX x 3) d.nodes ++ fZ eH d.leases ++ fZ dW d.gj ++ fZ dW d.gn ++ fZ dW d.gl
def mh (d:aX):ByteArray × Int:=if gG d=0 then (if 6000<(oD d).length then (⟨#[]⟩,2) else (⟨(oD d).toArray⟩,0)) else (⟨#[]⟩,gG d)
def lC (d:aX) (w:World) (e:Ending) (w':World):Prop:=e = .returned (.tuple #[.string (mh d).1,.int .i64 (mh d).2])/\Below w w w'
theorem lC.bad {d:aX} {w w':World} {E:Int} (h:gG d=E) (a:E≠0) (b:Below w w w'):lC d w (.returned (.tuple #[.string ⟨#[]⟩,E])) w':=by
 refine⟨?_,b⟩; unfold mh; rw [if_neg (by rw [h]; exact a),h]
theorem lC.large {d:aX} {w w':World} (h:gG d=0) (a:6000<(oD d).length) (b:Below w w w'):lC d w (.returned (.tuple #[.string ⟨#[]⟩,(2:Int)])) w':=by
 refine⟨?_,b⟩; unfold mh; rw [if_pos h,if_pos a]
theorem lC.ok {d:aX} {w w':World} {s:ByteArray} (h:gG d=0) (a:¬ 6000<(oD d).length) (c:s=⟨(oD d).toArray⟩) (b:Below w w w'):lC d w (.returned (.tuple #[s,(0:Int)])) w':=by
 refine⟨?_,b⟩; unfold mh; rw [if_pos h,if_neg a,c]
structure PF (d:aX):Prop where
 t0:0<=d.from_
 t1:d.from_<d.to_
 t2:d.to_<=1099511627776
 nj:d.jobs.length<=40
 nn:d.nodes.length<=20
 nl:d.leases.length<=40
 ngj:d.gj.length<=40
 ngn:d.gn.length<=20
 ngl:d.gl.length<=40
 jobs:∀ x ∈ d.jobs,uF x
 nodes:∀ x ∈ d.nodes,p8 x
 leases:∀ x ∈ d.leases,vB x
theorem NU {d:aX} (h:gG d=0):PF d:=by
 have b:lD d=true:=by
  cases e:lD d
  · rw [tZ e] at h; exact absurd h (by decide)
  · rfl
 have g:jW d=true:=by
  cases e:jW d
  · rw [mT b e] at h; exact absurd h (by decide)
  · rfl
 rw [CX b g] at h;have c:=AH h;unfold lD at b;unfold jW at g;simp only [Bool.and_eq_true,decide_eq_true_eq,aM] at b g;have i:=(pL (E:=fS) (key:=aC.name) none d.jobs (c _ (by simp [AG,cE]))).1;have m:=(pL (E:=dP) (key:=av.name) none d.nodes (c _ (by simp [AG,cE]))).1;have j:=(pL (E:=lsE) (key:=ak.job) none d.leases (c _ (by simp [AG,cE]))).1;exact⟨by omega,by omega,by omega,by omega,by omega,by omega,by omega,by omega,by omega,fun x a=>If (i x a).1,fun x a=>Eh (m x a).1,fun x a=>I4 (j x a).1⟩
def ascii (s:String):List UInt8:=s.toUTF8.data.toList
def CZ {α:Type} (T:TypeId) (sz:Nat) (enc:α->List Value) (xs:List α) (w:World) (e:Ending) (w':World):Prop:=
 ∃ a b,e = .returned (.slice a xs.length b)/\w'.ownsRow w T sz (.slice a xs.length b) xs.length (au enc xs)/\Below w w w'
theorem CZ.OA {α:Type} {T:TypeId} {sz n:Nat} {enc:α->List Value} {xs:List α} {w w':World} {v:Value} (e:xs.length=n) (a:w'.ownsRow w T sz v n (au enc xs)) (c:Below w w w'):CZ T sz enc xs w (.returned v) w':=by
 subst e;rcases a.2 with ⟨rfl,b⟩ | ⟨g,d,h,rfl,_⟩
 · rw [b] at a;exact⟨none,0,by rw [b],by rw [b]; exact a,c⟩
 · exact⟨some ⟨g,0,none⟩,d,rfl,a,c⟩
theorem bC.adds {w:World} {B sz n:Nat} {b:Addr} {xs:List Value} (h:bC w B sz (some b) n xs):∀ j u,xs[j]? = some u->w.cell? (b.add j)=some u:=by
 intro j u c
 have g:0<n:=by
  rcases Nat.eq_zero_or_pos n with a | a
  · subst a;have:xs=[]:=List.eq_nil_of_length_eq_zero (by rw [h.len]; omega);subst this; cases c
  · exact a
 obtain⟨m,q,e,o,i⟩:=h.at_ g;injection e with e;subst e;have:=i j u c;unfold Addr.add
 split
 · rename_i d; subst d; simpa using this
 · exact this
theorem vC {w:World} {a:Addr} {v:Value} (o:Obj) (h:w.cell? a=some v):(w.alloc o).cell? a=some v:=by
 have hlt:a.block<w.heap.size:=by
  rcases Nat.lt_or_ge a.block w with b | b
  · exact b
  · simp [World.cell?,Array.getElem?_eq_none b] at h
 rw [<- h];have:=((Below.refl w w).alloc lJ o).block a.block hlt;unfold World.cell?;rw [this]
def sV (a:Type) (b:Nat) (d:a->List Value) (e:FuncId) (g:TypeId):Prop:=
 ∀ (xs:List a) (A:Option Addr) (n c:Nat) (w:World) (j:bC w w b A n (au d xs)) (h:xs.length=n) (i:n<=1000),ψ e #[.slice A n c] w (CZ g b d xs w)
theorem sW:sV aC 5 aS 66 85 /\ sV av 3 aH 67 70 /\ sV ak 3 aB 68 66:=by
 refine⟨@fun g A n c w e h P=>(fun(o:Unit)=>?_) (),@fun g A n c w e h P=>(fun(q:Unit)=>?_) (),@fun g A n c w e h P=>?_⟩<;>(
 first|(guard_hyp o;have J:Tg 14:=⟨⟩;have K:=@Tryz.underlying22;have L:=@mI;have M:Tg 0:=⟨⟩;have N:Tg 13:=⟨⟩)|(guard_hyp q;have J:Tg 16:=⟨⟩;have K:=@Tryz.underlying23;have L:=@kW;have M:Tg 1:=⟨⟩;have N:Tg 15:=⟨⟩)|(have J:Tg 17:=⟨⟩;have K:=@Tryz.underlying24;have L:=@jB;have M:Tg 2:=⟨⟩;have N:Tg 15:=⟨⟩)
 have X:∀ (w:World) (a:Option Addr) (n c O s:Nat),(binOp .eql J (.slice a n c) (.slice none O s)).run Tryz.prog w = .ok (.bool a.isNone) w:=fun w a n c O s=>Lib.run_eql_slice_nil w _ _ a n c O s K;obtain⟨I,B,E,F,G⟩:=info_parts L
 cases A with
 | none=>
  have T:n=0:=by
   rcases Nat.eq_zero_or_pos n with v | v
   · exact v
   · obtain⟨_,_,S,_⟩:=e.at_ v; cases S
  subst T;have W:g=[]:=List.eq_nil_of_length_eq_zero h;subst W;clear e h
  first|(guard_hyp o;go_enter Tryz.func66,Tryz.ntmps66)|(guard_hyp q;go_enter Tryz.func67,Tryz.ntmps67)|go_enter Tryz.func68,Tryz.ntmps68
  go_wp2;go_ret;exact⟨none,0,rfl,World.ownsRow_nil _ _ _ _,θ⟩
 | some r=>
  have d:=e.adds;have C:(au M g).length=n*N:=e.len;have H:=ω d;clear e d
  first|(guard_hyp o;go_enter Tryz.func66,Tryz.ntmps66)|(guard_hyp q;go_enter Tryz.func67,Tryz.ntmps67)|go_enter Tryz.func68,Tryz.ntmps68
  first|(guard_hyp o;go_wp2_with (at_builtin; refine wpList_append_own_at _ rfl _ _ 22 rfl w 85 I (.agg #[.string ⟨#[]⟩,(0:Int),(0:Int),(0:Int),.string ⟨#[]⟩]) 5 56 Tryz.underlying22 B E F G rfl (by decide) (.slice (some ⟨w,0,none⟩) 0 0) 0 [] rfl (World.ownsRow_made w #[] 0 lJ (Nat.zero_le _) rfl) r n c (au aS g) rfl C (fun j u b=>by have d:=H.z; exact vC _ (d j u b)) (fun u b=>by obtain⟨a,_,ha⟩:=List.mem_flatMap.1 b; exact kV a u ha) (by unfold maxLen; omega) (by omega) (by simp) ?_; intro Q R i m D z))|(guard_hyp q;go_wp2_with (at_builtin; refine wpList_append_own_at _ rfl _ _ 23 rfl w 70 I (.agg #[.string ⟨#[]⟩,(0:Int),.string ⟨#[]⟩]) 3 40 Tryz.underlying23 B E F G rfl (by decide) (.slice (some ⟨w,0,none⟩) 0 0) 0 [] rfl (World.ownsRow_made w #[] 0 lJ (Nat.zero_le _) rfl) r n c (au aH g) rfl C (fun j u b=>by have d:=H.z; exact vC _ (d j u b)) (fun u b=>by obtain⟨a,_,ha⟩:=List.mem_flatMap.1 b; exact jA a u ha) (by unfold maxLen; omega) (by omega) (by simp) ?_; intro Q R i m D z))|go_wp2_with (at_builtin; refine wpList_append_own_at _ rfl _ _ 24 rfl w 66 I (.agg #[.string ⟨#[]⟩,.string ⟨#[]⟩,(0:Int)]) 3 40 Tryz.underlying24 B E F G rfl (by decide) (.slice (some ⟨w,0,none⟩) 0 0) 0 [] rfl (World.ownsRow_made w #[] 0 lJ (Nat.zero_le _) rfl) r n c (au aB g) rfl C (fun j u b=>by have d:=H.z; exact vC _ (d j u b)) (fun u b=>by obtain⟨a,_,ha⟩:=List.mem_flatMap.1 b; exact gY a u ha) (by unfold maxLen; omega) (by omega) (by simp) ?_; intro Q R i m D z)
  rw [Nat.zero_add,List.nil_append] at i;have U:=ω (CZ.OA h i (((Below.refl _ w).alloc lJ _).grown m (by simp) (by intro k V; simp [Value.ownBlock] at V; omega)));clear i m D z;go_wp2;go_ret;exact U)
theorem Av.same {α:Type} {xs:List α} {w w':World} {e:Ending} (h:Av xs xs w e w'):e = .returned (.bool true)/\Below w w w':=by
 obtain⟨t,rfl,b,a⟩:=h;exact⟨by rw [b.2 rfl],a⟩
section
variable {α:Type} {f:α->α} {l:List α} {k:Nat} {y:α}
end
theorem StOwn.kept {w w':World} {base:Nat} {st:ah} {x:StA} (h:StOwn w base st x) (a:Below w w w'):StOwn w' base st x:=
 ⟨aF h.j a,aF h.n a,aF h.l a,h.lj,h.ln,h.ll⟩
def RFJ (st:ah) (x:StA) (v:Int) (w:World) (n:Nat) (i:Value) (wr:World):Prop:=
 ∃ k:Nat,k<=n/\i = .int .i64 k/\(st.jobs.take k).all (okJ v)=true/\Below w w wr/\Blk wr w 26 (stC st x)
def RFN (st:ah) (x:StA) (v:Int) (w:World) (n:Nat) (i:Value) (wr:World):Prop:=
 ∃ k:Nat,k<=n/\i = .int .i64 k/\(st.nodes.take k).all (okN v)=true/\Below w w wr/\Blk wr w 26 (stC st x)
theorem all_false {α:Type} {p:α->Bool} {l:List α} {k:Nat} {x:α} (h:l[k]? = some x) (a:p x=false):l.all p=false:=by
 rw [List.all_eq_false];exact⟨x,m8 h,by rw [a]; simp⟩
theorem I5 (st:ah) (x:StA) (v:Int) (w:World) (hS:StAt w w st x) (hv:ranged v 1 3=true) :
 ψ 174 #[.agg (stC st x),v] w fun ai w'=>ai = .returned (.bool (p9 st v))/\Below w w w':=by
 have z:=ω hS;have b:=ω (show Below w w (χ w (stC st x) 26) from (θ).alloc lJ _);have d:=ω (show Blk (χ w (stC st x) 26) w 26 (stC st x) from n5 w _);obtain⟨rev,jobs,nodes,leases⟩:=st;obtain⟨aj,J,cj,R,C,T,al,nl,cl⟩:=x;have af:=z.lj;have ag:=z.ln;have am:=z.bj;have ao:=z.bn;simp only at af ag am ao;obtain⟨F,X⟩:∃ F,p9 ⟨rev,jobs,nodes,leases⟩ v=F:=⟨_,rfl⟩;rw [X];have L:=ω (show ((decide (v=3) || decide (rev=0)) && jobs.all (okJ v) && nodes.all (okN v))=F from X)
 have hd:(decide (1<v)=false/\decide (2<v)=false/\decide (v=3)=false/\decide (v<3)=true/\decide (v<2)=true)\/(decide (1<v)=true/\decide (2<v)=false/\decide (v=3)=false/\decide (v<3)=true/\decide (v<2)=false)\/(decide (1<v)=true/\decide (2<v)=true/\decide (v=3)=true/\decide (v<3)=false/\decide (v<2)=false):=by
  rcases Ei hv with rfl | rfl | rfl
  · exact .inl ⟨rfl,rfl,rfl,rfl,rfl⟩
  · exact .inr (.inl ⟨rfl,rfl,rfl,rfl,rfl⟩)
  · exact .inr (.inr ⟨rfl,rfl,rfl,rfl,rfl⟩)
 clear hS X hv;simp only [stC] at *;by_cases g:rev=0;rotate_left
 all_goals rcases hd with ⟨M,U,B,d4,d5⟩ | ⟨M,U,B,d4,d5⟩ | ⟨M,U,B,d4,d5⟩
 · have e1:(rev == 0)=false:=beq_eq_false_iff_ne.2 g;have e2:(rev != 0)=true:=bne_iff_ne.2 g;have V:=ω (show false=F by rw [<- L.z,B,decide_eq_false g]; rfl);go_enter Tryz.func174,Tryz.ntmps174;go_wp2;go_ret;exact⟨bB V.z,b⟩
 · have e1:(rev == 0)=false:=beq_eq_false_iff_ne.2 g;have e2:(rev != 0)=true:=bne_iff_ne.2 g;have V:=ω (show false=F by rw [<- L.z,B,decide_eq_false g]; rfl);go_enter Tryz.func174,Tryz.ntmps174;go_wp2;go_ret;exact⟨bB V.z,b⟩
 all_goals (
  have Q:=ω (show (jobs.all (okJ v) && nodes.all (okN v))=F by rw [<- L.z,B]; simp [g]);clear L B
  try subst g
  go_enter Tryz.func174,Tryz.ntmps174;go_wp2
  go_loopw [4,6,19] (fun _ _ s wr=>RFJ ⟨_,jobs,nodes,leases⟩ ⟨aj,J,cj,R,C,T,al,nl,cl⟩ v w J s wr) (fun _ _ s _=>J - (intOf s).toNat)
  case atStart=>exact⟨0,Nat.zero_le _,rfl,by simp,b,d⟩
  case round=>
   clear b d;obtain⟨k,hk,rfl,E,c,r⟩:=hrel;have D:=ω E;have b:=ω c;have d:=ω r;have aq:=c.size;clear E;by_cases hlt:k<J
   · obtain⟨y,e⟩:∃ y,jobs[k]? = some y:=⟨_,gO (by omega)⟩;obtain⟨S,au,G,ak,I⟩:=(z.j.below c).eC aT af e;have Y:=ω (wK (p:=okJ v) e);have Z:=ω (all_false (p:=okJ v) e);simp only at G;subst G;obtain⟨u,ac,ab,m,i⟩:=y;obtain⟨c0,c1,c2,c3,c4⟩:=rc5 I;have ap:S<wr.heap.size:=by omega
     have H:=ω (b.alloc b.size (.cells #[u,ac,ab,m,i] 85));have W:=ω (d.alloc (.cells #[u,ac,ab,m,i] 85));clear I e c r;obtain⟨a,ha⟩:∃ a,decide (i.size=0)=a:=⟨_,rfl⟩;obtain⟨q,N⟩:∃ q,decide (m=0)=q:=⟨_,rfl⟩;have K:=ω (FY (j:=⟨u,ac,ab,m,i⟩) ha N M U)
     have aa:(a=true/\i=⟨#[]⟩)\/(a=false/\(i.toList == [])=false/\(i.toList == ByteArray.toList ⟨#[]⟩)=false):=by
      by_cases h:i.size=0
      · exact .inl ⟨by rw [<- ha]; exact t8 h,nP h⟩
      · exact .inr ⟨by rw [<- ha]; exact fK h,oN h,mZ h⟩
     have ar:(q=true/\m=0)\/(q=false/\(m == 0)=false/\(m != 0)=true):=by
      by_cases h:m=0
      · exact .inl ⟨by rw [<- N]; exact t8 h,h⟩
      · exact .inr ⟨by rw [<- N]; exact fK h,beq_eq_false_iff_ne.2 h,bne_iff_ne.2 h⟩
     clear ha N;rcases aa with ⟨rfl,rfl⟩ | ⟨rfl,t1,t2⟩
     all_goals rcases ar with ⟨rfl,rfl⟩ | ⟨rfl,r1,r2⟩
     all_goals go_wp2
     all_goals first
      | (go_ret
         exact⟨bB (by rw [<- Q.z,Z.z (by rw [K.z]; rfl)]; rfl),H⟩)
      | (go_roundw
         case rel=>exact⟨k+1,by omega,by go_num,by rw [Y.z,D.z,K.z]; rfl,H.z,W.z⟩
         case measure=>simp [intOf]; omega)
   · have O:jobs.all (okJ v)=true:=by
      have:=D.z;rwa [show List.take k jobs=jobs from List.take_of_length_le (by omega)] at this
     have ae:=ω (show nodes.all (okN v)=F by rw [<- Q.z,O]; rfl);have y2:ζ wr w 2 (.slice R C T):=d.cell 2;clear O c r Q;go_wp2;clear y2
     go_loopw [4,8,43] (fun _ _ s wr=>RFN ⟨_,jobs,nodes,leases⟩ ⟨aj,J,cj,R,C,T,al,nl,cl⟩ v w C s wr) (fun _ _ s _=>C - (intOf s).toNat)
     case atStart=>exact⟨0,Nat.zero_le _,rfl,by simp,b,d⟩
     case round=>
      clear b d D;obtain⟨P,hm,rfl,E,c,r⟩:=hrel;have D:=ω E;have b:=ω c;have d:=ω r;have aq:=c.size;clear E;by_cases av:P<C
      · obtain⟨y,e⟩:∃ y,nodes[P]? = some y:=⟨_,gO (by omega)⟩;obtain⟨S,au,G,ak,I⟩:=(z.n.below c).eC aO ag e;have Y:=ω (wK (p:=okN v) e);have Z:=ω (all_false (p:=okN v) e);simp only at G;subst G;obtain⟨u,ad,o⟩:=y;obtain⟨c0,c1,c2⟩:=rc3 I;have ap:S<wr.heap.size:=by omega
        have H:=ω (b.alloc b.size (.cells #[u,ad,o] 70));have W:=ω (d.alloc (.cells #[u,ad,o] 70));clear I e c r;obtain⟨a,ha⟩:∃ a,decide (o.size=0)=a:=⟨_,rfl⟩;have K:=ω (FZ (n:=⟨u,ad,o⟩) ha M)
        have aa:(a=true/\o=⟨#[]⟩)\/(a=false/\(o.toList == [])=false/\(o.toList == ByteArray.toList ⟨#[]⟩)=false):=by
         by_cases h:o.size=0
         · exact .inl ⟨by rw [<- ha]; exact t8 h,nP h⟩
         · exact .inr ⟨by rw [<- ha]; exact fK h,oN h,mZ h⟩
        clear ha;rcases aa with ⟨rfl,rfl⟩ | ⟨rfl,t1,t2⟩
        all_goals go_wp2
        all_goals first
         | (go_ret
            exact⟨bB (by rw [<- ae.z,Z.z (by rw [K.z]; rfl)]),H⟩)
         | (go_roundw
            case rel=>exact⟨P+1,by omega,by go_num,by rw [Y.z,D.z,K.z]; rfl,H.z,W.z⟩
            case measure=>simp [intOf]; omega)
      · have O:=ω (show true=F by
         rw [<- ae.z];have:=D.z;rw [show List.take P nodes=nodes from List.take_of_length_le (by omega)] at this;exact this.symm)
        clear c r;go_wp2;go_ret;exact⟨bB O.z,b⟩)
structure TwoW (w w':World) (a b:Nat):Prop where
 os:w'.os=w.os
 tape:w'.tape=w.tape
 output:w'.output=w.output
 size:w.heap.size<=w'.heap.size
 block:∀ k,k<w.heap.size->k≠a->k≠b->w'.heap[k]? = w.heap[k]?
theorem TwoW.fst {w u v:World} {a b:Nat} (h:TwoW w u a b) (c:u.grownBy v (some a)):TwoW w v a b:=
 ⟨c.os.trans h.os,c.tape.trans h.tape,c.output.trans h.output,v6 h.size c.size,fun k e d g=>(c.block k (u7 e h.size) (by simp; exact d)).trans (h.block k e d g)⟩
theorem TwoW.snd {w u v:World} {a b:Nat} (h:TwoW w u a b) (c:u.grownBy v (some b)):TwoW w v a b:=
 ⟨c.os.trans h.os,c.tape.trans h.tape,c.output.trans h.output,v6 h.size c.size,fun k e g d=>(c.block k (u7 e h.size) (by simp; exact d)).trans (h.block k e g d)⟩
theorem TwoW.refl (w:World) (a b:Nat):TwoW w w a b:=⟨rfl,rfl,rfl,lJ,fun _ _ _ _=>rfl⟩
theorem TwoW.below {w0 w u:World} {a b:Nat} (h:TwoW w u a b) (c:Below w0 w0 w) (e:w0.heap.size<=a) (g:w0.heap.size<=b):Below w0 w0 u:=
 ⟨h.os.trans c.os,h.tape.trans c.tape,h.output.trans c.output,v6 c.size h.size,fun k d=>(h.block k (u7 d c.size) (by omega) (by omega)).trans (c.block k d)⟩
end Go.Proofs.YtimglglgcgpjgaaGreatDoor
