/- Of the proof of a statement: PlNext, StChkS, StTop, PlDiff, DChkR, ZeroDe, SlEqL, EqFrm, PlJson, Fits, UpStep, RqRd. -/
import Derived.Lib.QuietBelow
import Derived.Shelf.Abstract
import Derived.Deep.QuietTactic
import Derived.BigQuiet
import Derived.Lib.ItoaNum
import Derived.Lib.Join
import Derived.Test.YtimglglgcgpjgabGreatDoorPBSearch
import Derived.Test.YtimglglgcgpjgabGreatDoorPHas
import Derived.Test.YtimglglgcgpjgabGreatDoorPRPhQ
import Derived.Test.YtimglglgcgpjgabGreatDoorPRowsC
set_option linter.unusedVariables false
set_option linter.unusedSimpArgs false
set_option maxRecDepth 100000
set_option maxHeartbeats 8000000
namespace Go.Proofs.YtimglglgcgpjgabGreatDoor
open Go.RowKit
structure aL where
 kind:Int
 job:aC
 node:av
 lease:ak
 name:ByteArray
 n:Int
def mL (st:ah) (x:aC):ah:=⟨st.rev,jE aC.name st.jobs x,st.nodes,st.leases⟩
def mM (st:ah) (x:av):ah:=⟨st.rev,st.jobs,jE av.name st.nodes x,st.leases⟩
def nk (st:ah) (s:ByteArray):ah:=⟨st.rev,st.jobs.filter fun a=>!decide (a.name=s),st.nodes,st.leases.filter fun l=>!decide (l.job=s)⟩
def nu (st:ah) (s:ByteArray):ah:=⟨st.rev,st.jobs,st.nodes.filter fun a=>!decide (a.name=s),st.leases.filter fun l=>!decide (l.node=s)⟩
def mN (st:ah) (s:ByteArray):ah:=⟨st.rev,st.jobs,st.nodes,st.leases.filter fun l=>!decide (l.job=s)⟩
def ny (st:ah) (t:Int):ah:=⟨st.rev,st.jobs,st.nodes,st.leases.filter fun l=>!decide (l.till<=t)⟩
def zw (j:aC):aC:=⟨j.name,j.prio,j.need,j.tries+1,j.tag⟩
def jY (st:ah) (j:aC) (l:ak):ah:=⟨st.rev,jE aC.name st.jobs (zw j),st.nodes,jE ak.job st.leases l⟩
def oG (st:ah) (now:Int) (l:ak):Int × ah × Int:=
 match cD st.jobs l.job with
 | none=>(6,st,now)
 | some j=>if (bU st.nodes l.node).isSome=false then (6,st,now)
  else if (cE st.leases l.job).isSome=true then (7,st,now)
  else if l.till<=now then (1,st,now)
  else if j.tries=100 then (2,st,now)
  else (aE (jY st j l),jY st j l,now)
def doR (st:ah) (now:Int) (q:aL):Int × ah × Int:=
 if q.kind=1 then (aE (mL st q.job),mL st q.job,now)
 else if q.kind=2 then (aE (mM st q.node),mM st q.node,now)
 else if q.kind=3 then (if (cD st.jobs q.name).isSome=true then 0 else 6,nk st q.name,now)
 else if q.kind=4 then (if (bU st.nodes q.name).isSome=true then 0 else 6,nu st q.name,now)
 else if q.kind=5 then oG st now q.lease
 else if q.kind=6 then (if (cE st.leases q.name).isSome=true then 0 else 6,mN st q.name,now)
 else if q.kind=7 then (if 1099511627776 - now<q.n then (1,st,now) else (0,ny st (now+q.n),now+q.n))
 else (0,st,now)
def eL (q:aL):Int:=
 if q.kind=1 then fG q.job else if q.kind=2 then dE q.node
 else if q.kind=3\/q.kind=4\/q.kind=6 then (if cP q.name then 0 else 4)
 else if q.kind=5 then lsE q.lease
 else if q.kind=7 then (if ranged q.n 0 1099511627776 then 0 else 1) else 0
def bK:aC:=⟨⟨#[]⟩,0,0,0,⟨#[]⟩⟩
def aV:av:=⟨⟨#[]⟩,0,⟨#[]⟩⟩
def aN:ak:=⟨⟨#[]⟩,⟨#[]⟩,0⟩
def qI (q:aL):aL:=
 ⟨q.kind,if q.kind=1 then q.job else bK,if q.kind=2 then q.node else aV,if q.kind=5 then q.lease else aN,if q.kind=3\/q.kind=4\/q.kind=6 then q.name else ⟨#[]⟩,if q.kind=7 then q.n else 0⟩
open Classical in
noncomputable def cN (q:aL):Int:=if ranged q.kind 1 9=false then 1 else if qI q≠q then 4 else eL q
theorem kC {α:Type} {E:α->Int} {key:α->ByteArray} {l:List α} (h:cu E key l=0):cF key l:=(pI none l h).2
def Ar (st:ah) (w:World) (e:Ending) (w':World):Prop:=e = .returned (.int .i64 (aE st))/\Below w w w'
theorem Ar.mk' {st:ah} {w w':World} {E:Int} (h:aE st=E) (a:Below w w w'):Ar st w (.returned (.int .i64 E)) w':=⟨by rw [h],a⟩
def OE (st:ah) (x:StA) (w:World) (n:Nat) (R:Int) (i:Value) (wr:World):Prop:=
 ∃ k:Nat,k<=n/\i = .int .i64 k/\eF (dN st) ak.job (prevK ak.job st.leases k) (st.leases.drop k)=R/\Below w w wr/\Blk wr w 26 (stC st x)
def OF (st:ah) (x:StA) (w:World) (n:Nat) (i:Value) (wr:World):Prop:=
 ∃ k:Nat,k<=n/\i = .int .i64 k/\qB st (st.nodes.drop k)=lM st/\Below w w wr/\Blk wr w 26 (stC st x)
theorem DX {st:ah} {l:ak} (h:(cD st.jobs l.job).isSome=false\/(bU st.nodes l.node).isSome=false):dN st l=6:=by
 unfold dN;rcases h with h | h <;> simp [h]
theorem I4 {st:ah} {l:ak} (a:(cD st.jobs l.job).isSome=true) (b:(bU st.nodes l.node).isSome=true):dN st l=if ranged l.till 0 1099511627776 then 0 else 1:=by
 unfold dN; simp [a,b]
theorem lR (st:ah) (x:StA) (w:World) (hS:StAt w w st x) :
 ψ 11 #[.agg (stC st x)] w (Ar st w):=by
 have b:=ω hS;have aM:Below w w (χ w (stC st x) 26):=(θ).alloc lQ _;have aJ:Blk (χ w (stC st x) 26) w 26 (stC st x):=n5 w _;have h:=ω (fun (E:Int) (aZ:aE st=E) w'=>Ar.mk' (w:=w) (w':=w') aZ);have z:=ω aM;have au:=ω aJ;clear aM aJ hS;obtain⟨rev,jobs,nodes,leases⟩:=st;obtain⟨V,u,W,I,d,D,ap,o,cl⟩:=x;simp only [stC] at *;go_enter Tryz.func11,Tryz.ntmps11
 go_wp2_with fail
 refine Calls.mono (dG _ _ _ _) ?_;rintro ac w0 ⟨rfl,rfl⟩;cases P:ranged rev 0 1099511627776
 · have a:=ω (h.z 1 (zS P) _ z.z);go_wp2;go_ret;exact a
 have aT:=b.lj;have a8:=b.ln;have a7:=b.ll;have a3:=b.bj;have a4:=b.bn;have bb:=b.bl;simp only at aT a8 a7 a3 a4 bb;by_cases s1:u<=40;rotate_left
 · have a:=ω (h.z 2 (nQ P (by unfold dW; rw [decide_eq_false (by simp only; omega)]; rfl)) _ z.z);have d1:decide ((40:Int)<(u:Int))=true:=t7 (by omega);go_wp2;go_ret;exact a
 have d1:decide ((40:Int)<(u:Int))=false:=fQ (by omega);by_cases s2:o<=40;rotate_left
 · have a:=ω (h.z 2 (nQ P (by unfold dW; simp only; rw [decide_eq_false (p:=leases.length<=40) (by omega)]; simp)) _ z.z);have d2:decide ((40:Int)<(o:Int))=true:=t7 (by omega);go_wp2;go_ret;exact a
 have d2:decide ((40:Int)<(o:Int))=false:=fQ (by omega);by_cases s3:d<=20;rotate_left
 · have a:=ω (h.z 2 (nQ P (by unfold dW; simp only; rw [decide_eq_false (p:=nodes.length<=20) (by omega)]; simp)) _ z.z);have d3:decide ((20:Int)<(d:Int))=true:=t7 (by omega);go_wp2;go_ret;exact a
 have d3:decide ((20:Int)<(d:Int))=false:=fQ (by omega);have aA:=ω (show dW ⟨rev,jobs,nodes,leases⟩=true by unfold dW; simp; omega);have aq:=ω ((b.below z.z).more z.size)
 go_wp2_with fail
 refine Calls.mono (lL.1 jobs V u W _ aq.j aq.lj a3 aq.oj) ?_;rintro ac w2 ⟨rfl,N⟩;have S:=ω (z.trans (N.mono z.size));have al:=ω (au.below N au.lt);have y2:ζ w2 w 2 (.slice I d D):=al.cell 2;clear d1 d2 d3 N au;obtain⟨EJ,ad⟩:∃ E,cu fG aC.name jobs=E:=⟨_,rfl⟩;rw [ad];by_cases s:EJ=0;rotate_left
 · have a:=ω (h.z EJ (by rw [CF P aA.z (by rw [ad]; exact s)]; exact ad) _ S.z);have e1:(EJ == 0)=false:=beq_eq_false_iff_ne.2 s;have e2:(EJ != 0)=true:=bne_iff_ne.2 s;go_wp2;go_ret;exact a
 subst s;have ax:=ω ad;clear ad;have ar:=ω ((b.below S.z).more S.size)
 go_wp2_with fail
 refine Calls.mono (lL.2 nodes I d D _ ar.n ar.ln a4 ar.on_) ?_;rintro ac w3 ⟨rfl,a2⟩;have ay:=ω (S.trans (a2.mono S.size));have aw:=ω (al.below a2 al.lt);clear y2 a2 al ar aq;obtain⟨EN,Y⟩:∃ E,cu dE av.name nodes=E:=⟨_,rfl⟩;rw [Y];by_cases s:EN=0;rotate_left
 · have a:=ω (h.z EN (by rw [zT P aA.z ax.z (by rw [Y]; exact s)]; exact Y) _ ay.z);have e1:(EN == 0)=false:=beq_eq_false_iff_ne.2 s;have e2:(EN != 0)=true:=bne_iff_ne.2 s;go_wp2;go_ret;exact a
 subst s;have bi:=ω Y;have sS:=ω (CG P aA.z ax.z Y);clear Y;obtain⟨R,hR⟩:∃ R,cu (dN ⟨rev,jobs,nodes,leases⟩) ak.job leases=R:=⟨_,rfl⟩;have H:=ω hR;have y3:ζ w3 w 3 (.slice ap o cl):=aw.cell 3;clear hR;go_wp2;clear y3
 go_loopw [2,5,6,43,52,59,64] (fun _ _ _ m _ _ _ wr=>OE ⟨rev,jobs,nodes,leases⟩ ⟨V,u,W,I,d,D,ap,o,cl⟩ w o R m wr) (fun _ _ _ m _ _ _ _=>o - (intOf m).toNat)
 case atStart=>exact⟨0,Nat.zero_le _,rfl,H,ay,aw⟩
 case round=>
  clear aw ay S;obtain⟨k,hk,rfl,aX,e,g⟩:=hrel;have F:=ω aX;have Hb:=ω e;have HB:=ω g;have OG:=e.size;clear aX;by_cases hlt:k<o
  · obtain⟨y,G⟩:∃ y,leases[k]? = some y:=⟨_,δ (by omega)⟩;obtain⟨J,ai,ae,ba,hc⟩:=(b.l.below e).dL aI a7 G;have bs:=ω (b.ol y (m8 G));have U:=ω G;simp only at ae;subst ae;obtain⟨job,node,v⟩:=y;obtain⟨c0,c1,c2⟩:=rc3 hc;have bd:J<wr.heap.size:=by omega
    have M:=(Below.refl wr wr).alloc lQ (.cells #[job,node,v] 77);have r:=ω (g.below M g.lt);have C:=ω (e.trans (M.mono OG));have aL:=ω ((b.below C.z).more C.size);have y1:ζ (χ wr #[job,node,v] 77) w 1 (.slice V u W):=r.cell 1;clear hc G M e g
    go_wp2_with fail
    refine Calls.mono (fJ.1 jobs job V u W _ aL.j aT a3) ?_;rintro ac w4 ⟨m,rfl,O,aN⟩;have l0:ζ w4 wr 0 (.string job):=by rw [(dP O).1 _ _ (by simp)]; simp [go_sem]
    have l1:ζ w4 wr 1 (.string node):=by rw [(dP O).1 _ _ (by simp)]; simp [go_sem]
    have l2:ζ w4 wr 2 (.int .i64 v):=by rw [(dP O).1 _ _ (by simp)]; simp [go_sem]
    have aS:wr.heap.size<w4.heap.size:=by have:=O.size; simp at this; omega
    have T:=ω (C.trans (O.mono C.size));have am:=ω (r.below O r.lt);have aK:=ω ((b.below T.z).more T.size);clear y1 O r C aL c0 c1 c2
    have a5:(m = -1/\(cD jobs job).isSome=false)\/(0<=m/\(cD jobs job).isSome=true):=by
     rcases aN with ⟨h1,h2⟩ | ⟨bg,j,h1,_,h3⟩
     · exact .inl ⟨h1,by rw [h2]; rfl⟩
     · exact .inr ⟨by omega,by rw [h3]; rfl⟩
    clear aN;rcases a5 with ⟨rfl,a6⟩ | ⟨bk,aQ⟩
    · have L:=DX (st:=⟨rev,jobs,nodes,leases⟩) (l:=⟨job,node,v⟩) (.inl a6);have i:=ω (lC (E:=dN ⟨rev,jobs,nodes,leases⟩) (key:=ak.job) U.z (by rw [L]; omega));have c:R=6:=by rw [<- F.z,i.z,L]
      have a:=ω (h.z 6 (by rw [sS.z,H.z,if_pos (by rw [c]; omega),c]) _ T.z);clear L;go_wp2;go_ret;exact a
    have d0:decide (m<0)=false:=fQ (by omega);have y2:ζ w4 w 2 (.slice I d D):=am.cell 2
    go_wp2_with fail
    refine Calls.mono (fJ.2 nodes node I d D _ aK.n a8 a4) ?_;rintro ac w5 ⟨i2,rfl,Z,aP⟩;replace l0:=((dP Z).1 _ _ aS).trans l0;replace l2:=((dP Z).1 _ _ aS).trans l2;have ao:=ω (T.trans (Z.mono T.size));have aB:=ω (am.below Z am.lt);have bq:wr.heap.size<w5.heap.size:=by have:=Z.size; omega
    have a5:(i2 = -1/\(bU nodes node).isSome=false)\/(0<=i2/\(bU nodes node).isSome=true):=by
     rcases aP with ⟨h1,h2⟩ | ⟨bg,j,h1,_,h3⟩
     · exact .inl ⟨h1,by rw [h2]; rfl⟩
     · exact .inr ⟨by omega,by rw [h3]; rfl⟩
    clear aP Z y2 l1 am T aK;rcases a5 with ⟨rfl,a6⟩ | ⟨bm,aU⟩
    · have L:=DX (st:=⟨rev,jobs,nodes,leases⟩) (l:=⟨job,node,v⟩) (.inr a6);have i:=ω (lC (E:=dN ⟨rev,jobs,nodes,leases⟩) (key:=ak.job) U.z (by rw [L]; omega));have c:R=6:=by rw [<- F.z,i.z,L]
      have a:=ω (h.z 6 (by rw [sS.z,H.z,if_pos (by rw [c]; omega),c]) _ ao.z);clear L;go_wp2;go_ret;exact a
    have d2:decide (i2<0)=false:=fQ (by omega);have hE:=ω (I4 (st:=⟨rev,jobs,nodes,leases⟩) (l:=⟨job,node,v⟩) aQ aU);clear aQ aU
    go_wp2_with fail
    refine Calls.mono (dG _ _ _ _) ?_;rintro ac w6 ⟨rfl,rfl⟩;cases aV:ranged v 0 1099511627776
    · have a1:dN ⟨rev,jobs,nodes,leases⟩ ⟨job,node,v⟩=1:=by rw [hE.z,aV]; rfl
      have i:=ω (lC (E:=dN ⟨rev,jobs,nodes,leases⟩) (key:=ak.job) U.z (by rw [a1]; omega));have c:R=1:=by rw [<- F.z,i.z,a1]
      have a:=ω (h.z 1 (by rw [sS.z,H.z,if_pos (by rw [c]; omega),c]) _ ao.z);clear a1;go_wp2;go_ret;exact a
    have a0:=ω (show dN ⟨rev,jobs,nodes,leases⟩ ⟨job,node,v⟩=0 by rw [hE.z,aV]; rfl);have y3:ζ w5 w 3 (.slice (some ⟨J,ai,none⟩) o cl):=aB.cell 3;have X:=ω ao.drew;have aF:=ω (show Blk w5.drew w 26 _ from aB.z);by_cases aR:k=0
    · subst aR;have i:=ω (gS (key:=ak.job) U.z a0.z (.inl rfl));go_wp2
      go_region
      go_wp2
      go_roundw
      case rel=>exact⟨1,by omega,by go_num,by rw [<- i.z]; exact F.z,X,aF⟩
      case measure=>simp [intOf]; omega
    · obtain⟨y,hy⟩:∃ y,leases[k - 1]? = some y:=⟨_,δ (by omega)⟩;obtain⟨b',bh,bc,xB,hp⟩:=(b.l.below ao.z).dL aI a7 hy;obtain⟨rfl,rfl⟩:J=b'/\ai=bh:=by simpa using bc
      have Hy:=ω hy;obtain⟨qm,DY,DZ⟩:=y;have q0:ζ w5 J (ai+(k - 1)*3) (.string qm):=hp 0 _ rfl;clear hp hy;have bp:decide ((0:Int)<(k:Int))=true:=t7 (by omega);have bo:0<k:=by omega
      obtain⟨B,g⟩:∃ B,Op.bytesLess qm.toList job.toList=B:=⟨_,rfl⟩;have HL:=ω g;cases B
      · have i:=ω (mW (key:=ak.job) U.z a0.z aR Hy.z HL.z);have c:R=8:=by rw [<- F.z,i.z]
        have a:=ω (h.z 8 (by rw [sS.z,H.z,if_pos (by rw [c]; omega),c]) _ X.z);go_wp2
        go_region
        go_wp2;go_ret;exact a
      · have i:=ω (gS (key:=ak.job) U.z a0.z (.inr ⟨_,Hy,HL⟩));go_wp2
        go_region
        go_wp2
        go_roundw
        case rel=>exact⟨k+1,by omega,by go_num,by rw [<- i.z]; exact F.z,X,aF⟩
        case measure=>simp [intOf]; omega
  · obtain rfl:k=o:=by omega
    have c:R=0:=by rw [<- F.z]; exact qC (by show leases.length<=k; omega) _
    have aG:=ω (show aE ⟨rev,jobs,nodes,leases⟩=if lM ⟨rev,jobs,nodes,leases⟩=true then 0 else 9 by rw [sS.z,H.z,if_neg (by simp [c])]);have y2:ζ wr w 2 (.slice I d D):=HB.cell 2;clear c e g F sS H;go_wp2;clear y2
    go_loopw [2,8,83,90] (fun _ _ m _ wr=>OF ⟨rev,jobs,nodes,leases⟩ ⟨V,u,W,I,d,D,ap,k,cl⟩ w d m wr) (fun _ _ m _ _=>d - (intOf m).toNat)
    case atStart=>exact⟨0,Nat.zero_le _,rfl,rfl,Hb,HB⟩
    case round=>
     clear Hb HB;obtain⟨aj,hq,rfl,aW,e,g⟩:=hrel;have uE:=ω aW;have Hb:=ω e;have OH:=e.size;clear aW;by_cases br:aj<d
     · obtain⟨y,G⟩:∃ y,nodes[aj]? = some y:=⟨_,δ (by omega)⟩;obtain⟨J,ai,ae,ba,hc⟩:=(b.n.below e).dL aO a8 G;have a9:=ω (uB (st:=⟨rev,jobs,nodes,leases⟩) G);simp only at ae;subst ae;obtain⟨ag,ab,aY⟩:=y;obtain⟨c0,c1,c2⟩:=rc3 hc;have bd:J<wr.heap.size:=by omega
       have M:=(Below.refl wr wr).alloc lQ (.cells #[ag,ab,aY] 81);have r:=g.below M g.lt;have aa:=e.trans (M.mono OH);obtain⟨q,af⟩:∃ q,wr.alloc (.cells #[ag,ab,aY] 81)=q:=⟨_,rfl⟩;have x0:ζ q wr 0 (.string ag):=by rw [<- af]; simp [go_sem]
       have x1:ζ q wr 1 (.int .i64 ab):=by rw [<- af]; simp [go_sem]
       rw [af] at r aa;have l0:=fun K Q=>cell_regrown x0 K Q;have l1:=fun K Q=>cell_regrown x1 K Q;obtain⟨b0,b1,b2,b3⟩:=Blk.r4 (r);have C:=ω aa;have aD:=ω r
       have hU:=ω (fun K Q=>IM ⟨rev,jobs,nodes,leases⟩ ⟨V,u,W,some ⟨J,ai,none⟩,d,D,ap,k,cl⟩ ag (Sort.grow (redrawn q K) Q)
        ((b.below (aa.trans ((below_regrown q K Q).mono aa.size))).more (v6 aa.size (below_regrown q K Q).size)) (As ax.z) s2)
       have aH:=ω af;clear hc G M r aa e g x0 x1 af
       go_wp2_with fail
       rw [aH.z];refine wp_region_quiet_below (by kernel_rfl) (by kernel_rfl) ?_
       repeat (go_big_quiet_step ((go_at_call 25; exact Calls.regrown_of (hU.z _ _))))
       refine wpQuiet_nil ?_;intro _ bf;obtain⟨⟨nq,osq⟩,hw''⟩:=bf;subst hw'';have N:=ω (C.trans ((below_regrown q nq osq).mono C.size));have X:=ω (aD.below (below_regrown q nq osq) aD.lt);clear l0 l1 b0 b1 b2 b3 hU aH;dsimp only;generalize Sort.grow (redrawn q nq) osq=w2 at N X |-;generalize rV ⟨rev,jobs,nodes,leases⟩ ag=az at a9 |-;by_cases hU:az<=ab
       · have d1:decide (ab<az)=false:=fQ (by omega);have be:=ω (show qB ⟨rev,jobs,nodes,leases⟩ (nodes.drop (aj+1))=lM ⟨rev,jobs,nodes,leases⟩ by rw [<- uE.z,a9.z,decide_eq_true hU]; rfl);go_wp2
         go_roundw
         case rel=>exact⟨aj+1,by omega,by go_num,be,N,X⟩
         case measure=>simp [intOf]; omega
       · have d1:decide (ab<az)=true:=t7 (by omega)
         have a:=ω (h.z 9 (by
          have:lM ⟨rev,jobs,nodes,leases⟩=false:=by rw [<- uE.z,a9.z,decide_eq_false hU]; rfl
          rw [aG.z,this]; rfl) _ N.z)
         go_wp2;go_ret;exact a
     · have a:=ω (h.z 0 (by
        have:lM ⟨rev,jobs,nodes,leases⟩=true:=by rw [<- uE.z,List.drop_of_length_le (by show nodes.length<=aj; omega)]; rfl
        rw [aG.z,if_pos this]) _ Hb.z)
       clear e g;go_wp2;go_ret;exact a
theorem pG (st:ah) (x:StA) (w:World) (i:StAt w w st x) (j:Tabs w) :
 ψ 33 #[.agg (stC st x)] w fun g o=>g = .returned (.int .i64 (aE st))/\Below w w o:=by
 have a:Below w w (χ w (stC st x) 26):=(θ).alloc lQ _;have h:=ω (I5 st x _ ((i.below a).more a.size) (j.below a));have e:=ω a;clear a i j;obtain⟨E,b⟩:∃ E,aE st=E:=⟨_,rfl⟩;rw [b];have c:=ω b;clear b;obtain⟨rev,jobs,nodes,leases⟩:=st;obtain⟨q,K,C,s,M,F,r,L,D⟩:=x;simp only [stC] at *;go_enter Tryz.func33,Tryz.ntmps33
 go_wp2_with fail
 refine h.mono ?_;rintro g N ⟨m,n⟩;have d:=ω (e.trans (m.mono e.size));clear m h;rw [c.z] at n;clear c;rcases n with ⟨b,rfl⟩ | ⟨rfl,T,u,z,B,H,I,J,G,rfl,-,-⟩
 · go_wp2;refine bodyPost_ret (v:=.int .i64 E) (by simp [results,Tryz.results33,go_sem]) rfl ⟨rfl,d⟩
 · go_wp2;refine bodyPost_ret (v:=.int .i64 0) (by simp [results,Tryz.results33,go_sem]) rfl ⟨rfl,d⟩
theorem MS (w:World):ψ 6 #[] w fun e a=>e = .returned (.agg #[.int .i64 (-1),.slice none 0 0,.slice none 0 0,.slice none 0 0])/\Below w w a:=by
 go_enter Tryz.func6,Tryz.ntmps6;go_wp2;refine bodyPost_ret (v:=.agg #[.int .i64 (-1),.slice none 0 0,.slice none 0 0,.slice none 0 0]) (by simp [results,Tryz.results6,go_sem]) rfl ⟨rfl,?_⟩;exact (θ).alloc lQ _
def Ie:ah:=⟨-1,[],[],[]⟩
def badA:StA:=⟨none,0,0,none,0,0,none,0,0⟩
theorem PQ (w:World) (B:Nat):StAt w B Ie badA:=
 ⟨bg.nil,bg.nil,bg.nil,rfl,rfl,rfl,by decide,by decide,by decide,(fun _ h=>by cases h),(fun _ h=>by cases h),(fun _ h=>by cases h)⟩
theorem I6:aE Ie=1:=zS rfl
noncomputable def newL {α:Type} (a b:List α):List α:=b.filter fun x=>!a.any (eqB x)
def bJ {α:Type} (key:α->ByteArray) (a b:List α):List ByteArray:=(a.filter fun x=>!b.any fun y=>decide (key y=key x)).map key
noncomputable def eE (a b:ah):aY:=⟨a.rev,b.rev,newL a.jobs b.jobs,newL a.nodes b.nodes,newL a.leases b.leases,bJ aC.name a.jobs b.jobs,bJ av.name a.nodes b.nodes,bJ ak.job a.leases b.leases⟩
section
variable {α:Type} {p:α->Bool} {l:List α} {k:Nat} {x:α}
theorem ni (h:l[k]? = some x) (a:p x=true):(l.take (k+1)).filter p=(l.take k).filter p ++ [x]:=by
 rw [List.take_add_one,h,List.filter_append]; simp [a]
theorem oU (h:l[k]? = some x) (a:p x=false):(l.take (k+1)).filter p=(l.take k).filter p:=by
 rw [List.take_add_one,h,List.filter_append]; simp [a]
theorem kB (p:α->Bool) (l:List α) (k:Nat):((l.take k).filter p).length<=k:=v6 (List.length_filter_le _ _) (by rw [List.length_take]; omega)
theorem filter_all (p:α->Bool) {l:List α} {k:Nat} (h:l.length<=k):(l.take k).filter p=l.filter p:=by rw [List.take_of_length_le h]
end
theorem Au {α:Type} (a b:List α):(newL a b).length<=b.length:=List.length_filter_le _ _
theorem xS {α:Type} (key:α->ByteArray) (a b:List α):(bJ key a b).length<=a.length:=by unfold bJ; rw [List.length_map]; exact List.length_filter_le _ _
theorem D2 (e:Int):iK [e]=e:=by unfold iK; split <;> simp_all [iK]
def PR (d:aY) (x:eG) (w:World) (n:Nat) (R:Int) (i:Value) (wr:World):Prop:=
 ∃ k:Nat,k<=n/\i = .int .i64 k/\eF lsE ak.job (prevK ak.job d.leases k) (d.leases.drop k)=R/\Below w w wr/\Blk wr w 95 (dC d x)
theorem DO (d:aY) (x:eG) (w:World) (hD:dB w w d x) :
 ψ 58 #[.agg (dC d x)] w (sN d w):=by
 have c:=ω hD;have h:=ω (show Below w w (χ w (dC d x) 95) from (θ).alloc lQ _);have aj:=ω (show Blk (χ w (dC d x) 95) w 95 (dC d x) from n5 w _);have e:=ω (fun (E:Int) (ah:gD d=E) w'=>sN.mk' (w:=w) (w':=w') ah);clear hD;obtain⟨i,q,jobs,nodes,leases,m,o,r⟩:=d;obtain⟨aw,U,cj,an,J,cn,ax,u,cl,aq,Q,ay,au,T,a0,ar,S,az⟩:=x;have aD:=c.lj;have aE:=c.ln;have ai:=c.ll;have KB:=c.lgj;have KC:=c.lgn;have KE:=c.lgl;have aA:=c.bj;have aB:=c.bn;have aT:=c.bl;have OI:=c.bgj;have OJ:=c.bgn;have OK:=c.bgl;simp only at aD aE ai KB KC KE aA aB aT OI OJ OK;simp only [dC] at *;go_enter Tryz.func58,Tryz.ntmps58
 go_wp2_with fail
 refine Calls.mono (dG _ _ _ _) ?_;rintro G w0 ⟨rfl,rfl⟩;cases P:ranged i 0 1099511627776
 · have a:=ω (e.z 1 (tT (by unfold lu; simp only; rw [P]; rfl)) _ h.z);go_wp2;go_ret;exact a
 have bp:=aM.1 P
 go_wp2_with fail
 refine Calls.mono (dG _ _ _ _) ?_;rintro G w0 ⟨rfl,rfl⟩;cases aF:ranged q 0 1099511627776
 · have a:=ω (e.z 1 (tT (by
    have:=fT.1 aF;unfold lu;simp only;rw [P];by_cases ah:i<q
    · rw [decide_eq_true ah,decide_eq_false (by omega)]; rfl
    · rw [decide_eq_false ah]; rfl)) _ h.z)
   go_wp2;go_ret;exact a
 have be:=aM.1 aF;by_cases aX:i<q;rotate_left
 · have a:=ω (e.z 1 (tT (by unfold lu; simp only; rw [P,decide_eq_false aX]; rfl)) _ h.z);have d1:decide (q<=i)=true:=t7 (by omega);go_wp2;go_ret;exact a
 have d1:decide (q<=i)=false:=fQ (by omega);have K:=ω (show lu ⟨i,q,jobs,nodes,leases,m,o,r⟩=true by unfold lu; simp only; rw [P,decide_eq_true aX,decide_eq_true be.2]; rfl);clear P aF;by_cases s1:U<=40;rotate_left
 · have a:=ω (e.z 2 (mO K.z (by unfold jR; simp; omega)) _ h.z);have q1:decide ((40:Int)<(U:Int))=true:=t7 (by omega);go_wp2;go_ret;exact a
 have q1:decide ((40:Int)<(U:Int))=false:=fQ (by omega);by_cases s2:u<=40;rotate_left
 · have a:=ω (e.z 2 (mO K.z (by unfold jR; simp; omega)) _ h.z);have q2:decide ((40:Int)<(u:Int))=true:=t7 (by omega);go_wp2;go_ret;exact a
 have q2:decide ((40:Int)<(u:Int))=false:=fQ (by omega);by_cases s3:Q<=40;rotate_left
 · have a:=ω (e.z 2 (mO K.z (by unfold jR; simp; omega)) _ h.z);have q3:decide ((40:Int)<(Q:Int))=true:=t7 (by omega);go_wp2;go_ret;exact a
 have q3:decide ((40:Int)<(Q:Int))=false:=fQ (by omega);by_cases s4:S<=40;rotate_left
 · have a:=ω (e.z 2 (mO K.z (by unfold jR; simp; omega)) _ h.z);have q4:decide ((40:Int)<(S:Int))=true:=t7 (by omega);go_wp2;go_ret;exact a
 have q4:decide ((40:Int)<(S:Int))=false:=fQ (by omega);by_cases s5:J<=20;rotate_left
 · have a:=ω (e.z 2 (mO K.z (by unfold jR; simp; omega)) _ h.z);have q5:decide ((20:Int)<(J:Int))=true:=t7 (by omega);go_wp2;go_ret;exact a
 have q5:decide ((20:Int)<(J:Int))=false:=fQ (by omega);by_cases s6:T<=20;rotate_left
 · have a:=ω (e.z 2 (mO K.z (by unfold jR; simp; omega)) _ h.z);have q6:decide ((20:Int)<(T:Int))=true:=t7 (by omega);go_wp2;go_ret;exact a
 have q6:decide ((20:Int)<(T:Int))=false:=fQ (by omega);have D3:=ω (CQ K.z (show jR ⟨i,q,jobs,nodes,leases,m,o,r⟩=true by unfold jR; simp; omega));have a4:=ω (c.up h.z)
 go_wp2_with fail
 refine Calls.mono (lL.1 jobs aw U cj _ a4.j aD aA a4.oj) ?_;rintro G w2 ⟨rfl,a7⟩;have aa:=ω (h.trans (a7.mono h.size));have ab:=ω (aj.below a7 aj.lt);clear d1 q1 q2 q3 q4 q5 q6 a7 aj a4;have y3:ζ w2 w 3 (.slice an J cn):=ab.cell 3;obtain⟨V,a2⟩:∃ E,cu fG aC.name jobs=E:=⟨_,rfl⟩;have ao:=ω (show gD ⟨i,q,jobs,nodes,leases,m,o,r⟩=iK (V :: cu dE av.name nodes :: cu lsE ak.job leases :: jI (fun s=>(cD jobs s).isSome) m :: jI (fun s=>(bU nodes s).isSome) o :: jI (fun s=>(cE leases s).isSome) r :: []) by rw [D3.z]; unfold Av; simp only; rw [a2]);rw [a2];clear a2 D3;by_cases b:V=0;rotate_left
 · have a:=ω (e.z V (by rw [ao.z,ji b]) _ aa.z);have e1:(V == 0)=false:=beq_eq_false_iff_ne.2 b;have e2:(V != 0)=true:=bne_iff_ne.2 b;go_wp2;go_ret;exact a
 subst b;have a5:=ω (c.up aa.z)
 go_wp2_with fail
 refine Calls.mono (lL.2 nodes an J cn _ a5.n aE aB a5.on_) ?_;rintro G w3 ⟨rfl,a8⟩;have am:=ω (aa.trans (a8.mono aa.size));have al:=ω (ab.below a8 ab.lt);clear y3 a8 ab a5;obtain⟨X,a3⟩:∃ E,cu dE av.name nodes=E:=⟨_,rfl⟩;have ap:=ω (show gD ⟨i,q,jobs,nodes,leases,m,o,r⟩=iK (X :: cu lsE ak.job leases :: jI (fun s=>(cD jobs s).isSome) m :: jI (fun s=>(bU nodes s).isSome) o :: jI (fun s=>(cE leases s).isSome) r :: []) by rw [ao.z,kD rfl,a3]);rw [a3];clear a3 ao;by_cases b:X=0;rotate_left
 · have a:=ω (e.z X (by rw [ap.z,ji b]) _ am.z);have e1:(X == 0)=false:=beq_eq_false_iff_ne.2 b;have e2:(X != 0)=true:=bne_iff_ne.2 b;go_wp2;go_ret;exact a
 subst b;obtain⟨R,hR⟩:∃ R,cu lsE ak.job leases=R:=⟨_,rfl⟩;have HR:=ω hR;have ad:=ω (show gD ⟨i,q,jobs,nodes,leases,m,o,r⟩=iK (R :: jI (fun s=>(cD jobs s).isSome) m :: jI (fun s=>(bU nodes s).isSome) o :: jI (fun s=>(cE leases s).isSome) r :: []) by rw [ap.z,kD rfl,hR]);have y4:ζ w3 w 4 (.slice ax u cl):=al.cell 4;clear hR ap;go_wp2;clear y4
 go_loopw [2,5,6,7,74,80] (fun _ _ _ _ aG _ wr=>PR ⟨i,q,jobs,nodes,leases,m,o,r⟩ ⟨aw,U,cj,an,J,cn,ax,u,cl,aq,Q,ay,au,T,a0,ar,S,az⟩ w u R aG wr) (fun _ _ _ _ aG _ _=>u - (intOf aG).toNat)
 case atStart=>exact⟨0,Nat.zero_le _,rfl,HR,am,al⟩
 case round=>
  clear al am aa;obtain⟨k,hk,rfl,ba,O,H⟩:=hrel;have N:=ω ba;have Hb:=ω O;have Y:=ω H;have OG:=O.size;clear ba;by_cases hlt:k<u
  · obtain⟨y,hf⟩:∃ y,leases[k]? = some y:=⟨_,δ (by omega)⟩;obtain⟨ag,aH,aR,bg,hc⟩:=(c.l.below O).dL aI ai hf;have bb:=ω (c.ol y (m8 hf));have Hf:=ω hf;simp only at aR;subst aR;obtain⟨E,hE⟩:∃ E,lsE y=E:=⟨_,rfl⟩;have M:=ω hE;obtain⟨job,node,bc⟩:=y;obtain⟨c0,c1,c2⟩:=rc3 hc;have bm:ag<wr.heap.size:=by omega
    have a6:=(Below.refl wr wr).alloc lQ (.cells #[job,node,bc] 77);have aJ:=ω (H.below a6 H.lt);have aL:=ω (O.trans (a6.mono OG));clear hc hf a6 O H hE
    go_wp2_with fail
    refine Calls.mono (sV ⟨job,node,bc⟩ _ bb.z.1 bb.z.2) ?_;rintro G v ⟨rfl,z⟩;have l0:ζ v wr 0 (.string job):=by rw [(dP z).1 _ _ (by simp)]; simp [go_sem]
    have C:=ω (aL.trans (z.mono aL.size));have L:=ω (aJ.below z aJ.lt);have bk:wr.heap.size<v.heap.size:=by have:=z.size; simp at this; omega
    rw [M.z];clear z c0 c1 c2;by_cases b:E=0;rotate_left
    · have I:=ω (lC (E:=lsE) (key:=ak.job) Hf.z (by rw [M.z]; exact b));have D:=ω (show R=E by rw [<- N.z,I.z,M.z]);have a:=ω (e.z E (by rw [ad.z,ji (by rw [D.z]; exact b),D.z]) _ C.z);have e1:(E == 0)=false:=beq_eq_false_iff_ne.2 b;have e2:(E != 0)=true:=bne_iff_ne.2 b;go_wp2;go_ret;exact a
    subst b;have y4:ζ v w 4 (.slice (some ⟨ag,aH,none⟩) u cl):=L.cell 4;have a1:=ω C.drew;have aK:=ω (show Blk v.drew w 95 _ from L.z);by_cases aZ:k=0
    · subst aZ;have I:=ω (gS (key:=ak.job) Hf.z M.z (.inl rfl));go_wp2
      go_region
      go_wp2
      go_roundw
      case rel=>exact⟨1,by omega,by go_num,by rw [<- I.z]; exact N.z,a1,aK⟩
      case measure=>simp [intOf]; omega
    · obtain⟨y,hy⟩:∃ y,leases[k - 1]? = some y:=⟨_,δ (by omega)⟩;obtain⟨b',bf,bd,xB,hp⟩:=(c.l.below C.z).dL aI ai hy;obtain⟨rfl,rfl⟩:ag=b'/\aH=bf:=by simpa using bd
      have Hy:=ω hy;obtain⟨qm,DY,DZ⟩:=y;have q0:ζ v ag (aH+(k - 1)*3) (.string qm):=hp 0 _ rfl;clear hp hy;have bi:decide ((0:Int)<(k:Int))=true:=t7 (by omega);have bh:0<k:=by omega
      obtain⟨B,H⟩:∃ B,Op.bytesLess qm.toList job.toList=B:=⟨_,rfl⟩;have HL:=ω H;cases B
      · have I:=ω (mW (key:=ak.job) Hf.z M.z aZ Hy.z HL.z);have D:=ω (show R=8 by rw [<- N.z,I.z]);have a:=ω (e.z 8 (by rw [ad.z,ji (by rw [D.z]; omega),D.z]) _ a1.z);go_wp2
        go_region
        go_wp2;go_ret;exact a
      · have I:=ω (gS (key:=ak.job) Hf.z M.z (.inr ⟨_,Hy,HL⟩));go_wp2
        go_region
        go_wp2
        go_roundw
        case rel=>exact⟨k+1,by omega,by go_num,by rw [<- I.z]; exact N.z,a1,aK⟩
        case measure=>simp [intOf]; omega
  · obtain rfl:k=u:=by omega
    have D:R=0:=by rw [<- N.z]; exact qC (by show leases.length<=k; omega) _
    have ae:=ω (ad.trans (kD D));have bo:∀ (fn:Fn) (first aO:Array Value) (w:World),(Instr.makeFunc fn first aO).run Tryz.prog w = .ok (.func fn first aO) w:=fun _ _ _ _=>rfl;have y5:ζ wr w 5 (.slice aq Q ay):=Y.cell 5;have g:=ω (c.up Hb.z);have aU:=ω (fun s W (F:Below wr wr W)=>I7 jobs s aw U cj w W (g.up F).j aD aA ((F.cell (p:=⟨w,2,none⟩) Y.lt).trans (Y.cell 2)));clear D O H N ad HR
    go_wp2_with fail
    refine Calls.mono (qo (fun s=>(cD jobs s).isSome) 119 (π w 0) m aq Q ay wr g.gj KB OI g.ogj (Go.Proofs.enters_of Tryz.func119 (by kernel_rfl) rfl) aU.z) ?_;rintro G w4 ⟨rfl,a9⟩;have ac:=ω (Hb.trans (a9.mono Hb.size));have Z:=ω (Y.below a9 Y.lt);clear a9 y5 g aU;obtain⟨E3,aP⟩:∃ E,jI (fun s=>(cD jobs s).isSome) m=E:=⟨_,rfl⟩;rw [aP] at ae |-;clear aP;by_cases b:E3=0;rotate_left
    · have a:=ω (e.z E3 (by rw [ae.z,ji b]) _ ac.z);have e1:(E3 == 0)=false:=beq_eq_false_iff_ne.2 b;have e2:(E3 != 0)=true:=bne_iff_ne.2 b;go_wp2;go_ret;exact a
    subst b;have af:=ω (ae.trans (kD rfl));have y6:ζ w4 w 6 (.slice au T a0):=Z.cell 6;have g:=ω (c.up ac.z);have aW:=ω (fun s W (F:Below w4 w4 W)=>FP nodes s an J cn w W (g.up F).n aE aB ((F.cell (p:=⟨w,3,none⟩) Z.lt).trans (Z.cell 3)));clear ae
    go_wp2_with fail
    refine Calls.mono (qo (fun s=>(bU nodes s).isSome) 120 (π w 0) o au T a0 w4 g.gn KC OJ g.ogn (Go.Proofs.enters_of Tryz.func120 (by kernel_rfl) rfl) aW.z) ?_;rintro G v ⟨rfl,z⟩;have C:=ω (ac.trans (z.mono ac.size));have L:=ω (Z.below z Z.lt);clear z y6 g aW;obtain⟨E4,aQ⟩:∃ E,jI (fun s=>(bU nodes s).isSome) o=E:=⟨_,rfl⟩;rw [aQ] at af |-;clear aQ;by_cases b:E4=0;rotate_left
    · have a:=ω (e.z E4 (by rw [af.z,ji b]) _ C.z);have e1:(E4 == 0)=false:=beq_eq_false_iff_ne.2 b;have e2:(E4 != 0)=true:=bne_iff_ne.2 b;go_wp2;go_ret;exact a
    subst b;have aN:=ω ((af.trans (kD rfl)).trans (D2 _));have y7:ζ v w 7 (.slice ar S az):=L.cell 7;have g:=ω (c.up C.z);have aV:=ω (fun s W (F:Below v v W)=>D4 leases s ax k cl w W (g.up F).l ai aT ((F.cell (p:=⟨w,4,none⟩) L.lt).trans (L.cell 4)));clear af
    go_wp2_with fail
    refine Calls.mono (qo (fun s=>(cE leases s).isSome) 121 (π w 0) r ar S az v g.gl KE OK g.ogl (Go.Proofs.enters_of Tryz.func121 (by kernel_rfl) rfl) aV.z) ?_;rintro G w6 ⟨rfl,aS⟩;have a:=ω (e.z _ aN.z _ (C.trans (aS.mono C.size)));clear aS y7 g aV aN;go_wp2;go_ret;exact a
def PS:aY:=⟨0,0,[],[],[],[],[],[]⟩
def OL:eG:=⟨none,0,0,none,0,0,none,0,0,none,0,0,none,0,0,none,0,0⟩
theorem CR (w:World) (B:Nat):dB w B PS OL:=
 { j:=bg.nil,n:=bg.nil,l:=bg.nil,gj:=bg.nil,gn:=bg.nil,gl:=bg.nil,lj:=rfl,ln:=rfl,ll:=rfl,lgj:=rfl,lgn:=rfl,lgl:=rfl,
   bj:=by decide,bn:=by decide,bl:=by decide,bgj:=by decide,bgn:=by decide,bgl:=by decide,
   oj:=(fun _ h=>by cases h),on_:=(fun _ h=>by cases h),ol:=(fun _ h=>by cases h),ogj:=(fun _ h=>by cases h),ogn:=(fun _ h=>by cases h),ogl:=(fun _ h=>by cases h) }
theorem FQ (xs b:List ak) (A N:Option Addr) (n m c U:Nat) (w:World) (D:bg w w 3 A n (au aB xs)) (E:bg w w 3 N m (au aB b)) (J:xs.length=n) (K:b.length=m) (hn:n<=9223372036854775807) (hm:m<=9223372036854775807) :
 ψ 154 #[.slice A n c,.slice N m U] w (xO xs b w):=by
 by_cases h:n=m
 · subst h;have X:((n:Int) != n)=false:=by simp
   have F:=ω J;have G:=ω K;clear J K;go_enter Tryz.func154,Tryz.ntmps154;go_wp2
   go_loopw [13] (fun I wr=>Id xs b n w I wr) (fun I _=>n - (intOf I).toNat)
   case atStart=>exact⟨0,Nat.zero_le _,rfl,rfl,θ⟩
   case round=>
    obtain⟨k,hk,rfl,Q,a⟩:=hrel;have P:=ω Q;clear Q;by_cases hlt:k<n
    · obtain⟨x,r⟩:∃ x,xs[k]? = some x:=⟨_,δ (by rw [F.z]; exact hlt)⟩;obtain⟨y,s⟩:∃ y,b[k]? = some y:=⟨_,δ (by rw [G.z]; exact hlt)⟩;obtain⟨u,L,rfl,ac,z⟩:=(D.below a).dL aI F.z r;obtain⟨v,M,rfl,xB,B⟩:=(E.below a).dL aI G.z s;obtain⟨q,i,j⟩:=x;obtain⟨o,d,e⟩:=y;have c0:ζ wr u (L+k*3) (.string q):=z 0 _ rfl;have d0:ζ wr v (M+k*3) (.string o):=B 0 _ rfl;have c1:ζ wr u (L+k*3+1) (.string i):=z 1 _ rfl;have d1:ζ wr v (M+k*3+1) (.string d):=B 1 _ rfl;have c2:ζ wr u (L+k*3+2) (.int .i64 j):=z 2 _ rfl;have d2:ζ wr v (M+k*3+2) (.int .i64 e):=B 2 _ rfl;have af:=a.size;have ad:u<wr.heap.size:=by omega
      have ae:v<wr.heap.size:=by omega
      have T:=ω a;have aa:=ω r;have ab:=ω s;have g:=ω T.drew;have step:=ω (fun (h:(⟨q,i,j⟩:ak)=⟨o,d,e⟩)=>iC (r.trans (congrArg some h)) s P.z);have R:=ω (fun (h:(⟨q,i,j⟩:ak)≠⟨o,d,e⟩)=>nC r s h);clear z B D E r s a;obtain⟨t,H,C,-⟩:=uY q o i d j e;have O:=ω H;cases t
      · have S:=ω (R.z (fun h=>absurd (O.z.2 h) (by decide)));have Y:∀ W,(binOp .neq 77 (.agg #[q,i,j]) (.agg #[o,d,e])).run Tryz.prog W = .ok (.bool true) W:=C;clear H C step;go_wp2
        go_region
        go_wp2;go_ret;exact⟨false,rfl,⟨fun h=>(by cases h),fun h=>absurd h S.z⟩,g⟩
      · have Z:=ω (step.z (O.z.1 rfl));have Y:∀ W,(binOp .neq 77 (.agg #[q,i,j]) (.agg #[o,d,e])).run Tryz.prog W = .ok (.bool false) W:=C;clear H C R;go_wp2
        go_region
        go_wp2
        go_roundw
        case rel=>exact⟨k+1,by omega,by go_num,Z,g⟩
        case measure=>simp [intOf]; omega
    · have g:=ω a
      have same:=ω (show xs=b by
       have V:=P.z;rwa [List.take_of_length_le (by rw [F.z]; omega),List.take_of_length_le (by rw [G.z]; omega)] at V)
      clear a D E;go_wp2;go_ret;exact⟨true,rfl,⟨fun _=>same.z,fun _=>rfl⟩,g⟩
 · have X:((n:Int) != m)=true:=by simp; omega
   have g:=ω (show xs≠b by rintro rfl; omega);clear J K D E;go_enter Tryz.func154,Tryz.ntmps154;go_wp2;go_ret;exact⟨false,rfl,⟨fun h=>(by cases h),fun h=>absurd h g.z⟩,θ⟩
def zx (f:cL):List Value:=[.int .i64 f.ver,.int .i64 f.kind,.string f.pay]
theorem qJ (f:cL):(zx f).length=3:=rfl
def ascii (s:String):List UInt8:=s.toUTF8.data.toList
def okJ (v:Int) (j:aC):Bool:=(decide (2<v) || decide (j.tag.size=0)) && (decide (1<v) || decide (j.tries=0))
def okN (v:Int) (n:av):Bool:=decide (1<v) || decide (n.zone.size=0)
def pY (st:ah) (v:Int):Bool:=(decide (v=3) || decide (st.rev=0)) && st.jobs.all (okJ v) && st.nodes.all (okN v)
def Aw (st:ah) (v:Int):Bool × Int:=if aE st≠0 then (false,aE st) else if ranged v 1 3=false then (false,1) else (pY st v,0)
def CT (st:ah) (v:Int) (w:World) (e:Ending) (w':World):Prop:=e = .returned (.tuple #[.bool (Aw st v).1,.int .i64 (Aw st v).2])/\Below w w w'
theorem CT.mk' {st:ah} {v:Int} {w w':World} {a:Bool} {b:Int} (h:Aw st v=(a,b)) (c:Below w w w'):CT st v w (.returned (.tuple #[.bool a,b])) w':=⟨by rw [h],c⟩
theorem wu {α:Type} {p:α->Bool} {l:List α} {k:Nat} {x:α} (h:l[k]? = some x):(l.take (k+1)).all p=((l.take k).all p && p x):=by
 rw [BU h,List.all_append]; simp
def PT (st:ah) (x:StA) (v:Int) (a:Bool) (w:World) (n:Nat) (f i:Value) (wr:World):Prop:=
 ∃ k:Nat,k<=n/\i = .int .i64 k/\f = .bool (a && (st.jobs.take k).all (okJ v))/\Below w w wr/\Blk wr w 26 (stC st x)
def PU (st:ah) (x:StA) (v:Int) (a:Bool) (w:World) (n:Nat) (f i:Value) (wr:World):Prop:=
 ∃ k:Nat,k<=n/\i = .int .i64 k/\f = .bool (a && (st.nodes.take k).all (okN v))/\Below w w wr/\Blk wr w 26 (stC st x)
theorem FK {v:Int} {j:aC} {a b p q:Bool} (g:decide (j.tag.size=0)=a) (e:decide (j.tries=0)=b) (c:decide (1<v)=p) (d:decide (2<v)=q):okJ v j=((q || a) && (p || b)):=by unfold okJ; rw [g,e,c,d]
theorem FM {v:Int} {n:av} {a p:Bool} (c:decide (n.zone.size=0)=a) (b:decide (1<v)=p):okN v n=(p || a):=by unfold okN; rw [c,b]
theorem DU {v:Int} (h:ranged v 1 3=true):v=1\/v=2\/v=3:=by have:=aM.1 h; omega
theorem KF (st:ah) (x:StA) (v:Int) (w:World) (hS:StAt w w st x) (hT:Tabs w) :
 ψ 203 #[.agg (stC st x),v] w (CT st v w):=by
 have K:=ω hS;have o:Below w w (χ w (stC st x) 26):=(θ).alloc lQ _;have af:Blk (χ w (stC st x) 26) w 26 (stC st x):=n5 w _;have hC:=ω (pG st x _ ((hS.below o).more o.size) (hT.below o));have ae:=ω o;have P:=ω af;have aa:=ω (fun au m (h:Aw st v=(au,m)) w'=>CT.mk' (w:=w) (w':=w') h);have ap:Aw st v=if aE st≠0 then (false,aE st) else if ranged v 1 3=false then (false,1) else (pY st v,0):=rfl;have Q:=ω ap;clear o af hS hT ap;obtain⟨rev,jobs,nodes,leases⟩:=st;obtain⟨aj,W,cj,an,N,cn,al,nl,cl⟩:=x;simp only [stC] at *;go_enter Tryz.func203,Tryz.ntmps203
 go_wp2_with fail
 refine hC.mono ?_;rintro av w1 ⟨rfl,a⟩;have b:=ω (ae.trans (a.mono ae.size));have i:=ω (P.below a P.lt);clear a hC P;obtain⟨E,hE⟩:∃ E,aE ⟨rev,jobs,nodes,leases⟩=E:=⟨_,rfl⟩;rw [hE] at Q |-;by_cases he:E=0;rotate_left
 · have U:=ω (aa.z false E (by rw [Q.z,if_pos he]) _ b.z);have e1:(E == 0)=false:=beq_eq_false_iff_ne.2 he;have e2:(E != 0)=true:=bne_iff_ne.2 he;go_wp2;go_ret2;exact U
 subst he
 go_wp2_with fail
 refine Calls.mono (kE _ _ _ _) ?_;rintro av w2 ⟨rfl,rfl⟩;cases hr:ranged v 1 3
 · have U:=ω (aa.z false 1 (by rw [Q.z,if_neg (by simp),if_pos hr]) _ b.z);go_wp2;go_ret2;exact U
 have CU:=ω (show Aw ⟨rev,jobs,nodes,leases⟩ v=(pY ⟨rev,jobs,nodes,leases⟩ v,0) by rw [Q.z,if_neg (by simp),if_neg (by rw [hr]; simp)]);have ai:=K.lj;have ak:=K.ln;have ay:=K.bj;have az:=K.bn;simp only at ai ak ay az;obtain⟨y0,y1⟩:=Blk.c2 (i.z);obtain⟨L,F⟩:∃ L,(decide (v=3) || decide (rev=0))=L:=⟨_,rfl⟩;have ar:=ω (show pY ⟨rev,jobs,nodes,leases⟩ v=(L && jobs.all (okJ v) && nodes.all (okN v)) by unfold pY; rw [<- F]);have ao:=DU hr;clear hr Q hE;have PV:=ω (fun f w' (h:f=pY ⟨rev,jobs,nodes,leases⟩ v)=>aa.z f 0 (by rw [CU.z,h]) w');clear aa CU
 have hd:(decide (1<v)=false/\decide (2<v)=false/\(v == 3)=false)\/(decide (1<v)=true/\decide (2<v)=false/\(v == 3)=false)\/(decide (1<v)=true/\decide (2<v)=true/\(v == 3)=true):=by
  rcases ao with rfl | rfl | rfl
  · exact .inl ⟨rfl,rfl,rfl⟩
  · exact .inr (.inl ⟨rfl,rfl,rfl⟩)
  · exact .inr (.inr ⟨rfl,rfl,rfl⟩)
 have ag:(v == 3)=decide (v=3):=by by_cases h:v=3 <;> simp [h]
 have am:(rev == 0)=decide (rev=0):=by by_cases h:rev=0 <;> simp [h]
 rw [<- ag,<- am] at F;clear ag am ao;obtain⟨z,hz⟩:∃ z,(rev == 0)=z:=⟨_,rfl⟩;rw [hz] at F;rcases hd with ⟨M,Z,d3⟩ | ⟨M,Z,d3⟩ | ⟨M,Z,d3⟩
 all_goals rw [d3] at F
 all_goals cases z
 all_goals simp only [Bool.or_true,Bool.or_false,Bool.true_or,Bool.false_or] at F
 all_goals have aq:=ω F
 all_goals clear F
 all_goals go_wp2
 all_goals clear y0 y1 hz d3
 all_goals (
  go_loopw [7,9,30] (fun f _ J wr=>PT ⟨rev,jobs,nodes,leases⟩ ⟨aj,W,cj,an,N,cn,al,nl,cl⟩ v L w W f J wr) (fun _ _ J _=>W - (intOf J).toNat)
  case atStart=>exact⟨0,Nat.zero_le _,rfl,by rw [<- aq.z]; simp,b,i⟩
  case round=>
   clear b i;obtain⟨k,hk,rfl,rfl,a,u⟩:=hrel;have b:=ω a;have i:=ω u;have a1:=a.size;by_cases hlt:k<W
   · obtain⟨y,H⟩:∃ y,jobs[k]? = some y:=⟨_,δ (by omega)⟩;obtain⟨m,a2,S,ax,T⟩:=(K.j.below a).dL aU ai H;have I:=ω (wu (p:=okJ v) H);simp only at S;subst S;obtain⟨q,ac,ab,c,X⟩:=y;obtain⟨c0,c1,c2,c3,c4⟩:=rc5 T;have a0:m<wr.heap.size:=by omega
     have G:=ω (b.alloc b.size (.cells #[q,ac,ab,c,X] 86));have D:=ω (i.alloc (.cells #[q,ac,ab,c,X] 86));clear T H a u;obtain⟨B,C⟩:∃ B,(L && (jobs.take k).all (okJ v))=B:=⟨_,rfl⟩;have s:=ω C;simp only [C];clear C;by_cases d:X.size=0
     · have r:=ω (fun (m:Bool) (h:decide (c=0)=m)=>FK (j:=⟨q,ac,ab,c,X⟩) (t7 d) h M Z);obtain rfl:=og d;by_cases e:c=0
       · have e2:(c == 0)=true:=beq_iff_eq.2 e;have g:=ω (r.z true (t7 e));subst e;clear r;cases B
         all_goals go_wp2
         all_goals go_roundw
         all_goals (first
          | exact⟨k+1,by omega,by go_num,by rw [I.z,<- Bool.and_assoc,s.z,g.z]; rfl,G,D⟩
          | (simp [intOf]; omega))
       · have e2:(c == 0)=false:=beq_eq_false_iff_ne.2 e;have g:=ω (r.z false (fQ e));cases B
         all_goals go_wp2
         all_goals go_roundw
         all_goals (first
          | exact⟨k+1,by omega,by go_num,by rw [I.z,<- Bool.and_assoc,s.z,g.z]; rfl,G,D⟩
          | (simp [intOf]; omega))
     · have r:=ω (fun (m:Bool) (h:decide (c=0)=m)=>FK (j:=⟨q,ac,ab,c,X⟩) (fQ d) h M Z);have e1:=oQ d;have aw:=nB d;by_cases e:c=0
       · have e2:(c == 0)=true:=beq_iff_eq.2 e;have g:=ω (r.z true (t7 e));subst e;clear r;cases B
         all_goals go_wp2
         all_goals go_roundw
         all_goals (first
          | exact⟨k+1,by omega,by go_num,by rw [I.z,<- Bool.and_assoc,s.z,g.z]; rfl,G,D⟩
          | (simp [intOf]; omega))
       · have e2:(c == 0)=false:=beq_eq_false_iff_ne.2 e;have g:=ω (r.z false (fQ e));cases B
         all_goals go_wp2
         all_goals go_roundw
         all_goals (first
          | exact⟨k+1,by omega,by go_num,by rw [I.z,<- Bool.and_assoc,s.z,g.z]; rfl,G,D⟩
          | (simp [intOf]; omega))
   · have V:jobs.take k=jobs:=List.take_of_length_le (by omega);obtain⟨R,o⟩:∃ R,(L && jobs.all (okJ v))=R:=⟨_,rfl⟩;have P:=ω o;have y2:ζ wr w 2 (.slice an N cn):=i.cell 2;simp only [V,o];clear o V a u;go_wp2;clear y2
     go_loopw [7,11,57] (fun f _ J wr=>PU ⟨rev,jobs,nodes,leases⟩ ⟨aj,W,cj,an,N,cn,al,nl,cl⟩ v R w N f J wr) (fun _ _ J _=>N - (intOf J).toNat)
     case atStart=>exact⟨0,Nat.zero_le _,rfl,by simp,b,i⟩
     case round=>
      clear b i;obtain⟨O,hq,rfl,rfl,a,u⟩:=hrel;have b:=ω a;have i:=ω u;have a1:=a.size;by_cases a3:O<N
      · obtain⟨y,H⟩:∃ y,nodes[O]? = some y:=⟨_,δ (by omega)⟩;obtain⟨m,a2,S,ax,T⟩:=(K.n.below a).dL aO ak H;have I:=ω (wu (p:=okN v) H);simp only at S;subst S;obtain⟨q,ad,Y⟩:=y;obtain⟨c0,c1,c2⟩:=rc3 T;have a0:m<wr.heap.size:=by omega
        have G:=ω (b.alloc b.size (.cells #[q,ad,Y] 81));have D:=ω (i.alloc (.cells #[q,ad,Y] 81));clear T H a u;obtain⟨B,C⟩:∃ B,(R && (nodes.take O).all (okN v))=B:=⟨_,rfl⟩;have s:=ω C;simp only [C];clear C;by_cases d:Y.size=0
        · have g:=ω (FM (n:=⟨q,ad,Y⟩) (t7 d) M);obtain rfl:=og d;cases B
          all_goals go_wp2
          all_goals go_roundw
          all_goals (first
           | exact⟨O+1,by omega,by go_num,by rw [I.z,<- Bool.and_assoc,s.z,g.z]; rfl,G,D⟩
           | (simp [intOf]; omega))
        · have g:=ω (FM (n:=⟨q,ad,Y⟩) (fQ d) M);have e1:=oQ d;have aw:=nB d;cases B
          all_goals go_wp2
          all_goals go_roundw
          all_goals (first
           | exact⟨O+1,by omega,by go_num,by rw [I.z,<- Bool.and_assoc,s.z,g.z]; rfl,G,D⟩
           | (simp [intOf]; omega))
      · have V:nodes.take O=nodes:=List.take_of_length_le (by omega);have U:=ω (PV.z (R && nodes.all (okN v)) wr (by rw [ar.z,P.z]) b.z);simp only [V];clear V a u;go_wp2;go_ret2;exact U)
section
variable {α:Type} {f:α->α} {l:List α} {k:Nat} {y:α}
end
theorem StOwn.kept {w w':World} {base:Nat} {st:ah} {x:StA} (h:StOwn w base st x) (a:Below w w w'):StOwn w' base st x:=
 ⟨aF h.j a,aF h.n a,aF h.l a,h.lj,h.ln,h.ll⟩
theorem FS {s:ByteArray} (h:s.size≠0):(s.toList != [])=true:=by unfold bne; rw [oQ h]; rfl
theorem CV {s:ByteArray} (h:s.size≠0):(s.toList != ByteArray.toList ⟨#[]⟩)=true:=by unfold bne; rw [nB h]; rfl
theorem PW (g:Nat) (σ:RR Unit) (w:World) (i:RxS w g σ) (o:σ.Good Ax) :
 ψ 74 #[π g 0] w fun m u=>m = .returned (.int .i64 (Ay σ:Int))/\w.grownBy u (some g):=by
 obtain⟨s,x,c,e⟩:∃ (s:ByteArray) (x:Nat),rF w g s x/\((x=0/\Ay σ=(if s.size=0 then 0 else 4))\/(x≠0/\Ay σ=x)):=by
  cases σ with
  | ok G s=>exact⟨s,0,i,.inl ⟨rfl,rfl⟩⟩
  | bad x=>obtain⟨s,_,c⟩:=i; exact⟨s,x,c,.inr ⟨o.1,rfl⟩⟩
 obtain⟨E,n⟩:∃ E,Ay σ=E:=⟨_,rfl⟩;rw [n] at e |-;have z:ζ w g 0 (.string s):=Blk.cell c 0;have B:ζ w g 1 (.int .i64 (x:Int)):=Blk.cell c 1;have q:=ω c;clear i n c o;by_cases b:s.size=0
 · obtain rfl:=og b
   have h:E=x:=by
    rcases e with ⟨d,a⟩ | ⟨d,a⟩
    · rw [if_pos b] at a; omega
    · exact a
   subst h;clear e b;go_enter Tryz.func74,Tryz.ntmps74;go_wp2;go_ret;exact⟨rfl,bP _ _⟩
 · have C:=FS b;have D:=CV b;have F:=Az b
   have h:(if x=0 then 4 else x)=E:=by
    rcases e with ⟨d,a⟩ | ⟨d,a⟩
    · rw [if_neg b] at a; rw [if_pos d]; exact a.symm
    · rw [if_neg d]; exact a.symm
   have r:=ω h;clear e b h;go_enter Tryz.func74,Tryz.ntmps74
   go_wp2_with fail
   refine Calls.mono (CW g s 4 x _ q.z) ?_;rintro m v ⟨rfl,j,t⟩;rw [r.z] at j;have H:ζ v g 1 (.int .i64 (E:Int)):=Blk.cell j 1;clear j z B;go_wp2;go_ret;exact⟨rfl,t⟩
end Go.Proofs.YtimglglgcgpjgabGreatDoor
