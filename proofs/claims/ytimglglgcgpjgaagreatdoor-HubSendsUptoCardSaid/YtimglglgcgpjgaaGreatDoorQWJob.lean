/- Of the proof of a statement: StChkR, StChkS, WJob, WPut. -/
import Derived.Lib.QuietBelow
import Derived.Test.YtimglglgcgpjgaaGreatDoorQWri
set_option linter.unusedVariables false
set_option linter.unusedSimpArgs false
set_option maxRecDepth 100000
set_option maxHeartbeats 8000000
namespace Go.Proofs.YtimglglgcgpjgaaGreatDoor
open Go.RowKit
def UInv (st:ah) (x:StA) (s:ByteArray) (w:World) (n:Nat) (a i:Value) (wr:World):Prop:=
 ∃ k:Nat,k<=n/\i = .int .i64 k/\a = .int .i64 (fX st s (st.leases.take k))/\Below w w wr/\Blk wr w 26 (stC st x)
theorem Dw {st:ah} {l:ak} {s:ByteArray} (h:l.node≠s):fV st l s=0:=by unfold fV; rw [if_neg h]
theorem Fk {st:ah} {l:ak} {s:ByteArray} (h:cC st.jobs l.job=none):fV st l s=0:=by unfold fV; rw [h]; split <;> rfl
theorem Fl {st:ah} {l:ak} {s:ByteArray} {j:aC} (a:l.node=s) (h:cC st.jobs l.job=some j):fV st l s=j.need:=by unfold fV; rw [if_pos a,h]
theorem JQ (st:ah) (x:StA) (s:ByteArray) (w:World) (M:StAt w w st x) (V:uh st) (aj:x.nl<=40) :
 ψ 20 #[.agg (stC st x),s] w fun K w'=>K = .returned (.int .i64 (rV st s))/\Below w w w':=by
 have a:=ω M;have N:Below w w (χ w (stC st x) 26):=(θ).alloc lJ _;have L:Blk (χ w (stC st x) 26) w 26 (stC st x):=n5 w _;have Z:=ω N;have X:=ω L;have W:=ω V;clear N L M V;obtain⟨rev,jobs,nodes,leases⟩:=st;obtain⟨m,v,n,an,nn,cn,al,z,cl⟩:=x;simp only [stC] at *;have I:=a.lj;have S:=a.ll;have O:=a.bj;simp only at I S O;go_enter Tryz.func20,Tryz.ntmps20;go_wp2
 go_loopw [5,7,8,12,20] (fun ai _ _ r _ wr=>UInv ⟨rev,jobs,nodes,leases⟩ ⟨m,v,n,an,nn,cn,al,z,cl⟩ s w z ai r wr) (fun _ _ _ r _ _=>z - (intOf r).toNat)
 case atStart=>exact⟨0,Nat.zero_le _,rfl,rfl,Z,X⟩
 case round=>
  obtain⟨k,hk,rfl,rfl,c,b⟩:=hrel;have Y:=ω c;have HB:=ω b;have ae:=c.size;by_cases hlt:k<z
  · obtain⟨y,H⟩:∃ y,leases[k]? = some y:=⟨_,gO (by omega)⟩;obtain⟨aa,ax,rfl,am,P⟩:=(a.l.below c).eC aI S H;have q:=ω (AR ⟨rev,jobs,nodes,leases⟩ s H);have E:=ω (tD W.z s (leases.take k));have ap:(leases.take k).length<=40:=by rw [List.length_take]; omega
    obtain⟨job,node,B⟩:=y;obtain⟨c0,c1,c2⟩:=rc3 P;have aq:aa<wr.heap.size:=by omega
    have G:=(Below.refl wr wr).alloc lJ (.cells #[job,node,B] 66);have D:=ω (b.below G b.lt);have y1:ζ (χ wr #[job,node,B] 66) w 1 (.slice m v n):=D.cell 1;have i:=ω (c.trans (G.mono ae));have ac:=ω ((a.j.below i.z).more i.size);have ak:=b.lt;clear P H G c b
    go_wp2_with fail
    refine Calls.mono (fJ.1 jobs job m v n _ ac.z I O) ?_;rintro K J ⟨r,rfl,o,Q⟩;have z0:ζ J wr 1 (.string node):=by rw [(dD o).1 _ _ (by simp)]; simp [go_sem]
    have F:=D.below o D.lt;have h:=ω (i.trans (o.mono i.size));have C:=ω F;have U:ζ J w 1 (.slice m v n):=F.cell 1;generalize hu:fX ⟨rev,jobs,nodes,leases⟩ s (leases.take k)=u at q E |-;have av:0<=u/\u<=40000000:=by have:=E.z; omega
    clear hu E o F y1;by_cases g:node=s;rotate_left
    · have e1:=sQ g;have d:=ω (show fX ⟨rev,jobs,nodes,leases⟩ s (leases.take (k+1))=u by rw [q.z,Dw g,Int.add_zero]);clear U Q;go_wp2
      go_roundw
      case rel=>exact⟨k+1,by omega,by go_num,by rw [d.z],h.z,C.z⟩
      case measure=>simp [intOf]; omega
    have e1:=qM node;rcases Q with ⟨rfl,e⟩ | ⟨T,j,rfl,p,e⟩
    · have d:=ω (show fX ⟨rev,jobs,nodes,leases⟩ s (leases.take (k+1))=u by rw [q.z,Fk (l:=⟨job,node,B⟩) e,Int.add_zero]);clear U e;subst g;go_wp2
      go_roundw
      case rel=>exact⟨k+1,by omega,by go_num,by rw [d.z],h.z,C.z⟩
      case measure=>simp [intOf]; omega
    · have ad:=W.z j (m8 p);have d:=ω (show fX ⟨rev,jobs,nodes,leases⟩ s (leases.take (k+1))=u+j.need by rw [q.z,Fl (l:=⟨job,node,B⟩) g e]);obtain⟨bj,oj,rfl,ao,R⟩:=(a.j.below h.z).eC aT I p;obtain⟨au,_⟩:=List.getElem?_eq_some_iff.1 p;obtain⟨aw,ay,ag,a0,az⟩:=j;have q2:ζ J bj (oj+T*5+2) (.int .i64 ag):=R 2 _ rfl;simp only at ad;clear e R p;subst g;have ar:decide ((0:Int)<=(T:Int))=true:=t8 (by omega);go_wp2
      go_roundw
      case rel=>exact⟨k+1,by omega,by go_num,by rw [d.z],h.z,C.z⟩
      case measure=>simp [intOf]; omega
  · have af:leases.take k=leases:=List.take_of_length_le (by omega);have ab:=ω (show fX ⟨rev,jobs,nodes,leases⟩ s (leases.take k)=rV ⟨rev,jobs,nodes,leases⟩ s by rw [af]; rfl);clear c b;go_wp2;go_ret;exact⟨aY ab.z,Y⟩
def Dx (st:ah) (w:World) (e:Ending) (w':World):Prop:=e = .returned (.int .i64 (aE st))/\Below w w w'
theorem Dx.mk' {st:ah} {w w':World} {E:Int} (h:aE st=E) (a:Below w w w'):Dx st w (.returned (.int .i64 E)) w':=⟨by rw [h],a⟩
def Pq (st:ah) (x:StA) (w:World) (n:Nat) (R:Int) (i:Value) (wr:World):Prop:=
 ∃ k:Nat,k<=n/\i = .int .i64 k/\eG (dN st) ak.job (prevK ak.job st.leases k) (st.leases.drop k)=R/\Below w w wr/\Blk wr w 26 (stC st x)
def Pr (st:ah) (x:StA) (w:World) (n:Nat) (i:Value) (wr:World):Prop:=
 ∃ k:Nat,k<=n/\i = .int .i64 k/\qL st (st.nodes.drop k)=lU st/\Below w w wr/\Blk wr w 26 (stC st x)
theorem Fm {st:ah} {l:ak} (h:(cC st.jobs l.job).isSome=false\/(bU st.nodes l.node).isSome=false):dN st l=6:=by
 unfold dN;rcases h with h | h <;> simp [h]
theorem JR {st:ah} {l:ak} (a:(cC st.jobs l.job).isSome=true) (b:(bU st.nodes l.node).isSome=true):dN st l=if ranged l.till 0 1099511627776 then 0 else 1:=by
 unfold dN; simp [a,b]
theorem lQ (st:ah) (x:StA) (w:World) (hS:StAt w w st x) :
 ψ 5 #[.agg (stC st x)] w (Dx st w):=by
 have b:=ω hS;have aM:Below w w (χ w (stC st x) 26):=(θ).alloc lJ _;have aJ:Blk (χ w (stC st x) 26) w 26 (stC st x):=n5 w _;have h:=ω (fun (E:Int) (aZ:aE st=E) w'=>Dx.mk' (w:=w) (w':=w') aZ);have z:=ω aM;have au:=ω aJ;clear aM aJ hS;obtain⟨rev,jobs,nodes,leases⟩:=st;obtain⟨V,u,W,I,d,D,ap,o,cl⟩:=x;simp only [stC] at *;go_enter Tryz.func5,Tryz.ntmps5
 go_wp2_with fail
 refine Calls.mono (dF _ _ _ _) ?_;rintro ac w0 ⟨rfl,rfl⟩;cases P:ranged rev 0 1099511627776
 · have a:=ω (h.z 1 (Aq P) _ z.z);go_wp2;go_ret;exact a
 have aT:=b.lj;have a8:=b.ln;have a7:=b.ll;have a3:=b.bj;have a4:=b.bn;have bb:=b.bl;simp only at aT a8 a7 a3 a4 bb;by_cases s1:u<=40;rotate_left
 · have a:=ω (h.z 2 (nY P (by unfold dR; rw [decide_eq_false (by simp only; omega)]; rfl)) _ z.z);have d1:decide ((40:Int)<(u:Int))=true:=t8 (by omega);go_wp2;go_ret;exact a
 have d1:decide ((40:Int)<(u:Int))=false:=fK (by omega);by_cases s2:o<=40;rotate_left
 · have a:=ω (h.z 2 (nY P (by unfold dR; simp only; rw [decide_eq_false (p:=leases.length<=40) (by omega)]; simp)) _ z.z);have d2:decide ((40:Int)<(o:Int))=true:=t8 (by omega);go_wp2;go_ret;exact a
 have d2:decide ((40:Int)<(o:Int))=false:=fK (by omega);by_cases s3:d<=20;rotate_left
 · have a:=ω (h.z 2 (nY P (by unfold dR; simp only; rw [decide_eq_false (p:=nodes.length<=20) (by omega)]; simp)) _ z.z);have d3:decide ((20:Int)<(d:Int))=true:=t8 (by omega);go_wp2;go_ret;exact a
 have d3:decide ((20:Int)<(d:Int))=false:=fK (by omega);have aA:=ω (show dR ⟨rev,jobs,nodes,leases⟩=true by unfold dR; simp; omega);have aq:=ω ((b.below z.z).more z.size)
 go_wp2_with fail
 refine Calls.mono (gA.2.2.1 jobs V u W _ aq.j aq.lj a3 aq.oj) ?_;rintro ac w2 ⟨rfl,N⟩;have S:=ω (z.trans (N.mono z.size));have al:=ω (au.below N au.lt);have y2:ζ w2 w 2 (.slice I d D):=al.cell 2;clear d1 d2 d3 N au;obtain⟨EJ,ad⟩:∃ E,cE fS aC.name jobs=E:=⟨_,rfl⟩;rw [ad];by_cases s:EJ=0;rotate_left
 · have a:=ω (h.z EJ (by rw [CU P aA.z (by rw [ad]; exact s)]; exact ad) _ S.z);have e1:(EJ == 0)=false:=beq_eq_false_iff_ne.2 s;have e2:(EJ != 0)=true:=bne_iff_ne.2 s;go_wp2;go_ret;exact a
 subst s;have ax:=ω ad;clear ad;have ar:=ω ((b.below S.z).more S.size)
 go_wp2_with fail
 refine Calls.mono (gA.2.2.2 nodes I d D _ ar.n ar.ln a4 ar.on_) ?_;rintro ac w3 ⟨rfl,a2⟩;have ay:=ω (S.trans (a2.mono S.size));have aw:=ω (al.below a2 al.lt);clear y2 a2 al ar aq;obtain⟨EN,Y⟩:∃ E,cE dP av.name nodes=E:=⟨_,rfl⟩;rw [Y];by_cases s:EN=0;rotate_left
 · have a:=ω (h.z EN (by rw [Ar P aA.z ax.z (by rw [Y]; exact s)]; exact Y) _ ay.z);have e1:(EN == 0)=false:=beq_eq_false_iff_ne.2 s;have e2:(EN != 0)=true:=bne_iff_ne.2 s;go_wp2;go_ret;exact a
 subst s;have bi:=ω Y;have tR:=ω (CV P aA.z ax.z Y);clear Y;obtain⟨R,hR⟩:∃ R,cE (dN ⟨rev,jobs,nodes,leases⟩) ak.job leases=R:=⟨_,rfl⟩;have H:=ω hR;have y3:ζ w3 w 3 (.slice ap o cl):=aw.cell 3;clear hR;go_wp2;clear y3
 go_loopw [2,5,6,43,52,59,64] (fun _ _ _ m _ _ _ wr=>Pq ⟨rev,jobs,nodes,leases⟩ ⟨V,u,W,I,d,D,ap,o,cl⟩ w o R m wr) (fun _ _ _ m _ _ _ _=>o - (intOf m).toNat)
 case atStart=>exact⟨0,Nat.zero_le _,rfl,H,ay,aw⟩
 case round=>
  clear aw ay S;obtain⟨k,hk,rfl,aX,e,g⟩:=hrel;have F:=ω aX;have Hb:=ω e;have HB:=ω g;have Ox:=e.size;clear aX;by_cases hlt:k<o
  · obtain⟨y,G⟩:∃ y,leases[k]? = some y:=⟨_,gO (by omega)⟩;obtain⟨J,ai,ae,ba,hc⟩:=(b.l.below e).eC aI a7 G;have bs:=ω (b.ol y (m8 G));have U:=ω G;simp only at ae;subst ae;obtain⟨job,node,v⟩:=y;obtain⟨c0,c1,c2⟩:=rc3 hc;have bd:J<wr.heap.size:=by omega
    have M:=(Below.refl wr wr).alloc lJ (.cells #[job,node,v] 66);have r:=ω (g.below M g.lt);have C:=ω (e.trans (M.mono Ox));have aL:=ω ((b.below C.z).more C.size);have y1:ζ (χ wr #[job,node,v] 66) w 1 (.slice V u W):=r.cell 1;clear hc G M e g
    go_wp2_with fail
    refine Calls.mono (fJ.1 jobs job V u W _ aL.j aT a3) ?_;rintro ac w4 ⟨m,rfl,O,aN⟩;have l0:ζ w4 wr 0 (.string job):=by rw [(dD O).1 _ _ (by simp)]; simp [go_sem]
    have l1:ζ w4 wr 1 (.string node):=by rw [(dD O).1 _ _ (by simp)]; simp [go_sem]
    have l2:ζ w4 wr 2 (.int .i64 v):=by rw [(dD O).1 _ _ (by simp)]; simp [go_sem]
    have aS:wr.heap.size<w4.heap.size:=by have:=O.size; simp at this; omega
    have T:=ω (C.trans (O.mono C.size));have am:=ω (r.below O r.lt);have aK:=ω ((b.below T.z).more T.size);clear y1 O r C aL c0 c1 c2
    have a5:(m = -1/\(cC jobs job).isSome=false)\/(0<=m/\(cC jobs job).isSome=true):=by
     rcases aN with ⟨h1,h2⟩ | ⟨bg,j,h1,_,h3⟩
     · exact .inl ⟨h1,by rw [h2]; rfl⟩
     · exact .inr ⟨by omega,by rw [h3]; rfl⟩
    clear aN;rcases a5 with ⟨rfl,a6⟩ | ⟨bk,aQ⟩
    · have L:=Fm (st:=⟨rev,jobs,nodes,leases⟩) (l:=⟨job,node,v⟩) (.inl a6);have i:=ω (nZ (E:=dN ⟨rev,jobs,nodes,leases⟩) (key:=ak.job) U.z (by rw [L]; omega));have c:R=6:=by rw [<- F.z,i.z,L]
      have a:=ω (h.z 6 (by rw [tR.z,H.z,if_pos (by rw [c]; omega),c]) _ T.z);clear L;go_wp2;go_ret;exact a
    have d0:decide (m<0)=false:=fK (by omega);have y2:ζ w4 w 2 (.slice I d D):=am.cell 2
    go_wp2_with fail
    refine Calls.mono (fJ.2 nodes node I d D _ aK.n a8 a4) ?_;rintro ac w5 ⟨i2,rfl,Z,aP⟩;replace l0:=((dD Z).1 _ _ aS).trans l0;replace l2:=((dD Z).1 _ _ aS).trans l2;have ao:=ω (T.trans (Z.mono T.size));have aB:=ω (am.below Z am.lt);have bq:wr.heap.size<w5.heap.size:=by have:=Z.size; omega
    have a5:(i2 = -1/\(bU nodes node).isSome=false)\/(0<=i2/\(bU nodes node).isSome=true):=by
     rcases aP with ⟨h1,h2⟩ | ⟨bg,j,h1,_,h3⟩
     · exact .inl ⟨h1,by rw [h2]; rfl⟩
     · exact .inr ⟨by omega,by rw [h3]; rfl⟩
    clear aP Z y2 l1 am T aK;rcases a5 with ⟨rfl,a6⟩ | ⟨bm,aU⟩
    · have L:=Fm (st:=⟨rev,jobs,nodes,leases⟩) (l:=⟨job,node,v⟩) (.inr a6);have i:=ω (nZ (E:=dN ⟨rev,jobs,nodes,leases⟩) (key:=ak.job) U.z (by rw [L]; omega));have c:R=6:=by rw [<- F.z,i.z,L]
      have a:=ω (h.z 6 (by rw [tR.z,H.z,if_pos (by rw [c]; omega),c]) _ ao.z);clear L;go_wp2;go_ret;exact a
    have d2:decide (i2<0)=false:=fK (by omega);have hE:=ω (JR (st:=⟨rev,jobs,nodes,leases⟩) (l:=⟨job,node,v⟩) aQ aU);clear aQ aU
    go_wp2_with fail
    refine Calls.mono (dF _ _ _ _) ?_;rintro ac w6 ⟨rfl,rfl⟩;cases aV:ranged v 0 1099511627776
    · have a1:dN ⟨rev,jobs,nodes,leases⟩ ⟨job,node,v⟩=1:=by rw [hE.z,aV]; rfl
      have i:=ω (nZ (E:=dN ⟨rev,jobs,nodes,leases⟩) (key:=ak.job) U.z (by rw [a1]; omega));have c:R=1:=by rw [<- F.z,i.z,a1]
      have a:=ω (h.z 1 (by rw [tR.z,H.z,if_pos (by rw [c]; omega),c]) _ ao.z);clear a1;go_wp2;go_ret;exact a
    have a0:=ω (show dN ⟨rev,jobs,nodes,leases⟩ ⟨job,node,v⟩=0 by rw [hE.z,aV]; rfl);have y3:ζ w5 w 3 (.slice (some ⟨J,ai,none⟩) o cl):=aB.cell 3;have X:=ω ao.drew;have aF:=ω (show Blk w5.drew w 26 _ from aB.z);by_cases aR:k=0
    · subst aR;have i:=ω (gC (key:=ak.job) U.z a0.z (.inl rfl));go_wp2
      go_region
      go_wp2
      go_roundw
      case rel=>exact⟨1,by omega,by go_num,by rw [<- i.z]; exact F.z,X.z,aF.z⟩
      case measure=>simp [intOf]; omega
    · obtain⟨y,hy⟩:∃ y,leases[k - 1]? = some y:=⟨_,gO (by omega)⟩;obtain⟨b',bh,bc,Az,hp⟩:=(b.l.below ao.z).eC aI a7 hy;obtain⟨rfl,rfl⟩:J=b'/\ai=bh:=by simpa using bc
      have Hy:=ω hy;obtain⟨qo,Ec,Ed⟩:=y;have q0:ζ w5 J (ai+(k - 1)*3) (.string qo):=hp 0 _ rfl;clear hp hy;have bp:decide ((0:Int)<(k:Int))=true:=t8 (by omega);have bo:0<k:=by omega
      obtain⟨B,g⟩:∃ B,Op.bytesLess qo.toList job.toList=B:=⟨_,rfl⟩;have HL:=ω g;cases B
      · have i:=ω (kJ (key:=ak.job) U.z a0.z aR Hy.z HL.z);have c:R=8:=by rw [<- F.z,i.z]
        have a:=ω (h.z 8 (by rw [tR.z,H.z,if_pos (by rw [c]; omega),c]) _ X.z);go_wp2
        go_region
        go_wp2;go_ret;exact a
      · have i:=ω (gC (key:=ak.job) U.z a0.z (.inr ⟨_,Hy,HL⟩));go_wp2
        go_region
        go_wp2
        go_roundw
        case rel=>exact⟨k+1,by omega,by go_num,by rw [<- i.z]; exact F.z,X.z,aF.z⟩
        case measure=>simp [intOf]; omega
  · obtain rfl:k=o:=by omega
    have c:R=0:=by rw [<- F.z]; exact sU (by show leases.length<=k; omega) _
    have aG:=ω (show aE ⟨rev,jobs,nodes,leases⟩=if lU ⟨rev,jobs,nodes,leases⟩=true then 0 else 9 by rw [tR.z,H.z,if_neg (by simp [c])]);have y2:ζ wr w 2 (.slice I d D):=HB.cell 2;clear c e g F tR H;go_wp2;clear y2
    go_loopw [2,8,83,90] (fun _ _ m _ wr=>Pr ⟨rev,jobs,nodes,leases⟩ ⟨V,u,W,I,d,D,ap,k,cl⟩ w d m wr) (fun _ _ m _ _=>d - (intOf m).toNat)
    case atStart=>exact⟨0,Nat.zero_le _,rfl,rfl,Hb,HB⟩
    case round=>
     clear Hb HB;obtain⟨aj,hq,rfl,aW,e,g⟩:=hrel;have uQ:=ω aW;have Hb:=ω e;have Ps:=e.size;clear aW;by_cases br:aj<d
     · obtain⟨y,G⟩:∃ y,nodes[aj]? = some y:=⟨_,gO (by omega)⟩;obtain⟨J,ai,ae,ba,hc⟩:=(b.n.below e).eC aO a8 G;have a9:=ω (uK (st:=⟨rev,jobs,nodes,leases⟩) G);simp only at ae;subst ae;obtain⟨ag,ab,aY⟩:=y;obtain⟨c0,c1,c2⟩:=rc3 hc;have bd:J<wr.heap.size:=by omega
       have M:=(Below.refl wr wr).alloc lJ (.cells #[ag,ab,aY] 70);have r:=g.below M g.lt;have aa:=e.trans (M.mono Ps);obtain⟨q,af⟩:∃ q,wr.alloc (.cells #[ag,ab,aY] 70)=q:=⟨_,rfl⟩;have x0:ζ q wr 0 (.string ag):=by rw [<- af]; simp [go_sem]
       have x1:ζ q wr 1 (.int .i64 ab):=by rw [<- af]; simp [go_sem]
       rw [af] at r aa;have l0:=fun K Q=>cell_regrown x0 K Q;have l1:=fun K Q=>cell_regrown x1 K Q;obtain⟨b0,b1,b2,b3⟩:=Blk.r4 (r);have C:=ω aa;have aD:=ω r
       have hU:=ω (fun K Q=>JQ ⟨rev,jobs,nodes,leases⟩ ⟨V,u,W,some ⟨J,ai,none⟩,d,D,ap,k,cl⟩ ag (Sort.grow (redrawn q K) Q)
        ((b.below (aa.trans ((below_regrown q K Q).mono aa.size))).more (v6 aa.size (below_regrown q K Q).size)) (AS ax.z) s2)
       have aH:=ω af;clear hc G M r aa e g x0 x1 af
       go_wp2_with fail
       rw [aH.z];refine wp_region_quiet_below (by kernel_rfl) (by kernel_rfl) ?_
       repeat (go_big_quiet_step ((go_at_call 20; exact Calls.regrown_of (hU.z _ _))))
       refine wpQuiet_nil ?_;intro _ bf;obtain⟨⟨nq,osq⟩,hw''⟩:=bf;subst hw'';have N:=ω (C.trans ((below_regrown q nq osq).mono C.size));have X:=ω (aD.below (below_regrown q nq osq) aD.lt);clear l0 l1 b0 b1 b2 b3 hU aH;dsimp only;generalize Sort.grow (redrawn q nq) osq=w2 at N X |-;generalize rV ⟨rev,jobs,nodes,leases⟩ ag=az at a9 |-;by_cases hU:az<=ab
       · have d1:decide (ab<az)=false:=fK (by omega);have be:=ω (show qL ⟨rev,jobs,nodes,leases⟩ (nodes.drop (aj+1))=lU ⟨rev,jobs,nodes,leases⟩ by rw [<- uQ.z,a9.z,decide_eq_true hU]; rfl);go_wp2
         go_roundw
         case rel=>exact⟨aj+1,by omega,by go_num,be.z,N.z,X.z⟩
         case measure=>simp [intOf]; omega
       · have d1:decide (ab<az)=true:=t8 (by omega)
         have a:=ω (h.z 9 (by
          have:lU ⟨rev,jobs,nodes,leases⟩=false:=by rw [<- uQ.z,a9.z,decide_eq_false hU]; rfl
          rw [aG.z,this]; rfl) _ N.z)
         go_wp2;go_ret;exact a
     · have a:=ω (h.z 0 (by
        have:lU ⟨rev,jobs,nodes,leases⟩=true:=by rw [<- uQ.z,List.drop_of_length_le (by show nodes.length<=aj; omega)]; rfl
        rw [aG.z,if_pos this]) _ Hb.z)
       clear e g;go_wp2;go_ret;exact a
def dW (s:ByteArray):List UInt8:=(vS s).1.data.toList
theorem dA (s:ByteArray):(dW s).length<=17:=by
 have a:(vS s).1.size<=17:=by
  unfold vS
  split
  · show (0:Nat)<=17; omega
  · split
    · rw [ByteArray.size_append]; show 1+s.size<=17; omega
    · show (0:Nat)<=17; omega
 unfold dW;rw [Array.length_toList];exact a
theorem bT (n:Nat):(bg n).length<=17:=by have:=dO n; omega
theorem Tabs.base {w w':World} {B:Nat} (h:Tabs w) (e:ren.g 3<B) (b:ren.g 4<B) (a:Below B w w'):Tabs w':=
 ⟨fun d f=>(a.cell e).trans (h.1 d f),fun i c=>⟨(a.cell b).trans (h.2 i c).1,(a.cell b).trans (h.2 i c).2⟩⟩
structure gB (w:World) (base g:Nat) (l:List UInt8):Prop where
 at_:tN w base g l
 tabs:Tabs w
 g3:ren.g 3<base
 g4:ren.g 4<base
 size:base<=w.heap.size
theorem gB.next {w w':World} {base g:Nat} {l b:List UInt8} (h:gB w base g l) (ha:tN w' base g b) (a:dE base g w w'):gB w' base g b:=
 ⟨ha,h.tabs.base h.g3 h.g4 (a.below ha.1 h.size),h.g3,h.g4,v6 h.size a.size⟩
theorem gB.below {w w':World} {base g:Nat} {l:List UInt8} (h:gB w base g l) (a:Below w w w'):gB w' base g l:=
 h.next (h.at_.below a) (dE.of_below a)
def iM (base g:Nat) (l:List UInt8) (w:World) (e:Ending) (w':World):Prop:=e = .returned (.tuple #[])/\gB w' base g l/\dE base g w w'
theorem qx (base g:Nat) (l:List UInt8) (s:ByteArray) (w:World) (d:s.size<=9223372036854775807) (h:gB w base g l) (c:l.length<=100000000) :
 ψ 172 #[π g 0,s] w (iM base g (l ++ dW s) w):=by
 refine Calls.mono (JS base g l s w d h.tabs h.at_ c h.size) ?_;rintro e i ⟨b,ha,a⟩;exact⟨b,h.next ha a,a⟩
theorem pX (base g:Nat) (l:List UInt8) (n:Int) (w:World) (b:0<=n/\n<=9223372036854775807) (h:gB w base g l) (d:l.length<=100000000) :
 ψ 159 #[π g 0,n] w (iM base g (l ++ bg n.toNat) w):=by
 refine Calls.mono (Bm base g l n w b.1 b.2 h.at_ d) ?_;rintro e i ⟨c,ha,a⟩;exact⟨c,h.next ha a,a⟩
theorem BD (base g:Nat) (l:List UInt8) (n:Int) (w:World) (b : -9223372036854775808<=n/\n<=9223372036854775807) (h:gB w base g l) (d:l.length<=100000000) :
 ψ 210 #[π g 0,n] w (iM base g (l ++ bg (mW n).toNat) w):=by
 refine Calls.mono (Fo base g l n w b.1 b.2 h.at_ d h.size) ?_;rintro e i ⟨c,ha,a⟩;exact⟨c,h.next ha a,a⟩
structure WGo (w0 w:World) (base g:Nat) (l:List UInt8) (n:Nat) (t:TypeId) (cs:Array Value) (N:Nat):Prop where
 ok:gB w base g l
 keep:dE base g w0 w
 blk:Blk w n t cs
 ht:t ≠ 5
 ne:n≠g
 len:l.length<=N
theorem WGo.next {w0 w w':World} {base g n N:Nat} {l k:List UInt8} {t:TypeId} {cs:Array Value} (h:WGo w0 w base g l n t cs N) (ha:gB w' base g (l ++ k)) (a:dE base g w w') (b:k.length<=17):WGo w0 w' base g (l ++ k) n t cs (N+17):=
 ⟨ha,h.keep.trans a,a.blk h.blk h.ht h.ne,h.ht,h.ne,by have:=h.len; rw [List.length_append]; omega⟩
theorem WGo.start {w:World} {base g:Nat} {l:List UInt8} (h:gB w base g l) (t:TypeId) (cs:Array Value) (b:t ≠ 5):WGo w (χ w cs t) base g l w t cs l.length:=
 have a:Below w w (χ w cs t):=(θ).alloc lJ _
 ⟨h.below a,dE.of_below a,by show (w.heap.push (.cells cs t))[w.heap.size]? = _; simp,b,Nat.ne_of_gt h.at_.lt,lJ⟩
def eK (j:aC) (v:Int):List UInt8:=dW j.name ++ bg (mW j.prio).toNat ++ bg j.need.toNat ++ (if 1<v then bg j.tries.toNat else []) ++ (if 2<v then dW j.tag else [])
def cX (n:av) (v:Int):List UInt8:=dW n.name ++ bg n.room.toNat ++ (if 1<v then dW n.zone else [])
def eH (l:ak):List UInt8:=dW l.job ++ dW l.node ++ bg l.till.toNat
structure uF (j:aC):Prop where
 name:j.name.size<=9223372036854775807
 prio : -9223372036854775808<=j.prio/\j.prio<=9223372036854775807
 need:0<=j.need/\j.need<=9223372036854775807
 tries:0<=j.tries/\j.tries<=9223372036854775807
 tag:j.tag.size<=9223372036854775807
structure p8 (n:av):Prop where
 name:n.name.size<=9223372036854775807
 room:0<=n.room/\n.room<=9223372036854775807
 zone:n.zone.size<=9223372036854775807
structure vB (l:ak):Prop where
 job:l.job.size<=9223372036854775807
 node:l.node.size<=9223372036854775807
 till:0<=l.till/\l.till<=9223372036854775807
theorem mH (j:aC) (v:Int):(eK j v).length<=85:=by
 have a:=dA j.name;have b:=bT (mW j.prio).toNat;have c:=bT j.need.toNat;have d:=bT j.tries.toNat;have e:=dA j.tag;unfold eK
 split <;> split <;> simp only [List.length_append,List.length_nil] <;> omega
theorem kU (n:av) (v:Int):(cX n v).length<=85:=by
 have a:=dA n.name;have b:=bT n.room.toNat;have c:=dA n.zone;unfold cX
 split <;> simp only [List.length_append,List.length_nil] <;> omega
theorem kC (l:ak):(eH l).length<=85:=by
 have a:=dA l.job;have b:=bT l.till.toNat;have c:=dA l.node;unfold eH;simp only [List.length_append] <;> omega
theorem Pt (base g:Nat) (l:List UInt8) (x:aC) (v:Int) (w:World) (j:¬ 1<v) (k:¬ 2<v) (q:uF x) (p:gB w base g l) (J:l.length<=90000000) :
 ψ 165 #[π g 0,.agg (aS x).toArray,v] w (iM base g (l ++ eK x v) w):=by
 have H:decide (1<v)=false:=fK j;have I:decide (2<v)=false:=fK k;have i:=ω q;obtain⟨h,d,b,C,B⟩:=x;have E:=ω (show l ++ eK ⟨h,d,b,C,B⟩ v=l ++ dW h ++ bg (mW d).toNat ++ bg (b).toNat from by simp [eK,j,k]);unfold aS;have e:=ω (WGo.start p 85 #[h,d,b,C,B] (by decide));clear p q j k;go_enter Tryz.func165,Tryz.ntmps165
 go_wp2_with fail
 refine Calls.mono (qx base g _ h _ i.name e.ok (by have:=e.len; omega)) ?_;rintro o D ⟨rfl,ok1,r⟩;have a:=ω (e.next ok1 r (dA _));have G:ζ D w 1 (.int .i64 d):=a.blk.cell 1;have m:ζ D w 2 (.int .i64 b):=a.blk.cell 2;clear ok1 r e
 go_wp2_with fail
 refine Calls.mono (BD base g _ d _ i.prio a.ok (by have:=a.len; omega)) ?_;rintro o F ⟨rfl,y,s⟩;have c:=ω (a.next y s (bT _));clear G m;have m:ζ F w 2 (.int .i64 b):=c.blk.cell 2;clear y s a
 go_wp2_with fail
 refine Calls.mono (pX base g _ b _ i.need c.ok (by have:=c.len; omega)) ?_;rintro o K ⟨rfl,z,u⟩;have n:=ω (c.next z u (bT _));clear m;clear z u c;go_wp2;go_end0;exact⟨rfl,by rw [E.z]; exact n.ok,n.keep⟩
theorem Pu (base g:Nat) (l:List UInt8) (x:aC) (v:Int) (w:World) (o:1<v) (p:¬ 2<v) (y:uF x) (u:gB w base g l) (O:l.length<=90000000) :
 ψ 165 #[π g 0,.agg (aS x).toArray,v] w (iM base g (l ++ eK x v) w):=by
 have M:decide (1<v)=true:=t8 o;have N:decide (2<v)=false:=fK p;have k:=ω y;obtain⟨m,h,d,b,H⟩:=x;have J:=ω (show l ++ eK ⟨m,h,d,b,H⟩ v=l ++ dW m ++ bg (mW h).toNat ++ bg (d).toNat ++ bg (b).toNat from by simp [eK,o,p]);unfold aS;have j:=ω (WGo.start u 85 #[m,h,d,b,H] (by decide));clear u y o p;go_enter Tryz.func165,Tryz.ntmps165
 go_wp2_with fail
 refine Calls.mono (qx base g _ m _ k.name j.ok (by have:=j.len; omega)) ?_;rintro n q ⟨rfl,ok1,z⟩;have a:=ω (j.next ok1 z (dA _));have L:ζ q w 1 (.int .i64 h):=a.blk.cell 1;have r:ζ q w 2 (.int .i64 d):=a.blk.cell 2;have i:ζ q w 3 (.int .i64 b):=a.blk.cell 3;clear ok1 z j
 go_wp2_with fail
 refine Calls.mono (BD base g _ h _ k.prio a.ok (by have:=a.len; omega)) ?_;rintro n I ⟨rfl,E,B⟩;have c:=ω (a.next E B (bT _));clear L r i;have r:ζ I w 2 (.int .i64 d):=c.blk.cell 2;have i:ζ I w 3 (.int .i64 b):=c.blk.cell 3;clear E B a
 go_wp2_with fail
 refine Calls.mono (pX base g _ d _ k.need c.ok (by have:=c.len; omega)) ?_;rintro n K ⟨rfl,F,C⟩;have e:=ω (c.next F C (bT _));clear r i;have i:ζ K w 3 (.int .i64 b):=e.blk.cell 3;clear F C c
 go_wp2_with fail
 refine Calls.mono (pX base g _ b _ k.tries e.ok (by have:=e.len; omega)) ?_;rintro n P ⟨rfl,G,D⟩;have s:=ω (e.next G D (bT _));clear i;clear G D e;go_wp2;go_end0;exact⟨rfl,by rw [J.z]; exact s.ok,s.keep⟩
theorem K8 (base g:Nat) (l:List UInt8) (x:aC) (v:Int) (w:World) (s:1<v) (u:2<v) (D:uF x) (C:gB w base g l) (T:l.length<=90000000) :
 ψ 165 #[π g 0,.agg (aS x).toArray,v] w (iM base g (l ++ eK x v) w):=by
 have R:decide (1<v)=true:=t8 s;have S:decide (2<v)=true:=t8 u;have k:=ω D;obtain⟨q,m,i,d,b⟩:=x;have O:=ω (show l ++ eK ⟨q,m,i,d,b⟩ v=l ++ dW q ++ bg (mW m).toNat ++ bg (i).toNat ++ bg (d).toNat ++ dW b from by simp [eK,s,u]);unfold aS;have o:=ω (WGo.start C 85 #[q,m,i,d,b] (by decide));clear C D s u;go_enter Tryz.func165,Tryz.ntmps165
 go_wp2_with fail
 refine Calls.mono (qx base g _ q _ k.name o.ok (by have:=o.len; omega)) ?_;rintro p r ⟨rfl,ok1,E⟩;have a:=ω (o.next ok1 E (dA _));have Q:ζ r w 1 (.int .i64 m):=a.blk.cell 1;have z:ζ r w 2 (.int .i64 i):=a.blk.cell 2;have n:ζ r w 3 (.int .i64 d):=a.blk.cell 3;have e:ζ r w 4 (.string b):=a.blk.cell 4;clear ok1 E o
 go_wp2_with fail
 refine Calls.mono (BD base g _ m _ k.prio a.ok (by have:=a.len; omega)) ?_;rintro p y ⟨rfl,J,F⟩;have c:=ω (a.next J F (bT _));clear Q z n e;have z:ζ y w 2 (.int .i64 i):=c.blk.cell 2;have n:ζ y w 3 (.int .i64 d):=c.blk.cell 3;have e:ζ y w 4 (.string b):=c.blk.cell 4;clear J F a
 go_wp2_with fail
 refine Calls.mono (pX base g _ i _ k.need c.ok (by have:=c.len; omega)) ?_;rintro p N ⟨rfl,K,G⟩;have h:=ω (c.next K G (bT _));clear z n e;have n:ζ N w 3 (.int .i64 d):=h.blk.cell 3;have e:ζ N w 4 (.string b):=h.blk.cell 4;clear K G c
 go_wp2_with fail
 refine Calls.mono (pX base g _ d _ k.tries h.ok (by have:=h.len; omega)) ?_;rintro p P ⟨rfl,L,H⟩;have j:=ω (h.next L H (bT _));clear n e;have e:ζ P w 4 (.string b):=j.blk.cell 4;clear L H h
 go_wp2_with fail
 refine Calls.mono (qx base g _ b _ k.tag j.ok (by have:=j.len; omega)) ?_;rintro p U ⟨rfl,M,I⟩;have B:=ω (j.next M I (dA _));clear e;clear M I j;go_wp2;go_end0;exact⟨rfl,by rw [O.z]; exact B.ok,B.keep⟩
theorem NP (base g:Nat) (l:List UInt8) (x:av) (v:Int) (w:World) (e:¬ 1<v) (k:p8 x) (j:gB w base g l) (z:l.length<=90000000) :
 ψ 168 #[π g 0,.agg (aH x).toArray,v] w (iM base g (l ++ cX x v) w):=by
 have y:decide (1<v)=false:=fK e;have i:=ω k;obtain⟨d,b,p⟩:=x;have q:=ω (show l ++ cX ⟨d,b,p⟩ v=l ++ dW d ++ bg (b).toNat from by simp [cX,e]);unfold aH;have c:=ω (WGo.start j 70 #[d,b,p] (by decide));clear j k e;go_enter Tryz.func168,Tryz.ntmps168
 go_wp2_with fail
 refine Calls.mono (qx base g _ d _ i.name c.ok (by have:=c.len; omega)) ?_;rintro r s ⟨rfl,ok1,m⟩;have a:=ω (c.next ok1 m (dA _));have u:ζ s w 1 (.int .i64 b):=a.blk.cell 1;clear ok1 m c
 go_wp2_with fail
 refine Calls.mono (pX base g _ b _ i.room a.ok (by have:=a.len; omega)) ?_;rintro r B ⟨rfl,o,n⟩;have h:=ω (a.next o n (bT _));clear u;clear o n a;go_wp2;go_end0;exact⟨rfl,by rw [q.z]; exact h.ok,h.keep⟩
theorem Ik (base g:Nat) (l:List UInt8) (x:av) (v:Int) (w:World) (j:1<v) (p:p8 x) (o:gB w base g l) (F:l.length<=90000000) :
 ψ 168 #[π g 0,.agg (aH x).toArray,v] w (iM base g (l ++ cX x v) w):=by
 have E:decide (1<v)=true:=t8 j;have i:=ω p;obtain⟨h,d,b⟩:=x;have B:=ω (show l ++ cX ⟨h,d,b⟩ v=l ++ dW h ++ bg (d).toNat ++ dW b from by simp [cX,j]);unfold aH;have e:=ω (WGo.start o 70 #[h,d,b] (by decide));clear o p j;go_enter Tryz.func168,Tryz.ntmps168
 go_wp2_with fail
 refine Calls.mono (qx base g _ h _ i.name e.ok (by have:=e.len; omega)) ?_;rintro n z ⟨rfl,ok1,q⟩;have a:=ω (e.next ok1 q (dA _));have D:ζ z w 1 (.int .i64 d):=a.blk.cell 1;have k:ζ z w 2 (.string b):=a.blk.cell 2;clear ok1 q e
 go_wp2_with fail
 refine Calls.mono (pX base g _ d _ i.room a.ok (by have:=a.len; omega)) ?_;rintro n C ⟨rfl,u,r⟩;have c:=ω (a.next u r (bT _));clear D k;have k:ζ C w 2 (.string b):=c.blk.cell 2;clear u r a
 go_wp2_with fail
 refine Calls.mono (qx base g _ b _ i.zone c.ok (by have:=c.len; omega)) ?_;rintro n G ⟨rfl,y,s⟩;have m:=ω (c.next y s (dA _));clear k;clear y s c;go_wp2;go_end0;exact⟨rfl,by rw [B.z]; exact m.ok,m.keep⟩
theorem GV (base g:Nat) (l:List UInt8) (x:ak) (w:World) (m:vB x) (k:gB w base g l) (z:l.length<=90000000) :
 ψ 170 #[π g 0,.agg (aB x).toArray] w (iM base g (l ++ eH x) w):=by
 have e:=ω m;obtain⟨job,node,b⟩:=x;have u:=ω (show l ++ eH ⟨job,node,b⟩=l ++ dW job ++ dW node ++ bg (b).toNat from by simp [eH]);unfold aB;have d:=ω (WGo.start k 66 #[job,node,b] (by decide));clear k m;go_enter Tryz.func170,Tryz.ntmps170
 go_wp2_with fail
 refine Calls.mono (qx base g _ job _ e.job d.ok (by have:=d.len; omega)) ?_;rintro j s ⟨rfl,ok1,n⟩;have a:=ω (d.next ok1 n (dA _));have y:ζ s w 1 (.string node):=a.blk.cell 1;have h:ζ s w 2 (.int .i64 b):=a.blk.cell 2;clear ok1 n d
 go_wp2_with fail
 refine Calls.mono (qx base g _ node _ e.node a.ok (by have:=a.len; omega)) ?_;rintro j v ⟨rfl,q,o⟩;have c:=ω (a.next q o (dA _));clear y h;have h:ζ v w 2 (.int .i64 b):=c.blk.cell 2;clear q o a
 go_wp2_with fail
 refine Calls.mono (pX base g _ b _ e.till c.ok (by have:=c.len; omega)) ?_;rintro j B ⟨rfl,r,p⟩;have i:=ω (c.next r p (bT _));clear h;clear r p c;go_wp2;go_end0;exact⟨rfl,by rw [u.z]; exact i.ok,i.keep⟩
theorem Ms (base g:Nat) (l:List UInt8) (x:aC) (v:Int) (w:World) (c:uF x) (h:gB w base g l) (b:l.length<=90000000) :
 ψ 165 #[π g 0,.agg (aS x).toArray,v] w (iM base g (l ++ eK x v) w):=by
 by_cases a:1<v
 · by_cases d:2<v
   · exact K8 base g l x v w a d c h b
   · exact Pu base g l x v w a d c h b
 · exact Pt base g l x v w a (by omega) c h b
theorem JT (base g:Nat) (l:List UInt8) (x:av) (v:Int) (w:World) (c:p8 x) (h:gB w base g l) (b:l.length<=90000000) :
 ψ 168 #[π g 0,.agg (aH x).toArray,v] w (iM base g (l ++ cX x v) w):=by
 by_cases a:1<v
 · exact Ik base g l x v w a c h b
 · exact NP base g l x v w a c h b
theorem gB.keep {w w':World} {base g:Nat} {l:List UInt8} (h:gB w base g l) (a:dE base g w w'):Below base w w':=a.below h.at_.1 h.size
def fZ {α:Type} (enc:α->List UInt8) (xs:List α):List UInt8:=bg xs.length ++ xs.flatMap enc
theorem iW {α:Type} {enc:α->List UInt8} (h:∀ x,(enc x).length<=85):∀ xs:List α,(xs.flatMap enc).length<=85*xs.length
 | []=>by simp
 | x :: xs=>by
  have:=iW h xs;have:=h x;rw [List.flatMap_cons,List.length_append,List.length_cons]; omega
theorem iX {α:Type} (enc:α->List UInt8) {xs:List α} {k:Nat} {x:α} (h:xs[k]? = some x):(xs.take (k+1)).flatMap enc=(xs.take k).flatMap enc ++ enc x:=by
 rw [List.take_add_one,h]; simp
def uf {α:Type} (enc:α->List UInt8) (xs:List α) (n:Nat) (base g:Nat) (l:List UInt8) (w:World) (i:Value) (wr:World):Prop:=
 ∃ k:Nat,k<=n/\i = .int .i64 k/\gB wr base g (l ++ bg n ++ (xs.take k).flatMap enc)/\dE base g w wr
theorem Qb.of {s:ByteArray} (h:s.size<=9223372036854775807):s.size<=9223372036854775807:=h
theorem xO (base g p:Nat) (l:List UInt8) (xs:List ak) (A:Option Addr) (n c:Nat) (w:World) (y:bC w base 3 A n (au aB xs)) (e:xs.length=n) (hn:n<=1000000) (v:∀ x ∈ xs,vB x) (h:gB w base g l) (ac:l.length<=1000000) :
 ψ 169 #[π g 0,.slice A n c,.func (.func 170) #[π g 0] #[]] w (iM base g (l ++ fZ eH xs) w):=by
 have C:∀ k,((xs.take k).flatMap eH).length<=85*n:=fun k=>by
  have h1:=iW (enc:=eH) (fun x=>kC _) (xs.take k);have h2:(xs.take k).length<=n:=by rw [List.length_take]; omega
  omega
 have U:=bT n;have J:=ω (show ∀ k,(l ++ bg n ++ (xs.take k).flatMap eH).length<=90000000 from fun k=>by have:=C k; simp only [List.length_append]; omega);have S:=ω (show l ++ fZ eH xs=l ++ bg n ++ (xs.take n).flatMap eH from by unfold fZ; rw [<- e,List.take_length,List.append_assoc]);have E:=ω (pX base g l (n:Int) w (by omega) h (by omega));have M:=ω v;have o:=ω e;have N:=ω y;have K:=ω h;clear v e y h C U;go_enter Tryz.func169,Tryz.ntmps169
 go_wp2_with fail
 refine E.mono ?_;rintro T w0 ⟨rfl,ok0,z⟩;rw [show ((n:Int)).toNat=n from by omega] at ok0;have P:=ω ok0;have O:=ω z;clear ok0 z;go_wp2
 go_loopw [7,14] (fun _ j wr=>uf eH xs n base g l w j wr) (fun _ j _=>n - (intOf j).toNat)
 case atStart=>exact⟨0,Nat.zero_le _,rfl,by simpa using P.z,O⟩
 case round=>
  obtain⟨k,hk,rfl,i,d⟩:=hrel;have q:=ω i;have m:=ω d;have ad:=i.size;have r:=K.keep d;clear i d;by_cases hlt:k<n
  · obtain⟨x,a⟩:∃ x,xs[k]? = some x:=⟨_,gO (by rw [o.z]; exact hlt)⟩;obtain⟨R,ae,rfl,aa,u⟩:=(N.below r).eC aI o.z a;have V:=ω (M.z x (m8 a));have L:=ω (iX eH a);obtain⟨X,s⟩:∃ X,X=x:=⟨_,rfl⟩;have Y:=ω s;obtain⟨job,node,D⟩:=x;obtain⟨c0,Z,c2⟩:=rc3 u;clear u a s r;have ab:R<wr.heap.size:=by omega
    have b:Below wr wr (χ wr #[job,node,D] 66):=(θ).alloc lJ _;have G:=ω b;have F:=ω (q.below b);have I:=ω (J.z k);clear b
    go_wp2_with fail
    refine Calls.mono (GV base g _ ⟨job,node,D⟩ _ V.z F.z I.z) ?_;rintro T W ⟨rfl,ok1,B⟩;have H:=ω (m.trans ((dE.of_below G.z).trans B));have Q:=ω (show gB W base g (l ++ bg n ++ (xs.take (k+1)).flatMap eH) from by rw [L.z,<- List.append_assoc]; exact ok1);clear ok1 B;go_wp2
    go_roundw
    case rel=>exact⟨k+1,by omega,by go_num,Q.z,H.z⟩
    case measure=>simp [intOf]; omega
  · obtain rfl:k=n:=by omega
    go_wp2;go_end0;exact⟨rfl,by rw [S.z]; exact q.z,m⟩
end Go.Proofs.YtimglglgcgpjgaaGreatDoor
