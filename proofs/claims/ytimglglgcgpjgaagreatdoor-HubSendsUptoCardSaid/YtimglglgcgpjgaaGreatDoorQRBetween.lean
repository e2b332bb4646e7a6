/- Of the proof of a statement: RBetween. -/
import Derived.Test.YtimglglgcgpjgaaGreatDoorQDiffer
set_option linter.unusedVariables false
set_option linter.unusedSimpArgs false
set_option maxRecDepth 100000
set_option maxHeartbeats 8000000
namespace Go.Proofs.YtimglglgcgpjgaaGreatDoor
open Go.RowKit
def RowK (w:World) (base B:Nat) (e:TypeId) (sz:Nat) (v:Value) (n:Nat) (xs:List Value):Prop:=w.ownsRow base e sz v n xs/\∀ q,v.ownBlock=some q->q<B
theorem RowK.kept {w w':World} {base B sz n:Nat} {e:TypeId} {v:Value} {xs:List Value} (h:RowK w base B e sz v n xs) (a:Below w w w'):RowK w' base B e sz v n xs:=⟨aF h.1 a,h.2⟩
theorem RowK.more {w:World} {base B a sz n:Nat} {e:TypeId} {v:Value} {xs:List Value} (h:RowK w base B e sz v n xs) (b:B<=a):RowK w base a e sz v n xs:=⟨h.1,fun q c=>u7 (h.2 q c) b⟩
theorem RowK.set {w:World} {base B sz n D i:Nat} {e:TypeId} {v u:Value} {xs:List Value} (h:RowK w base B e sz v n xs) (a:D<base):RowK (sX w D i u) base B e sz v n xs:=⟨bA h.1 a,h.2⟩
theorem RowK.grew {w w':World} {base B sz n:Nat} {e:TypeId} {v u p:Value} {xs:List Value} (i:RowK w base B e sz v n xs) (l:cY w w' u p) (o:∀ k,u.ownBlock=some k->B<=k):RowK w' base B e sz v n xs:=by
 obtain⟨⟨b,j | ⟨q,f,g,d,m,c,r⟩⟩,a⟩:=i
 · exact⟨⟨b,.inl j⟩,a⟩
 · have hlt:q<w.heap.size:=(Array.getElem?_eq_some_iff.1 c).1;have s:=a q (by rw [d]; simp [Value.ownBlock]);exact⟨⟨b,.inr ⟨q,f,g,d,m,(l.grown.block q hlt (fun h=>by have:=o q h.symm; omega)).trans c,r⟩⟩,a⟩
theorem RowK.of {w:World} {base b sz n:Nat} {e:TypeId} {v:Value} {xs:List Value} (h:w.ownsRow base e sz v n xs) (a:b<=base):RowK w b w e sz v n xs:=⟨cZ h a,fun q c=>(h.lt q c).2⟩
theorem mO.grew {w0 w w':World} {e f g:Array Value} {v v':Value} (h:mO w0 w e f g) (j:cY w w' v v') (l:∀ k,v.ownBlock=some k->w0.heap.size+4<=k):mO w0 w' e f g:=
 have i:w0.heap.size+4<=w.heap.size:=h.d.lt;have c:=j.below (B:=w0.heap.size+4) i l
 ⟨h.below.trans (c.mono (by omega)),h.a.below c (by omega),h.b.below c (by omega),h.r.below c (by omega),h.d.below c (by omega)⟩
theorem Db (a b:ah) (x y:StA) (w:World) (hA:StAt w w a x) (hB:StAt w w b y) (h1:x.nj<=1000) (h2:x.nn<=1000) (h3:x.nl<=1000) (h4:y.nj<=1000) (h5:y.nn<=1000) (h6:y.nl<=1000) :
 ψ 58 #[.agg (stC a x),.agg (stC b y)] w (CQ a b w):=by
 obtain⟨L,m,B,H⟩:=a;obtain⟨ax,nj,cj,an,nn,cn,ay,nl,cl⟩:=x;obtain⟨M,i,z,G⟩:=b;obtain⟨bj,mj,dj,bn,mn,dn,bl,ml,dl⟩:=y;unfold stC;dsimp only at *;obtain⟨q1,q2,q3,q4,q5⟩:=DZ w #[L,.slice ax nj cj,.slice an nn cn,.slice ay nl cl] #[M,.slice bj mj dj,.slice bn mn dn,.slice bl ml dl] eS #[L,M,.slice none 0 0,.slice none 0 0,.slice none 0 0,.slice none 0 0,.slice none 0 0,.slice none 0 0] (ta:=26) (tb:=26) (tc:=95) (td:=95);have H0:=ω (show mO w ((((w.alloc (.cells #[L,.slice ax nj cj,.slice an nn cn,.slice ay nl cl] 26)).alloc (.cells #[M,.slice bj mj dj,.slice bn mn dn,.slice bl ml dl] 26)).alloc (.cells eS 95)).alloc (.cells #[L,M,.slice none 0 0,.slice none 0 0,.slice none 0 0,.slice none 0 0,.slice none 0 0,.slice none 0 0] 95)) #[L,.slice ax nj cj,.slice an nn cn,.slice ay nl cl] #[M,.slice bj mj dj,.slice bn mn dn,.slice bl ml dl] _ from ⟨q5,q1,q2,q3,q4⟩);have HA:=ω hA;have HB:=ω hB;have bC:w.heap.size+4<=((((w.alloc (.cells #[L,.slice ax nj cj,.slice an nn cn,.slice ay nl cl] 26)).alloc (.cells #[M,.slice bj mj dj,.slice bn mn dn,.slice bl ml dl] 26)).alloc (.cells eS 95)).alloc (.cells #[L,M,.slice none 0 0,.slice none 0 0,.slice none 0 0,.slice none 0 0,.slice none 0 0,.slice none 0 0] 95)).heap.size:=by simp
 generalize bs:((((w.alloc (.cells #[L,.slice ax nj cj,.slice an nn cn,.slice ay nl cl] 26)).alloc (.cells #[M,.slice bj mj dj,.slice bn mn dn,.slice bl ml dl] 26)).alloc (.cells eS 95)).alloc (.cells #[L,M,.slice none 0 0,.slice none 0 0,.slice none 0 0,.slice none 0 0,.slice none 0 0,.slice none 0 0] 95))=W0 at H0 bC;have bw:=ω bs;clear q1 q2 q3 q4 q5 hA hB bs;go_enter Tryz.func58,Tryz.ntmps58;have bD:ζ W0 (w.heap.size+1) 1 (.slice bj mj dj):=H0.b.cell 1;go_wp2;rw [bw.z]
 go_loopw [26] (fun X wr=>∃ (k:Nat) (A:Option Addr) (c:Nat) (l:List aC),k<=mj/\X = .int .i64 k/\l=((i.take k).filter fun x=>!m.any (eqB x))/\mO w wr #[L,.slice ax nj cj,.slice an nn cn,.slice ay nl cl] #[M,.slice bj mj dj,.slice bn mn dn,.slice bl ml dl] #[L,M,.slice A l.length c,.slice none 0 0,.slice none 0 0,.slice none 0 0,.slice none 0 0,.slice none 0 0]/\W0.heap.size<=wr.heap.size/\wr.ownsRow W0 85 5 (.slice A l.length c) l.length (au aS l)) (fun X _=>mj - (intOf X).toNat)
 case atStart=>exact⟨0,none,0,[],Nat.zero_le _,rfl,by simp,H0,lJ,World.ownsRow_nil _ _ _ _⟩
 case round=>
  clear H0 bD;obtain⟨k,A,c,l,o,rfl,W,e,ad,ho⟩:=hrel;have am:=ω e;have V:=ω ho;have P:=ω W;have aE:l.length<=k:=by rw [W]; exact kG _ _ _
  have aw:=e.d.lt;clear W ho;have yo:ζ wr w 1 (.slice ax nj cj):=e.a.cell 1;have yd:ζ wr (w.heap.size+3) 2 (.slice A l.length c):=e.d.cell 2;by_cases hlt:k<mj
  · obtain⟨r,R⟩:∃ r,i[k]? = some r:=⟨_,gO (by have:=HB.lj; dsimp only at this; omega)⟩;obtain⟨bb,bg,ap,aX,hc⟩:=(HB.j.below e.below).eC aT HB.lj R;dsimp only at ap;subst ap;have Hf:=ω R;obtain⟨h,af,ae,ai,ag⟩:=r;obtain⟨e0,e1,e2,e3,e4⟩:=rc5 hc;have aY:=e.below.size;have bc:bb<wr.heap.size:=by omega
    have D:Below wr wr (χ wr #[h,af,ae,ai,ag] 85):=(θ).alloc lJ _;have U:=ω (show Blk (χ wr #[h,af,ae,ai,ag] 85) wr 85 #[h,af,ae,ai,ag] from n5 wr _);have F:=e.kept D;have al:=ω F;have aZ:=e.a.lt;have ba:=e.b.lt;have aA:ζ (χ wr #[h,af,ae,ai,ag] 85) w 1 (.slice ax nj cj):=F.a.cell 1;have ao:=ω (aF V.z D);have HC:=ω (oY.2.1 ⟨h,af,ae,ai,ag⟩ m ax nj cj (χ wr #[h,af,ae,ai,ag] 85) ((HA.j.below F.below).more F.below.size) HA.lj (by first | omega | (dsimp only; omega)));rw [show (Value.agg (aS ⟨h,af,ae,ai,ag⟩).toArray) = .agg #[h,af,ae,ai,ag] from rfl] at HC;clear hc R D F e
    go_wp2_with fail
    refine HC.mono ?_;rintro aW Q ⟨rfl,q⟩;have N:=ω (al.kept q);have C:=ω (aF ao.z q);have K:=U.below q U.lt;have bf:=K.lt;have LE:=N.d.lt;have yd:ζ Q (w.heap.size+3) 2 (.slice A l.length c):=N.d.cell 2;obtain⟨j0,j1,j2,j3,j4⟩:=Blk.c5 (K);have a8:=q.size;rw [show (wr.alloc (.cells #[h,af,ae,ai,ag] 85)).heap.size=wr.heap.size+1 by simp] at a8;clear q HC U al ao K e0 e1 e2 e3 e4 yo aA;cases I:m.any (eqB ⟨h,af,ae,ai,ag⟩)
    · have ac:=ω (nk (p:=fun x=>!m.any (eqB x)) Hf.z (by simp only [I]; rfl));clear I;have a4:W0.heap.size<=Q.heap.size:=by omega
      go_wp2_with (at_builtin; refine cI aS rfl _ _ 22 85 (.agg #[.string ⟨#[]⟩,(0:Int),(0:Int),(0:Int),.string ⟨#[]⟩]) 5 56 rfl Tryz.underlying22 mI rfl (by decide) aT kV W0 _ _ _ l rfl C.z _ ⟨h,af,ae,ai,ag⟩ rfl _ (by simp) rfl (by omega) (by unfold maxLen; omega) a4 ?_; intro T c2 Y a6 J; have O:=N.grew J (fun k o=>by have:=(C.lt k o).1; omega); have d1:ζ Y (w.heap.size+3) 2 (.slice A l.length c):=O.d.cell 2; have z1:κ Y (w.heap.size+3) 2:=O.d.thaw 2; have aw:=O.d.lt)
      go_roundw
      case rel=>
       have aq:(l ++ [(⟨h,af,ae,ai,ag⟩:aC)]).length=l.length+1:=by simp
       have AW:mO w (sX Y (w.heap.size+3) 2 (.slice T (l.length+1) c2)) _ _ #[L,M,.slice T (l.length+1) c2,.slice none 0 0,.slice none 0 0,.slice none 0 0,.slice none 0 0,.slice none 0 0]:=O.set rfl;have LF:=J.grown.size;refine⟨k+1,T,c2,(l ++ [(⟨h,af,ae,ai,ag⟩:aC)]),by omega,by go_num,by rw [ac.z,<- P.z],?_,by simp [World.setCell]; omega,?_⟩
       · rw [aq]; exact AW
       · rw [aq]; exact bA a6 (by omega)
      case measure=>simp [intOf]; omega
    · have ac:=ω (oT (p:=fun x=>!m.any (eqB x)) Hf.z (by simp only [I]; rfl));clear I;go_wp2
      go_roundw
      case rel=>exact⟨k+1,A,c,l,by omega,by go_num,by rw [ac.z,<- P.z],N.z,by omega,C.z⟩
      case measure=>simp [intOf]; omega
  · obtain rfl:mj=k:=by omega
    have a5:l=(newL m i):=by rw [P.z,filter_all _ (by have:=HB.z.lj; dsimp only at this; omega)]; rfl
    subst a5;clear P;have bW:=c;obtain⟨S0,bz⟩:∃ s,s=A:=⟨_,rfl⟩;obtain⟨aj,b5⟩:∃ s,s=c:=⟨_,rfl⟩;subst bz;subst b5;have g:=ω (RowK.of V.z (show w.heap.size+4<=W0.heap.size by omega));obtain⟨aV,a3⟩:∃ a2,a2=wr:=⟨_,rfl⟩;subst a3;have bk:=am;have bE:ζ aV (w.heap.size+1) 2 (.slice bn mn dn):=e.b.cell 2;clear yo yd V am e hlt o aE aw;go_wp2
    go_loopw [45] (fun X wr=>∃ (k:Nat) (A:Option Addr) (c:Nat) (l:List av),k<=mn/\X = .int .i64 k/\l=((z.take k).filter fun x=>!B.any (eqB x))/\mO w wr #[L,.slice ax nj cj,.slice an nn cn,.slice ay nl cl] #[M,.slice bj mj dj,.slice bn mn dn,.slice bl ml dl] #[L,M,.slice S0 (newL m i).length aj,.slice A l.length c,.slice none 0 0,.slice none 0 0,.slice none 0 0,.slice none 0 0]/\aV.heap.size<=wr.heap.size/\wr.ownsRow aV 70 3 (.slice A l.length c) l.length (au aH l)/\RowK wr (w.heap.size+4) aV 85 5 (.slice S0 (newL m i).length aj) (newL m i).length (au aS (newL m i))) (fun X _=>mn - (intOf X).toNat)
    case atStart=>exact⟨0,none,0,[],Nat.zero_le _,rfl,by simp,bk,lJ,World.ownsRow_nil _ _ _ _,g⟩
    case round=>
     clear bk bE g;obtain⟨k,A,c,l,o,rfl,W,e,ad,ho,az⟩:=hrel;have am:=ω e;have V:=ω ho;have P:=ω W;have aE:l.length<=k:=by rw [W]; exact kG _ _ _
     have aw:=e.d.lt;have g:=ω az;clear W ho az;have yo:ζ wr w 2 (.slice an nn cn):=e.a.cell 2;have yd:ζ wr (w.heap.size+3) 3 (.slice A l.length c):=e.d.cell 3;by_cases hlt:k<mn
     · obtain⟨r,R⟩:∃ r,z[k]? = some r:=⟨_,gO (by have:=HB.ln; dsimp only at this; omega)⟩;obtain⟨bb,bg,ap,aX,hc⟩:=(HB.n.below e.below).eC aO HB.ln R;dsimp only at ap;subst ap;have Hf:=ω R;obtain⟨h,Z,ab⟩:=r;obtain⟨e0,e1,e2⟩:=rc3 hc;have aY:=e.below.size;have bc:bb<wr.heap.size:=by omega
       have D:Below wr wr (χ wr #[h,Z,ab] 70):=(θ).alloc lJ _;have U:=ω (show Blk (χ wr #[h,Z,ab] 70) wr 70 #[h,Z,ab] from n5 wr _);have F:=e.kept D;have al:=ω F;have aZ:=e.a.lt;have ba:=e.b.lt;have aA:ζ (χ wr #[h,Z,ab] 70) w 2 (.slice an nn cn):=F.a.cell 2;have ao:=ω (aF V.z D);have g:=ω (g.kept D);have HC:=ω (oY.2.2.2.1 ⟨h,Z,ab⟩ B an nn cn (χ wr #[h,Z,ab] 70) ((HA.n.below F.below).more F.below.size) HA.ln (by first | omega | (dsimp only; omega)));rw [show (Value.agg (aH ⟨h,Z,ab⟩).toArray) = .agg #[h,Z,ab] from rfl] at HC;clear hc R D F e
       go_wp2_with fail
       refine HC.mono ?_;rintro aW Q ⟨rfl,q⟩;have N:=ω (al.kept q);have C:=ω (aF ao.z q);have K:=U.below q U.lt;have bf:=K.lt;have LE:=N.d.lt;have yd:ζ Q (w.heap.size+3) 3 (.slice A l.length c):=N.d.cell 3;have g:=ω (g.kept q);have j0:ζ Q wr 0 (.string h):=K.cell 0;have j1:ζ Q wr 1 (.int .i64 Z):=K.cell 1;have j2:ζ Q wr 2 (.string ab):=K.cell 2;have a8:=q.size;rw [show (wr.alloc (.cells #[h,Z,ab] 70)).heap.size=wr.heap.size+1 by simp] at a8;clear q HC U al ao K e0 e1 e2 yo aA;cases I:B.any (eqB ⟨h,Z,ab⟩)
       · have ac:=ω (nk (p:=fun x=>!B.any (eqB x)) Hf.z (by simp only [I]; rfl));clear I;have a4:aV.heap.size<=Q.heap.size:=by omega
         go_wp2_with (at_builtin; refine cI aH rfl _ _ 23 70 (.agg #[.string ⟨#[]⟩,(0:Int),.string ⟨#[]⟩]) 3 40 rfl Tryz.underlying23 kW rfl (by decide) aO jA aV _ _ _ l rfl C.z _ ⟨h,Z,ab⟩ rfl _ (by simp) rfl (by omega) (by unfold maxLen; omega) a4 ?_; intro T c2 Y a6 J; have O:=N.grew J (fun k o=>by have:=(C.lt k o).1; omega); have d1:ζ Y (w.heap.size+3) 3 (.slice A l.length c):=O.d.cell 3; have z1:κ Y (w.heap.size+3) 3:=O.d.thaw 3; have aw:=O.d.lt)
         go_roundw
         case rel=>
          have aq:(l ++ [(⟨h,Z,ab⟩:av)]).length=l.length+1:=by simp
          have AW:mO w (sX Y (w.heap.size+3) 3 (.slice T (l.length+1) c2)) _ _ #[L,M,.slice S0 (newL m i).length aj,.slice T (l.length+1) c2,.slice none 0 0,.slice none 0 0,.slice none 0 0,.slice none 0 0]:=O.set rfl;have LF:=J.grown.size;refine⟨k+1,T,c2,(l ++ [(⟨h,Z,ab⟩:av)]),by omega,by go_num,by rw [ac.z,<- P.z],?_,by simp [World.setCell]; omega,?_,(g.grew J (fun k o=>(C.lt k o).1)).set (by omega)⟩
          · rw [aq]; exact AW
          · rw [aq]; exact bA a6 (by omega)
         case measure=>simp [intOf]; omega
       · have ac:=ω (oT (p:=fun x=>!B.any (eqB x)) Hf.z (by simp only [I]; rfl));clear I;go_wp2
         go_roundw
         case rel=>exact⟨k+1,A,c,l,by omega,by go_num,by rw [ac.z,<- P.z],N.z,by omega,C.z,g.z⟩
         case measure=>simp [intOf]; omega
     · obtain rfl:mn=k:=by omega
       have a5:l=(newL B z):=by rw [P.z,filter_all _ (by have:=HB.z.ln; dsimp only at this; omega)]; rfl
       subst a5;clear P;have bX:=c;obtain⟨S1,b0⟩:∃ s,s=A:=⟨_,rfl⟩;obtain⟨ar,b6⟩:∃ s,s=c:=⟨_,rfl⟩;subst b0;subst b6;have u:=ω (RowK.of V.z (show w.heap.size+4<=aV.heap.size by omega));have g:=ω (g.more ad);obtain⟨aR,a3⟩:∃ a2,a2=wr:=⟨_,rfl⟩;subst a3;have bm:=am;have bF:ζ aR (w.heap.size+1) 3 (.slice bl ml dl):=e.b.cell 3;clear yo yd V am e hlt o aE aw;go_wp2
       go_loopw [64] (fun X wr=>∃ (k:Nat) (A:Option Addr) (c:Nat) (l:List ak),k<=ml/\X = .int .i64 k/\l=((G.take k).filter fun x=>!H.any (eqB x))/\mO w wr #[L,.slice ax nj cj,.slice an nn cn,.slice ay nl cl] #[M,.slice bj mj dj,.slice bn mn dn,.slice bl ml dl] #[L,M,.slice S0 (newL m i).length aj,.slice S1 (newL B z).length ar,.slice A l.length c,.slice none 0 0,.slice none 0 0,.slice none 0 0]/\aR.heap.size<=wr.heap.size/\wr.ownsRow aR 66 3 (.slice A l.length c) l.length (au aB l)/\RowK wr (w.heap.size+4) aR 85 5 (.slice S0 (newL m i).length aj) (newL m i).length (au aS (newL m i))/\RowK wr (w.heap.size+4) aR 70 3 (.slice S1 (newL B z).length ar) (newL B z).length (au aH (newL B z))) (fun X _=>ml - (intOf X).toNat)
       case atStart=>exact⟨0,none,0,[],Nat.zero_le _,rfl,by simp,bm,lJ,World.ownsRow_nil _ _ _ _,g,u⟩
       case round=>
        clear bm bF g u;obtain⟨k,A,c,l,o,rfl,W,e,ad,ho,az,a7⟩:=hrel;have am:=ω e;have V:=ω ho;have P:=ω W;have aE:l.length<=k:=by rw [W]; exact kG _ _ _
        have aw:=e.d.lt;have g:=ω az;have u:=ω a7;clear W ho az a7;have yo:ζ wr w 3 (.slice ay nl cl):=e.a.cell 3;have yd:ζ wr (w.heap.size+3) 4 (.slice A l.length c):=e.d.cell 4;by_cases hlt:k<ml
        · obtain⟨r,R⟩:∃ r,G[k]? = some r:=⟨_,gO (by have:=HB.ll; dsimp only at this; omega)⟩;obtain⟨bb,bg,ap,aX,hc⟩:=(HB.l.below e.below).eC aI HB.ll R;dsimp only at ap;subst ap;have Hf:=ω R;obtain⟨job,node,aa⟩:=r;obtain⟨e0,e1,e2⟩:=rc3 hc;have aY:=e.below.size;have bc:bb<wr.heap.size:=by omega
          have D:Below wr wr (χ wr #[job,node,aa] 66):=(θ).alloc lJ _;have U:=ω (show Blk (χ wr #[job,node,aa] 66) wr 66 #[job,node,aa] from n5 wr _);have F:=e.kept D;have al:=ω F;have aZ:=e.a.lt;have ba:=e.b.lt;have aA:ζ (χ wr #[job,node,aa] 66) w 3 (.slice ay nl cl):=F.a.cell 3;have ao:=ω (aF V.z D);have g:=ω (g.kept D);have u:=ω (u.kept D);have HC:=ω (oY.2.2.2.2.2 ⟨job,node,aa⟩ H ay nl cl (χ wr #[job,node,aa] 66) ((HA.l.below F.below).more F.below.size) HA.ll (by first | omega | (dsimp only; omega)));rw [show (Value.agg (aB ⟨job,node,aa⟩).toArray) = .agg #[job,node,aa] from rfl] at HC;clear hc R D F e
          go_wp2_with fail
          refine HC.mono ?_;rintro aW Q ⟨rfl,q⟩;have N:=ω (al.kept q);have C:=ω (aF ao.z q);have K:=U.below q U.lt;have bf:=K.lt;have LE:=N.d.lt;have yd:ζ Q (w.heap.size+3) 4 (.slice A l.length c):=N.d.cell 4;have g:=ω (g.kept q);have u:=ω (u.kept q);have j0:ζ Q wr 0 (.string job):=K.cell 0;have j1:ζ Q wr 1 (.string node):=K.cell 1;have j2:ζ Q wr 2 (.int .i64 aa):=K.cell 2;have a8:=q.size;rw [show (wr.alloc (.cells #[job,node,aa] 66)).heap.size=wr.heap.size+1 by simp] at a8;clear q HC U al ao K e0 e1 e2 yo aA;cases I:H.any (eqB ⟨job,node,aa⟩)
          · have ac:=ω (nk (p:=fun x=>!H.any (eqB x)) Hf.z (by simp only [I]; rfl));clear I;have a4:aR.heap.size<=Q.heap.size:=by omega
            go_wp2_with (at_builtin; refine cI aB rfl _ _ 24 66 (.agg #[.string ⟨#[]⟩,.string ⟨#[]⟩,(0:Int)]) 3 40 rfl Tryz.underlying24 jB rfl (by decide) aI gY aR _ _ _ l rfl C.z _ ⟨job,node,aa⟩ rfl _ (by simp) rfl (by omega) (by unfold maxLen; omega) a4 ?_; intro T c2 Y a6 J; have O:=N.grew J (fun k o=>by have:=(C.lt k o).1; omega); have d1:ζ Y (w.heap.size+3) 4 (.slice A l.length c):=O.d.cell 4; have z1:κ Y (w.heap.size+3) 4:=O.d.thaw 4; have aw:=O.d.lt)
            go_roundw
            case rel=>
             have aq:(l ++ [(⟨job,node,aa⟩:ak)]).length=l.length+1:=by simp
             have AW:mO w (sX Y (w.heap.size+3) 4 (.slice T (l.length+1) c2)) _ _ #[L,M,.slice S0 (newL m i).length aj,.slice S1 (newL B z).length ar,.slice T (l.length+1) c2,.slice none 0 0,.slice none 0 0,.slice none 0 0]:=O.set rfl;have LF:=J.grown.size;refine⟨k+1,T,c2,(l ++ [(⟨job,node,aa⟩:ak)]),by omega,by go_num,by rw [ac.z,<- P.z],?_,by simp [World.setCell]; omega,?_,(g.grew J (fun k o=>(C.lt k o).1)).set (by omega),(u.grew J (fun k o=>(C.lt k o).1)).set (by omega)⟩
             · rw [aq]; exact AW
             · rw [aq]; exact bA a6 (by omega)
            case measure=>simp [intOf]; omega
          · have ac:=ω (oT (p:=fun x=>!H.any (eqB x)) Hf.z (by simp only [I]; rfl));clear I;go_wp2
            go_roundw
            case rel=>exact⟨k+1,A,c,l,by omega,by go_num,by rw [ac.z,<- P.z],N.z,by omega,C.z,g.z,u.z⟩
            case measure=>simp [intOf]; omega
        · obtain rfl:ml=k:=by omega
          have a5:l=(newL H G):=by rw [P.z,filter_all _ (by have:=HB.z.ll; dsimp only at this; omega)]; rfl
          subst a5;clear P;have bY:=c;obtain⟨S2,b1⟩:∃ s,s=A:=⟨_,rfl⟩;obtain⟨a1,b7⟩:∃ s,s=c:=⟨_,rfl⟩;subst b1;subst b7;have E:=ω (RowK.of V.z (show w.heap.size+4<=aR.heap.size by omega));have g:=ω (g.more ad);have u:=ω (u.more ad);obtain⟨aJ,a3⟩:∃ a2,a2=wr:=⟨_,rfl⟩;subst a3;have bo:=am;have bG:ζ aJ w 1 (.slice ax nj cj):=e.a.cell 1;clear yo yd V am e hlt o aE aw;go_wp2
          go_loopw [83] (fun X wr=>∃ (k:Nat) (A:Option Addr) (c:Nat) (l:List ByteArray),k<=nj/\X = .int .i64 k/\l=(((m.take k).filter fun x=>!i.any fun y=>decide (aC.name y=aC.name x)).map aC.name)/\mO w wr #[L,.slice ax nj cj,.slice an nn cn,.slice ay nl cl] #[M,.slice bj mj dj,.slice bn mn dn,.slice bl ml dl] #[L,M,.slice S0 (newL m i).length aj,.slice S1 (newL B z).length ar,.slice S2 (newL H G).length a1,.slice A l.length c,.slice none 0 0,.slice none 0 0]/\aJ.heap.size<=wr.heap.size/\wr.ownsRow aJ 9 1 (.slice A l.length c) l.length (au lR l)/\RowK wr (w.heap.size+4) aJ 85 5 (.slice S0 (newL m i).length aj) (newL m i).length (au aS (newL m i))/\RowK wr (w.heap.size+4) aJ 70 3 (.slice S1 (newL B z).length ar) (newL B z).length (au aH (newL B z))/\RowK wr (w.heap.size+4) aJ 66 3 (.slice S2 (newL H G).length a1) (newL H G).length (au aB (newL H G))) (fun X _=>nj - (intOf X).toNat)
          case atStart=>exact⟨0,none,0,[],Nat.zero_le _,rfl,by simp,bo,lJ,World.ownsRow_nil _ _ _ _,g,u,E⟩
          case round=>
           clear bo bG g u E;obtain⟨k,A,c,l,o,rfl,W,e,ad,ho,az,a7,aP⟩:=hrel;have am:=ω e;have V:=ω ho;have P:=ω W;have aE:l.length<=k:=by rw [W,List.length_map]; exact kG _ _ _
           have aw:=e.d.lt;have g:=ω az;have u:=ω a7;have E:=ω aP;clear W ho az a7 aP;have yo:ζ wr (w.heap.size+1) 1 (.slice bj mj dj):=e.b.cell 1;have yd:ζ wr (w.heap.size+3) 5 (.slice A l.length c):=e.d.cell 5;by_cases hlt:k<nj
           · obtain⟨r,R⟩:∃ r,m[k]? = some r:=⟨_,gO (by have:=HA.lj; dsimp only at this; omega)⟩;obtain⟨bb,bg,ap,aX,hc⟩:=(HA.j.below e.below).eC aT HA.lj R;dsimp only at ap;subst ap;have Hf:=ω R;obtain⟨h,af,ae,ai,ag⟩:=r;obtain⟨e0,e1,e2,e3,e4⟩:=rc5 hc;have aY:=e.below.size;have bc:bb<wr.heap.size:=by omega
             have D:Below wr wr (χ wr #[h,af,ae,ai,ag] 85):=(θ).alloc lJ _;have U:=ω (show Blk (χ wr #[h,af,ae,ai,ag] 85) wr 85 #[h,af,ae,ai,ag] from n5 wr _);have F:=e.kept D;have al:=ω F;have aZ:=e.a.lt;have ba:=e.b.lt;have aA:ζ (χ wr #[h,af,ae,ai,ag] 85) (w.heap.size+1) 1 (.slice bj mj dj):=F.b.cell 1;have ao:=ω (aF V.z D);have g:=ω (g.kept D);have u:=ω (u.kept D);have E:=ω (E.kept D);have HC:=ω (fJ.1 i h bj mj dj (χ wr #[h,af,ae,ai,ag] 85) ((HB.j.below F.below).more F.below.size) HB.lj (by first | omega | (dsimp only; omega)));have ac:=ω (rz (key:=aC.name) (b:=i) R);have aK:=ω (wI aC.name h i);clear hc R D F e
             go_wp2_with fail
             refine HC.mono ?_;rintro aW Q ⟨ix,rfl,q,aM⟩;have N:=ω (al.kept q);have C:=ω (aF ao.z q);have K:=U.below q U.lt;have bf:=K.lt;have LE:=N.d.lt;have yd:ζ Q (w.heap.size+3) 5 (.slice A l.length c):=N.d.cell 5;have g:=ω (g.kept q);have u:=ω (u.kept q);have E:=ω (E.kept q);obtain⟨j0,j1,j2,j3,j4⟩:=Blk.c5 (K);have a8:=q.size;rw [show (wr.alloc (.cells #[h,af,ae,ai,ag] 85)).heap.size=wr.heap.size+1 by simp] at a8;clear q HC U al ao K e0 e1 e2 e3 e4 yo aA;unfold cC at aM;rcases aM with ⟨rfl,aN⟩ | ⟨kk,xx,rfl,bu,aQ⟩
             · have I:(i.any fun y=>decide (aC.name y=h))=false:=by rw [<- aK.z,aN]; rfl
               have Hs:=ω (ac.z.1 I);clear I aN;have a4:aJ.heap.size<=Q.heap.size:=by omega
               go_wp2_with (at_builtin; refine cI lR rfl _ _ 93 9 (.string ⟨#[]⟩) 1 16 rfl Tryz.underlying93 sK rfl (by decide) iY qI aJ _ _ _ l rfl C.z _ h rfl _ (by simp) rfl (by omega) (by unfold maxLen; omega) a4 ?_; intro T c2 Y a6 J; have O:=N.grew J (fun k o=>by have:=(C.lt k o).1; omega); have d1:ζ Y (w.heap.size+3) 5 (.slice A l.length c):=O.d.cell 5; have z1:κ Y (w.heap.size+3) 5:=O.d.thaw 5; have aw:=O.d.lt)
               go_roundw
               case rel=>
                have aq:(l ++ [h]).length=l.length+1:=by simp
                have AW:mO w (sX Y (w.heap.size+3) 5 (.slice T (l.length+1) c2)) _ _ #[L,M,.slice S0 (newL m i).length aj,.slice S1 (newL B z).length ar,.slice S2 (newL H G).length a1,.slice T (l.length+1) c2,.slice none 0 0,.slice none 0 0]:=O.set rfl;have LF:=J.grown.size;refine⟨k+1,T,c2,(l ++ [h]),by omega,by go_num,by rw [P.z]; exact Hs.symm,?_,by simp [World.setCell]; omega,?_,(g.grew J (fun k o=>(C.lt k o).1)).set (by omega),(u.grew J (fun k o=>(C.lt k o).1)).set (by omega),(E.grew J (fun k o=>(C.lt k o).1)).set (by omega)⟩
                · rw [aq]; exact AW
                · rw [aq]; exact bA a6 (by omega)
               case measure=>simp [intOf]; omega
             · have I:(i.any fun y=>decide (aC.name y=h))=true:=by rw [<- aK.z,aQ]; rfl
               have Hs:=ω (ac.z.2 I);have d0:decide ((kk:Int)<0)=false:=fK (by omega);clear I aQ;go_wp2
               go_roundw
               case rel=>exact⟨k+1,A,c,l,by omega,by go_num,by rw [P.z]; exact Hs.z.symm,N.z,by omega,C.z,g.z,u.z,E.z⟩
               case measure=>simp [intOf]; omega
           · obtain rfl:nj=k:=by omega
             have a5:l=(bI aC.name m i):=by rw [P.z,filter_all _ (by have:=HA.z.lj; dsimp only at this; omega)]; rfl
             subst a5;clear P;have bS:=c;obtain⟨G0,b2⟩:∃ s,s=A:=⟨_,rfl⟩;obtain⟨aD,b8⟩:∃ s,s=c:=⟨_,rfl⟩;subst b2;subst b8;have S:=ω (RowK.of V.z (show w.heap.size+4<=aJ.heap.size by omega));have g:=ω (g.more ad);have u:=ω (u.more ad);have E:=ω (E.more ad);obtain⟨aG,a3⟩:∃ a2,a2=wr:=⟨_,rfl⟩;subst a3;have bp:=am;have bH:ζ aG w 2 (.slice an nn cn):=e.a.cell 2;clear yo yd V am e hlt o aE aw;go_wp2
             go_loopw [104] (fun X wr=>∃ (k:Nat) (A:Option Addr) (c:Nat) (l:List ByteArray),k<=nn/\X = .int .i64 k/\l=(((B.take k).filter fun x=>!z.any fun y=>decide (av.name y=av.name x)).map av.name)/\mO w wr #[L,.slice ax nj cj,.slice an nn cn,.slice ay nl cl] #[M,.slice bj mj dj,.slice bn mn dn,.slice bl ml dl] #[L,M,.slice S0 (newL m i).length aj,.slice S1 (newL B z).length ar,.slice S2 (newL H G).length a1,.slice G0 (bI aC.name m i).length aD,.slice A l.length c,.slice none 0 0]/\aG.heap.size<=wr.heap.size/\wr.ownsRow aG 9 1 (.slice A l.length c) l.length (au lR l)/\RowK wr (w.heap.size+4) aG 85 5 (.slice S0 (newL m i).length aj) (newL m i).length (au aS (newL m i))/\RowK wr (w.heap.size+4) aG 70 3 (.slice S1 (newL B z).length ar) (newL B z).length (au aH (newL B z))/\RowK wr (w.heap.size+4) aG 66 3 (.slice S2 (newL H G).length a1) (newL H G).length (au aB (newL H G))/\RowK wr (w.heap.size+4) aG 9 1 (.slice G0 (bI aC.name m i).length aD) (bI aC.name m i).length (au lR (bI aC.name m i))) (fun X _=>nn - (intOf X).toNat)
             case atStart=>exact⟨0,none,0,[],Nat.zero_le _,rfl,by simp,bp,lJ,World.ownsRow_nil _ _ _ _,g,u,E,S⟩
             case round=>
              clear bp bH g u E S;obtain⟨k,A,c,l,o,rfl,W,e,ad,ho,az,a7,aP,bd⟩:=hrel;have am:=ω e;have V:=ω ho;have P:=ω W;have aE:l.length<=k:=by rw [W,List.length_map]; exact kG _ _ _
              have aw:=e.d.lt;have g:=ω az;have u:=ω a7;have E:=ω aP;have S:=ω bd;clear W ho az a7 aP bd;have yo:ζ wr (w.heap.size+1) 2 (.slice bn mn dn):=e.b.cell 2;have yd:ζ wr (w.heap.size+3) 6 (.slice A l.length c):=e.d.cell 6;by_cases hlt:k<nn
              · obtain⟨r,R⟩:∃ r,B[k]? = some r:=⟨_,gO (by have:=HA.ln; dsimp only at this; omega)⟩;obtain⟨bb,bg,ap,aX,hc⟩:=(HA.n.below e.below).eC aO HA.ln R;dsimp only at ap;subst ap;have Hf:=ω R;obtain⟨h,Z,ab⟩:=r;obtain⟨e0,e1,e2⟩:=rc3 hc;have aY:=e.below.size;have bc:bb<wr.heap.size:=by omega
                have D:Below wr wr (χ wr #[h,Z,ab] 70):=(θ).alloc lJ _;have U:=ω (show Blk (χ wr #[h,Z,ab] 70) wr 70 #[h,Z,ab] from n5 wr _);have F:=e.kept D;have al:=ω F;have aZ:=e.a.lt;have ba:=e.b.lt;have aA:ζ (χ wr #[h,Z,ab] 70) (w.heap.size+1) 2 (.slice bn mn dn):=F.b.cell 2;have ao:=ω (aF V.z D);have g:=ω (g.kept D);have u:=ω (u.kept D);have E:=ω (E.kept D);have S:=ω (S.kept D);have HC:=ω (fJ.2 z h bn mn dn (χ wr #[h,Z,ab] 70) ((HB.n.below F.below).more F.below.size) HB.ln (by first | omega | (dsimp only; omega)));have ac:=ω (rz (key:=av.name) (b:=z) R);have aK:=ω (wI av.name h z);clear hc R D F e
                go_wp2_with fail
                refine HC.mono ?_;rintro aW Q ⟨ix,rfl,q,aM⟩;have N:=ω (al.kept q);have C:=ω (aF ao.z q);have K:=U.below q U.lt;have bf:=K.lt;have LE:=N.d.lt;have yd:ζ Q (w.heap.size+3) 6 (.slice A l.length c):=N.d.cell 6;have g:=ω (g.kept q);have u:=ω (u.kept q);have E:=ω (E.kept q);have S:=ω (S.kept q);have j0:ζ Q wr 0 (.string h):=K.cell 0;have j1:ζ Q wr 1 (.int .i64 Z):=K.cell 1;have j2:ζ Q wr 2 (.string ab):=K.cell 2;have a8:=q.size;rw [show (wr.alloc (.cells #[h,Z,ab] 70)).heap.size=wr.heap.size+1 by simp] at a8;clear q HC U al ao K e0 e1 e2 yo aA;unfold bU at aM;rcases aM with ⟨rfl,aN⟩ | ⟨kk,xx,rfl,bu,aQ⟩
                · have I:(z.any fun y=>decide (av.name y=h))=false:=by rw [<- aK.z,aN]; rfl
                  have Hs:=ω (ac.z.1 I);clear I aN;have a4:aG.heap.size<=Q.heap.size:=by omega
                  go_wp2_with (at_builtin; refine cI lR rfl _ _ 93 9 (.string ⟨#[]⟩) 1 16 rfl Tryz.underlying93 sK rfl (by decide) iY qI aG _ _ _ l rfl C.z _ h rfl _ (by simp) rfl (by omega) (by unfold maxLen; omega) a4 ?_; intro T c2 Y a6 J; have O:=N.grew J (fun k o=>by have:=(C.lt k o).1; omega); have d1:ζ Y (w.heap.size+3) 6 (.slice A l.length c):=O.d.cell 6; have z1:κ Y (w.heap.size+3) 6:=O.d.thaw 6; have aw:=O.d.lt)
                  go_roundw
                  case rel=>
                   have aq:(l ++ [h]).length=l.length+1:=by simp
                   have AW:mO w (sX Y (w.heap.size+3) 6 (.slice T (l.length+1) c2)) _ _ #[L,M,.slice S0 (newL m i).length aj,.slice S1 (newL B z).length ar,.slice S2 (newL H G).length a1,.slice G0 (bI aC.name m i).length aD,.slice T (l.length+1) c2,.slice none 0 0]:=O.set rfl;have LF:=J.grown.size;refine⟨k+1,T,c2,(l ++ [h]),by omega,by go_num,by rw [P.z]; exact Hs.symm,?_,by simp [World.setCell]; omega,?_,(g.grew J (fun k o=>(C.lt k o).1)).set (by omega),(u.grew J (fun k o=>(C.lt k o).1)).set (by omega),(E.grew J (fun k o=>(C.lt k o).1)).set (by omega),(S.grew J (fun k o=>(C.lt k o).1)).set (by omega)⟩
                   · rw [aq]; exact AW
                   · rw [aq]; exact bA a6 (by omega)
                  case measure=>simp [intOf]; omega
                · have I:(z.any fun y=>decide (av.name y=h))=true:=by rw [<- aK.z,aQ]; rfl
                  have Hs:=ω (ac.z.2 I);have d0:decide ((kk:Int)<0)=false:=fK (by omega);clear I aQ;go_wp2
                  go_roundw
                  case rel=>exact⟨k+1,A,c,l,by omega,by go_num,by rw [P.z]; exact Hs.z.symm,N.z,by omega,C.z,g.z,u.z,E.z,S.z⟩
                  case measure=>simp [intOf]; omega
              · obtain rfl:nn=k:=by omega
                have a5:l=(bI av.name B z):=by rw [P.z,filter_all _ (by have:=HA.z.ln; dsimp only at this; omega)]; rfl
                subst a5;clear P;have bT:=c;obtain⟨G1,b3⟩:∃ s,s=A:=⟨_,rfl⟩;obtain⟨aU,b9⟩:∃ s,s=c:=⟨_,rfl⟩;subst b3;subst b9;have a0:=ω (RowK.of V.z (show w.heap.size+4<=aG.heap.size by omega));have g:=ω (g.more ad);have u:=ω (u.more ad);have E:=ω (E.more ad);have S:=ω (S.more ad);obtain⟨a9,a3⟩:∃ a2,a2=wr:=⟨_,rfl⟩;subst a3;have bq:=am;have bJ:ζ a9 w 3 (.slice ay nl cl):=e.a.cell 3;clear yo yd V am e hlt o aE aw;go_wp2
                go_loopw [125] (fun X wr=>∃ (k:Nat) (A:Option Addr) (c:Nat) (l:List ByteArray),k<=nl/\X = .int .i64 k/\l=(((H.take k).filter fun x=>!G.any fun y=>decide (ak.job y=ak.job x)).map ak.job)/\mO w wr #[L,.slice ax nj cj,.slice an nn cn,.slice ay nl cl] #[M,.slice bj mj dj,.slice bn mn dn,.slice bl ml dl] #[L,M,.slice S0 (newL m i).length aj,.slice S1 (newL B z).length ar,.slice S2 (newL H G).length a1,.slice G0 (bI aC.name m i).length aD,.slice G1 (bI av.name B z).length aU,.slice A l.length c]/\a9.heap.size<=wr.heap.size/\wr.ownsRow a9 9 1 (.slice A l.length c) l.length (au lR l)/\RowK wr (w.heap.size+4) a9 85 5 (.slice S0 (newL m i).length aj) (newL m i).length (au aS (newL m i))/\RowK wr (w.heap.size+4) a9 70 3 (.slice S1 (newL B z).length ar) (newL B z).length (au aH (newL B z))/\RowK wr (w.heap.size+4) a9 66 3 (.slice S2 (newL H G).length a1) (newL H G).length (au aB (newL H G))/\RowK wr (w.heap.size+4) a9 9 1 (.slice G0 (bI aC.name m i).length aD) (bI aC.name m i).length (au lR (bI aC.name m i))/\RowK wr (w.heap.size+4) a9 9 1 (.slice G1 (bI av.name B z).length aU) (bI av.name B z).length (au lR (bI av.name B z))) (fun X _=>nl - (intOf X).toNat)
                case atStart=>exact⟨0,none,0,[],Nat.zero_le _,rfl,by simp,bq,lJ,World.ownsRow_nil _ _ _ _,g,u,E,S,a0⟩
                case round=>
                 clear bq bJ g u E S a0;obtain⟨k,A,c,l,o,rfl,W,e,ad,ho,az,a7,aP,bd,bt⟩:=hrel;have am:=ω e;have V:=ω ho;have P:=ω W;have aE:l.length<=k:=by rw [W,List.length_map]; exact kG _ _ _
                 have aw:=e.d.lt;have g:=ω az;have u:=ω a7;have E:=ω aP;have S:=ω bd;have a0:=ω bt;clear W ho az a7 aP bd bt;have yo:ζ wr (w.heap.size+1) 3 (.slice bl ml dl):=e.b.cell 3;have yd:ζ wr (w.heap.size+3) 7 (.slice A l.length c):=e.d.cell 7;by_cases hlt:k<nl
                 · obtain⟨r,R⟩:∃ r,H[k]? = some r:=⟨_,gO (by have:=HA.ll; dsimp only at this; omega)⟩;obtain⟨bb,bg,ap,aX,hc⟩:=(HA.l.below e.below).eC aI HA.ll R;dsimp only at ap;subst ap;have Hf:=ω R;obtain⟨job,node,aa⟩:=r;obtain⟨e0,e1,e2⟩:=rc3 hc;have aY:=e.below.size;have bc:bb<wr.heap.size:=by omega
                   have D:Below wr wr (χ wr #[job,node,aa] 66):=(θ).alloc lJ _;have U:=ω (show Blk (χ wr #[job,node,aa] 66) wr 66 #[job,node,aa] from n5 wr _);have F:=e.kept D;have al:=ω F;have aZ:=e.a.lt;have ba:=e.b.lt;have aA:ζ (χ wr #[job,node,aa] 66) (w.heap.size+1) 3 (.slice bl ml dl):=F.b.cell 3;have ao:=ω (aF V.z D);have g:=ω (g.kept D);have u:=ω (u.kept D);have E:=ω (E.kept D);have S:=ω (S.kept D);have a0:=ω (a0.kept D);have HC:=ω (qc G job bl ml dl (χ wr #[job,node,aa] 66) ((HB.l.below F.below).more F.below.size) HB.ll (by first | omega | (dsimp only; omega)));have ac:=ω (rz (key:=ak.job) (b:=G) R);have aK:=ω (wI ak.job job G);clear hc R D F e
                   go_wp2_with fail
                   refine HC.mono ?_;rintro aW Q ⟨ix,rfl,q,aM⟩;have N:=ω (al.kept q);have C:=ω (aF ao.z q);have K:=U.below q U.lt;have bf:=K.lt;have LE:=N.d.lt;have yd:ζ Q (w.heap.size+3) 7 (.slice A l.length c):=N.d.cell 7;have g:=ω (g.kept q);have u:=ω (u.kept q);have E:=ω (E.kept q);have S:=ω (S.kept q);have a0:=ω (a0.kept q);have j0:ζ Q wr 0 (.string job):=K.cell 0;have j1:ζ Q wr 1 (.string node):=K.cell 1;have j2:ζ Q wr 2 (.int .i64 aa):=K.cell 2;have a8:=q.size;rw [show (wr.alloc (.cells #[job,node,aa] 66)).heap.size=wr.heap.size+1 by simp] at a8;clear q HC U al ao K e0 e1 e2 yo aA;unfold cD at aM;rcases aM with ⟨rfl,aN⟩ | ⟨kk,xx,rfl,bu,aQ⟩
                   · have I:(G.any fun y=>decide (ak.job y=job))=false:=by rw [<- aK.z,aN]; rfl
                     have Hs:=ω (ac.z.1 I);clear I aN;have a4:a9.heap.size<=Q.heap.size:=by omega
                     go_wp2_with (at_builtin; refine cI lR rfl _ _ 93 9 (.string ⟨#[]⟩) 1 16 rfl Tryz.underlying93 sK rfl (by decide) iY qI a9 _ _ _ l rfl C.z _ job rfl _ (by simp) rfl (by omega) (by unfold maxLen; omega) a4 ?_; intro T c2 Y a6 J; have O:=N.grew J (fun k o=>by have:=(C.lt k o).1; omega); have d1:ζ Y (w.heap.size+3) 7 (.slice A l.length c):=O.d.cell 7; have z1:κ Y (w.heap.size+3) 7:=O.d.thaw 7; have aw:=O.d.lt)
                     go_roundw
                     case rel=>
                      have aq:(l ++ [job]).length=l.length+1:=by simp
                      have AW:mO w (sX Y (w.heap.size+3) 7 (.slice T (l.length+1) c2)) _ _ #[L,M,.slice S0 (newL m i).length aj,.slice S1 (newL B z).length ar,.slice S2 (newL H G).length a1,.slice G0 (bI aC.name m i).length aD,.slice G1 (bI av.name B z).length aU,.slice T (l.length+1) c2]:=O.set rfl;have LF:=J.grown.size;refine⟨k+1,T,c2,(l ++ [job]),by omega,by go_num,by rw [P.z]; exact Hs.symm,?_,by simp [World.setCell]; omega,?_,(g.grew J (fun k o=>(C.lt k o).1)).set (by omega),(u.grew J (fun k o=>(C.lt k o).1)).set (by omega),(E.grew J (fun k o=>(C.lt k o).1)).set (by omega),(S.grew J (fun k o=>(C.lt k o).1)).set (by omega),(a0.grew J (fun k o=>(C.lt k o).1)).set (by omega)⟩
                      · rw [aq]; exact AW
                      · rw [aq]; exact bA a6 (by omega)
                     case measure=>simp [intOf]; omega
                   · have I:(G.any fun y=>decide (ak.job y=job))=true:=by rw [<- aK.z,aQ]; rfl
                     have Hs:=ω (ac.z.2 I);have d0:decide ((kk:Int)<0)=false:=fK (by omega);clear I aQ;go_wp2
                     go_roundw
                     case rel=>exact⟨k+1,A,c,l,by omega,by go_num,by rw [P.z]; exact Hs.z.symm,N.z,by omega,C.z,g.z,u.z,E.z,S.z,a0.z⟩
                     case measure=>simp [intOf]; omega
                 · obtain rfl:nl=k:=by omega
                   have a5:l=(bI ak.job H G):=by rw [P.z,filter_all _ (by have:=HA.z.ll; dsimp only at this; omega)]; rfl
                   subst a5;clear P;have bV:=c;obtain⟨G2,b4⟩:∃ s,s=A:=⟨_,rfl⟩;obtain⟨bh,bB⟩:∃ s,s=c:=⟨_,rfl⟩;subst b4;subst bB;have bi:=ω (RowK.of V.z (show w.heap.size+4<=a9.heap.size by omega));have g:=ω (g.more ad);have u:=ω (u.more ad);have E:=ω (E.more ad);have S:=ω (S.more ad);have a0:=ω (a0.more ad);obtain⟨ct,a3⟩:∃ a2,a2=wr:=⟨_,rfl⟩;subst a3;have bv:=am;have be:=e.r;have bZ:=be.lt;obtain⟨bK,bL,bM,bN,bO,bP,bQ,bR⟩:=Blk.c8 (e.d);obtain⟨ci,ck,cm,co,cp,cq,cr,cs⟩:=Blk.z8 (be);obtain⟨ca,cb,cc,cd,ce,cf,cg,ch⟩:=Blk.c8 (be);obtain⟨br,aL⟩:=Blk.S8 (be) (.int .i64 L) (.int .i64 M) (.slice S0 (newL m i).length aj) (.slice S1 (newL B z).length ar) (.slice S2 (newL H G).length a1) (.slice G0 (bI aC.name m i).length aD) (.slice G1 (bI av.name B z).length aU) (.slice G2 (bI ak.job H G).length bh);obtain⟨q0,q1,q2,q3,q4,q5,q6,q7⟩:=Blk.c8 br;have bx:=ω (show CQ ⟨L,m,B,H⟩ ⟨M,i,z,G⟩ w (.returned (.agg #[L,M,.slice S0 (newL m i).length aj,.slice S1 (newL B z).length ar,.slice S2 (newL H G).length a1,.slice G0 (bI aC.name m i).length aD,.slice G1 (bI av.name B z).length aU,.slice G2 (bI ak.job H G).length bh])) _ from ⟨⟨S0,(newL m i).length,aj,S1,(newL B z).length,ar,S2,(newL H G).length,a1,G0,(bI aC.name m i).length,aD,G1,(bI av.name B z).length,aU,G2,(bI ak.job H G).length,bh⟩,rfl,⟨⟨w.heap.size+4,by omega,cu g.z.1 aL (by omega)⟩,⟨w.heap.size+4,by omega,cu u.z.1 aL (by omega)⟩,⟨w.heap.size+4,by omega,cu E.z.1 aL (by omega)⟩,⟨w.heap.size+4,by omega,cu S.z.1 aL (by omega)⟩,⟨w.heap.size+4,by omega,cu a0.z.1 aL (by omega)⟩,⟨w.heap.size+4,by omega,cu bi.z.1 aL (by omega)⟩,rfl,rfl,rfl,rfl,rfl,rfl⟩,cU e.below aL (by omega)⟩);clear be br aL bv am e V yo yd HA HB g u E S a0 bi;go_wp2;refine bodyPost_ret (v:=.agg #[.int .i64 L,.int .i64 M,.slice S0 (newL m i).length aj,.slice S1 (newL B z).length ar,.slice S2 (newL H G).length a1,.slice G0 (bI aC.name m i).length aD,.slice G1 (bI av.name B z).length aU,.slice G2 (bI ak.job H G).length bh]) (by simp [results,Tryz.results58,go_sem, *]) rfl ?_;exact bx
end Go.Proofs.YtimglglgcgpjgaaGreatDoor
