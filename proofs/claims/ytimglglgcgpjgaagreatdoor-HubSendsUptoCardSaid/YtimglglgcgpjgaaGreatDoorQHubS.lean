/- Of the proof of a statement: HubS, HubQ, SendY, RRqD, RRqE, ArgAct. -/
import Derived.Test.YtimglglgcgpjgaaGreatDoorQRHub
set_option linter.unusedVariables false
set_option linter.unusedSimpArgs false
set_option maxRecDepth 100000
set_option maxHeartbeats 8000000
namespace Go.Proofs.YtimglglgcgpjgaaGreatDoor
open Go.RowKit
open Go.ChangeShapes Go.WideShapes Go.ChangeAt Go.RowKit
theorem kT.after {g V:Nat} {fb:Nat->Nat} {wv c:Nat->Value} {H:cL} {r:Value} {w a w':World} {e:Ending} (t:dQ g V fb wv c w a) (h:kT g V fb c H r a e w'):kT g V fb wv H r w e w':=by
 obtain⟨d,wv',x',f,i⟩:=h;exact⟨d,wv',x',f,t.trans i⟩
theorem Ge (tl:ah->List UInt8) (rq:ByteArray->aK × Int) {g V k:Nat} {fb:Nat->Nat} {wv:Nat->Value} {H:cL} {x:StA} {wb:World} (w:World) (f:cM) (p:cJ w g V fb wv H.cs H.st x H.now) (r:k<8) (B:oM wb w g V fb wv)
 (y:f.ver=3->f.kind=3->∀ W,Tabs W->ψ 42 #[f.pay] W (tA (rq f.pay).1 (rq f.pay).2 W)) (C:ROk (rq f.pay).1) (Y:M6 (rq f.pay).1 H.st H.now) (D:((∀ i,i<8->(H.cs i).aG=false)/\¬ oC (rq f.pay).1)\/tV tl) (N:∀ st,(tl st).length<=7000) (s:∀ i,i<8->(H.cs i).waits.length<=35184371000000) :
 ψ 23 #[π g 0,π g (1+k*4),.agg #[(f.ver:Int),(f.kind:Int),f.pay]] w (kT g V fb wv (jy tl rq H k f) (.tuple #[]) w):=by
 obtain⟨j,z,a⟩:=f;dsimp only at y C Y D |-;by_cases Z:j=3/\z=3
 · obtain⟨rfl,rfl⟩:=Z;by_cases l:(rq a).2=0
   · have v:=y rfl rfl;rw [l] at v;have h:jy tl rq H k ⟨3,3,a⟩=lW tl H k (rq a).1:=by unfold jy; rw [if_neg (by simp),if_neg (by simpa using l)]
     rw [h];exact Li tl w a (rq a).1 p r B v C Y D N s
   · have h:jy tl rq H k ⟨3,3,a⟩=jS H k (rq a).2:=by unfold jy; rw [if_neg (by simp),if_pos l]
     rw [h];obtain⟨W,c⟩:∃ W,w.alloc (.cells #[(3:Int),(3:Int),a] 78)=W:=⟨_,rfl⟩;have e:Below w w W:=by rw [<- c]; exact (θ).alloc lJ _
     have d:Blk W w 78 #[(3:Int),(3:Int),a]:=by rw [<- c]; exact n5 w _
     have G:=ω (y rfl rfl W (B.more e).at_);have c0:ζ W w 0 (.int .i64 3):=d.cell 0;have J:ζ W w 1 (.int .i64 3):=d.cell 1;have c2:ζ W w 2 (.string a):=d.cell 2;have ab:=d.lt;obtain⟨q,v⟩:∃ q,(rq a).1=q:=⟨_,rfl⟩;obtain⟨E,K⟩:∃ E,(rq a).2=E:=⟨_,rfl⟩;rw [v,K] at G;rw [K] at l |-;have U:(E != 0)=true:=bne_iff_ne.2 l;have o:=ω c;have T:=ω (p.below e);have n:=ω ((dQ.refl g V fb wv w).below_ e);have Hl:=ω (s k r);clear e d c p B y s D N C v K l h;go_enter Tryz.func23,Tryz.ntmps23
     go_wp2_with fail
     try simp only [o.z]
     clear o;refine G.mono ?_;rintro X R ⟨rfl,L⟩;obtain⟨F,Q⟩:∃ F,R.alloc (.cells (aV q) 87)=F:=⟨_,rfl⟩;have M:Below R R F:=by rw [<- Q]; exact (θ).alloc lJ _
     have m:=ω (xM F ((T.below L).below M) r E (by have:=Hl.z; omega));have S:=ω ((n.below_ L).below_ M);have I:=ω Q;clear Q L M T n G c0 J c2;unfold bP;unfold aV at I |-
     go_wp2_with fail
     simp only [I.z];clear I;refine m.mono ?_;rintro X w4 u;have P:=ω (u.after S.z);obtain⟨rfl,_⟩:=u;clear m S;go_wp2;go_end0;exact P
 · have h:jy tl rq H k ⟨j,z,a⟩=jS H k 1:=by unfold jy; rw [if_pos (by dsimp only; omega)]
   rw [h];obtain⟨W,c⟩:∃ W,w.alloc (.cells #[(j:Int),(z:Int),a] 78)=W:=⟨_,rfl⟩;have e:Below w w W:=by rw [<- c]; exact (θ).alloc lJ _
   have d:Blk W w 78 #[(j:Int),(z:Int),a]:=by rw [<- c]; exact n5 w _
   obtain⟨c0,J⟩:=Blk.c2 (d);have ab:=d.lt;have m:=ω (xM W (p.below e) r 1 (by have:=s k r; omega));have n:=ω ((dQ.refl g V fb wv w).below_ e);have o:=ω c
   have aa:((j:Int) != 3)=true\/(((j:Int) != 3)=false/\((z:Int) != 3)=true):=by
    by_cases hv:j=3
    · subst hv;exact .inr ⟨rfl,bne_iff_ne.2 (by omega)⟩
    · exact .inl (bne_iff_ne.2 (by omega))
   clear e d c p B y s D N C h Z;rcases aa with U | ⟨U,d1⟩
   all_goals
    go_enter Tryz.func23,Tryz.ntmps23
    go_wp2_with fail
    try simp only [o.z]
    clear o;refine m.mono ?_;rintro X w4 u;have P:=ω (u.after n.z);obtain⟨rfl,_⟩:=u;clear m n c0 J;go_wp2;go_end0;exact P
def Nb (tl:ah->List UInt8) (rq:ByteArray->aK × Int) (g V:Nat) (fb:Nat->Nat) (wv:Nat->Value) (k:Nat) (H:cL) (a:List cM) (n:Nat) (w:World) (i:Value) (wr:World):Prop:=
 ∃ m wv' x',m<=n/\i = .int .i64 ((m:Nat):Int)/\cJ wr g V fb wv' (bZ tl rq k H (a.take m)).cs (bZ tl rq k H (a.take m)).st x' (bZ tl rq k H (a.take m)).now/\dQ g V fb wv wv' w wr
def AO (g V:Nat) (fb:Nat->Nat) (wv:Nat->Value) (H:cL) (k:Nat) (w:World) (e:Ending) (w':World):Prop:=
 e = .returned (.tuple #[(BA (H.cs k).waits),(0:Int)])/\∃ wv' x',cJ w' g V fb wv' (mG H k).cs H.st x' H.now/\dQ g V fb wv wv' w w'
theorem cJ.flush {w:World} {g V k:Nat} {fb:Nat->Nat} {wv:Nat->Value} {cs:Nat->bf} {st:ah} {x:StA} {now:Int} (h:cJ w g V fb wv cs st x now) (f:k<8) :
 cJ (sX w g (1+k*4+3) (.slice none 0 0)) g V fb (upd wv k (.slice none 0 0)) (upd cs k (xK (cs k))) st x now/\dQ g V fb wv (upd wv k (.slice none 0 0)) w (sX w g (1+k*4+3) (.slice none 0 0)):=by
 obtain⟨a,d⟩:=h.cell f (j:=1+k*4+3) (u:=.slice none 0 0) (c:=xK (cs k)) (v:=.slice none 0 0) (uI f _ _ rfl rfl) rfl rfl rfl (.inr ⟨rfl,rfl⟩);refine⟨a,d,fun l m=>?_,fun _ _ i=>i.keep (a.srv.blk.trans h.srv.blk.symm) d.size⟩;by_cases e:l=k
 · subst e; rw [bL]; exact .inl rfl
 · rw [upd_ne _ _ e]; exact .inr (.inl rfl)
theorem Nc (e:Nat):(((if e=3 then 0 else e):Nat):Int)=if e=3 then 0 else (e:Int):=by split <;> rfl
theorem Ji (tl:ah->List UInt8) (rq:ByteArray->aK × Int) {g V k:Nat} {fb:Nat->Nat} {wv:Nat->Value} {H:cL} {x:StA} {wb:World} {s:ByteArray} {a:List cM} {m e:Nat} (w:World) (p:ByteArray) (hs:(H.cs k).rest ++ p=s) (hF:Frs s a m e) (I:cJ w g V fb wv H.cs H.st x H.now) (h:k<8) (hI:oM wb w g V fb wv)
 (hc:(H.cs k).closed=false) (aM:(H.cs k).stuck=0) (aN:s.size<=2097152) (Nd:(H.cs k).far<=2097152)
 (aL:∀ f ∈ a,f.ver=3->f.kind=3->∀ ao,Tabs ao->ψ 42 #[f.pay] ao (tA (rq f.pay).1 (rq f.pay).2 ao)) (aJ:∀ f ∈ a,ROk (rq f.pay).1) (aB:∀ n f,a[n]? = some f->M6 (rq f.pay).1 (bZ tl rq k { H with cs:=upd H.cs k (mF (H.cs k) s m e) } (a.take n)).st (bZ tl rq k { H with cs:=upd H.cs k (mF (H.cs k) s m e) } (a.take n)).now) (ht:((∀ i,i<8->(H.cs i).aG=false)/\∀ f ∈ a,¬ oC (rq f.pay).1)\/tV tl) (aO:∀ st,(tl st).length<=7000) (hl:∀ i,i<8->(H.cs i).waits.length<=35000000000000) :
 ψ 7 #[π g 0,(k:Int),p] w (AO g V fb wv (jG tl rq H k s a m e) k w):=by
 have HO:=ω (CM g k w h);have Hh:=ω I;have HI:=ω hI;have HF:=ω hF;have Hs:=ω hs;have aY:=ω aL;have aX:=ω aJ;have aV:=ω aB;have Ht:=ω ht;have am:=ω aO;have Hl:=ω hl;have Hc:=ω hc;have aZ:=ω aM;have aE:a.length<=2097152:=by have:=hF.facts; omega
 have ak:=ω aE;have ba:=ω aN;have BN:=ω Nd;clear I hI hF hs aL aJ aB ht aO hl hc aM aE aN Nd;go_enter Tryz.func7,Tryz.ntmps7
 go_wp2_with fail
 refine HO.mono ?_;rintro T w1 ⟨rfl,ab⟩;have N:=Hh.below ab;have y0:ζ w1 g (1+k*4) (π (fb k) 0):=by rw [N.blk.cell]; exact IB h
 have B:ζ w1 g (1+k*4+1) (.bool false):=by rw [N.blk.cell,kA h,Hc.z]
 have aw:=N.blk.lt;have aC:kB w1 (fb k) (H.cs k).rest ((H.cs k).far:Int) 0:=by have:=N.feed k h; rw [aZ.z] at this; exact this
 have HP:=ω (KR w1 Hs.z HF.z aC ba.z BN.z);have F:=ω N;have aj:=ω ((dQ.refl g V fb wv w).below_ ab);have aS:=ω (HI.more ab);clear N ab HO Hh aC
 go_wp2_with fail
 refine HP.mono ?_;rintro T K ⟨A,n,c,rfl,ax,ae,aF,aD⟩
 obtain⟨Q,ap⟩:=F.pushed h (c:=mF (H.cs k) s m e) aF (by
  show kB K (fb k) _ (((H.cs k).far+m:Nat):Int) (((if e=3 then 0 else e):Nat):Int)
  rw [Nc,Int.natCast_add]; exact aD) rfl rfl rfl
 have a9:=Q.srv.blk.trans F.srv.blk.symm
 obtain⟨W,a4,a5⟩:∃ W,(0<n->A=some ⟨W,0,none⟩/\¬ su g V fb wv W/\W<K.heap.size)/\bC K K 3 A n (au zJ a):=by
  rcases ae.2 with ⟨hv,hn⟩ | ⟨bd,bf,bg,hv,hq,bb,_⟩
  · exact⟨0,fun bn=>by omega,cS ae⟩
  · refine⟨bd,fun _=>⟨by injection hv,fun hS=>?_,(Array.getElem?_eq_some_iff.1 bb).1⟩,cS ae⟩;rcases hS with e | e | ⟨i,S,e | e⟩
    · have:=F.blk.lt; omega
    · have:=F.srv.blk.lt; omega
    · have:=Blk.lt (F.feed i S); omega
    · obtain⟨c',d,_⟩:=(F.wait i S).blk e;have:=d.lt; omega
 obtain⟨j,aq⟩:∃ j:cL,(⟨H.st,H.now,upd H.cs k (mF (H.cs k) s m e)⟩:cL)=j:=⟨_,rfl⟩;have Q:cJ K g V fb wv j.cs j.st x j.now:=by rw [<- aq]; exact Q
 have aQ:=ω Q;have aU:=ω (aj.gr_ ap a9);have aT:=ω (HI.to (aj.gr_ ap a9));have aa:=ω aq;have al:=ω ax;have aR:=ω a4;have a1:=ω a5;have bo:n<=2097152:=by rw [<- ax]; exact ak
 obtain⟨E,J⟩:∃ E:Int,(if e=3 then 0 else (e:Int))=E:=⟨_,rfl⟩;rw [J];have HE:=ω J;have bj:=Q.blk.lt;clear Q ap aF aD ae aq ax a4 a5 J HP F aj aS y0 B aw;go_wp2
 go_loopw [35] (fun i wr=>Nb tl rq g V fb wv k j a n K i wr) (fun i _=>n - (intOf i).toNat)
 case atStart=>exact⟨0,wv,x,Nat.zero_le _,rfl,aQ,dQ.refl _ _ _ _ _⟩
 case round=>
  obtain⟨q,wv',x',hj,rfl,D,R⟩:=hrel;obtain⟨l,ar⟩:∃ l,bZ tl rq k j (a.take q)=l:=⟨_,rfl⟩;rw [ar] at D;have L:=ω ar;clear ar;have B:ζ wr g (1+k*4+1) (.bool (l.cs k).closed):=by rw [D.blk.cell]; exact kA h
  have aw:=D.blk.lt;by_cases hlt:q<n
  · obtain⟨f,Z⟩:∃ f,a[q]? = some f:=⟨_,gO (by rw [al.z]; exact hlt)⟩;have ad:=m8 Z;obtain⟨a3,aI,a6⟩:=aR.z (by omega)
    have a8:bC wr K 3 A n (au zJ a):=⟨a1.len,fun hn=>by
     obtain⟨b,aP,G,hB,hr⟩:=a1.at_ hn;have e2:b=W:=by rw [a3] at G; injection G with G; injection G with G; exact G.symm
     subst e2;exact⟨b,aP,G,hB,fun q be hu=>(World.cell?_of_block (R.gr.block b a6 aI)).trans (hr q be hu)⟩⟩
    obtain⟨b,aP,rfl,bh,o⟩:=a8.eC qP al.z Z;have ay:=qZ (tl:=tl) (rq:=rq) (k:=k) (H:=j) Z;rw [L.z] at ay;have bc:=R.gr.size;obtain⟨u,af⟩:∃ u,wr.alloc (.cells #[(f.ver:Int),(f.kind:Int),f.pay] 78)=u:=⟨_,rfl⟩;have ac:Below wr wr u:=by rw [<- af]; exact (θ).alloc lJ _
    have U:Blk u wr 78 #[(f.ver:Int),(f.kind:Int),f.pay]:=by rw [<- af]; exact n5 wr _
    obtain⟨d0,d1,d2⟩:=rc3 o;have z1:ζ u g (1+k*4+1) (.bool (l.cs k).closed):=by rw [(D.blk.below ac aw).cell]; exact kA h
    have f0:ζ u wr 0 (.int .i64 (f.ver:Int)):=U.cell 0;have f1:ζ u wr 1 (.int .i64 (f.kind:Int)):=U.cell 1;have f2:ζ u wr 2 (.string f.pay):=U.cell 2;have bi:b<wr.heap.size:=by omega
    have bm:=U.lt;have bl:q*3+3<=n*3:=by omega
    have z:=ω (R.below_ ac);have ag:=ω (D.below ac);have rG:=ω (nV (tl:=tl) (rq:=rq) (k:=k) am.z (a.take q) j)
    have ai:=ω (show (l.cs k).closed=false->ψ 23 #[π g 0,π g (1+k*4),.agg #[(f.ver:Int),(f.kind:Int),f.pay]] u (kT g V fb wv' (jy tl rq l k f) (.tuple #[]) u) from fun _=>by
     have P:=rG.z;rw [L.z] at P
     have aA:∀ i,(j.cs i).waits=(H.cs i).waits/\(j.cs i).aG=(H.cs i).aG:=fun i=>by
      rw [<- aa.z]
      show (upd H.cs k _ i).waits=_/\(upd H.cs k _ i).aG=_
      by_cases e:i=k
      · subst e; rw [bL]; exact⟨rfl,rfl⟩
      · rw [upd_ne _ _ e]; exact⟨rfl,rfl⟩
     refine Ge tl rq u f ag.z h (aT.to z.z) (aY.z f ad) (aX.z f ad) (by have d:=aV.z q f Z; rw [show ({ H with cs:=upd H.cs k (mF (H.cs k) s m e) }:cL)=j from aa.z,L.z] at d; exact d) ?_ am.z (fun i S=>?_)
     · rcases Ht.z with ⟨d,r⟩ | d
       · refine .inl ⟨fun i S=>?_,r f ad⟩;rw [P.2 (fun g hg=>r g (List.mem_of_mem_take hg)) i,(aA i).2];exact d i S
       · exact .inr d
     · have d:=P.1 i;have r:=Hl.z i S;rw [(aA i).1,List.length_take] at d;have h5:=ak.z;have h6:min q a.length*21000<=2097152*21000:=Nat.mul_le_mul_right _ (by omega);omega)
    have M:=ω ay;have a2:=ω af;clear D R a8 o ay ac U af Z ad rG a3 aI a6 bc;cases o:(l.cs k).closed
    · have a0:=ω (ai.z o);rw [o] at B z1 M;rw [if_neg (by decide)] at M;clear ai o
      go_wp2_with fail
      try simp only [a2.z]
      refine a0.mono ?_;rintro T w4 hp;obtain⟨rfl,az,x4,r,t4⟩:=hp;rw [<- M.z] at r;have H4:=ω r;have T4:=ω (z.trans t4);clear r t4 a0 d0 d1 d2 f0 f1 f2 B z1;go_wp2
      go_roundw
      case rel=>exact⟨q+1,az,x4,by omega,by go_num,H4.z,T4.z⟩
      case measure=>simp [intOf]; omega
    · rw [o] at B z1 M;rw [if_pos rfl] at M;have H4:=ω (show cJ u g V fb wv' (bZ tl rq k j (a.take (q+1))).cs (bZ tl rq k j (a.take (q+1))).st x' (bZ tl rq k j (a.take (q+1))).now from by rw [M.z]; exact ag);clear ai o ag;go_wp2
      try simp only [a2.z]
      go_roundw
      case rel=>exact⟨q+1,wv',x',by omega,by go_num,H4.z,z.z⟩
      case measure=>simp [intOf]; omega
  · obtain rfl:q=n:=by omega
    rw [List.take_of_length_le (by rw [al.z]; omega)] at L
    have a7:jG tl rq H k s a m e=if e≠3/\(l.cs k).closed=false then jS l k e else l:=by
     unfold jG;rw [show ({ H with cs:=upd H.cs k (mF (H.cs k) s m e) }:cL)=j from aa.z,L.z]
    have y:=ω a7;have v:=ω D;have Y:=ω (aU.trans R);have rG:=ω (nV (tl:=tl) (rq:=rq) (k:=k) am.z a j)
    have aH:(l.cs k).waits.length<=35184372088832:=by
     have P:=rG.z.1 k;rw [L.z] at P;have d:(j.cs k).waits=(H.cs k).waits:=by rw [<- aa.z]; show (upd H.cs k _ k).waits=_; rw [bL]; rfl
     have r:=Hl.z k h;have h5:=ak.z;rw [d] at P;have h6:a.length*21000<=2097152*21000:=Nat.mul_le_mul_right _ h5;omega
    have aW:=ω aH;have av:e≠0:=HF.facts.2.1;clear D R rG aH a7;by_cases d:e=3
    · have J:E=0:=by rw [<- HE.z,if_pos d]
      subst J;have y:=ω (show jG tl rq H k s a m e=l from by rw [y.z,if_neg (fun I=>I.1 d)]);clear d av B;have X:=ω (tT g (1+k*4) 60 _ (wv' k) (l.cs k).waits wr v.blk (jv h) (v.wait k h));have C:=ω (v.flush h);have z:=ω (Y.trans C.z.2)
      go_wp2_with fail
      refine X.mono ?_;rintro T w5 ⟨rfl,rfl⟩;go_wp2;go_ret2;rw [y.z];exact⟨rfl,_,_,C.z.1,z⟩
    · have J:E=(e:Int):=by rw [<- HE.z,if_neg d]
      subst J;have d1:((e:Int) != 0)=true:=bne_iff_ne.2 (by omega);cases o:(l.cs k).closed
      · have y:=ω (show jG tl rq H k s a m e=jS l k e from by rw [y.z,if_pos ⟨d,o⟩]);have HC:=ω (xM wr v.z h (e:Int) aW.z);rw [o] at B;clear d av o
        go_wp2_with fail
        refine HC.mono ?_;rintro T w4 ⟨rfl,az,x4,r,t4⟩;have v:=ω r;have Y:=ω (Y.trans t4);have bk:=r.blk.lt;clear r t4 HC B;have X:=ω (tT g (1+k*4) 60 _ (az k) ((jS l k e).cs k).waits w4 v.blk (jv h) (v.wait k h));have C:=ω (v.flush h);have z:=ω (Y.trans C.z.2)
        go_wp2_with fail
        refine X.mono ?_;rintro T w5 ⟨rfl,rfl⟩;go_wp2;go_ret2;rw [y.z];exact⟨rfl,_,_,C.z.1,z⟩
      · have y:=ω (show jG tl rq H k s a m e=l from by rw [y.z,if_neg (fun I=>by rw [o] at I; exact absurd I.2 (by decide))]);rw [o] at B;clear d av o;have X:=ω (tT g (1+k*4) 60 _ (wv' k) (l.cs k).waits wr v.blk (jv h) (v.wait k h));have C:=ω (v.flush h);have z:=ω (Y.trans C.z.2)
        go_wp2_with fail
        refine X.mono ?_;rintro T w5 ⟨rfl,rfl⟩;go_wp2;go_ret2;rw [y.z];exact⟨rfl,_,_,C.z.1,z⟩
def Jj (a:oo):List Value:=[.int .i64 a.conn,.string a.text]
theorem tB (a:oo):(Jj a).length=2:=rfl
section
variable {w0 w w':World} {g V b:Nat} {fb:Nat->Nat} {wv wv':Nat->Value} {H H':cL} {O:Nat->List UInt8} {x x':StA}
end
theorem Ne (l:List UInt8) (t:ByteArray):BA l ++ t=BA (l ++ t.data.toList):=ByteArray.ext (by rw [ByteArray.data_append]; simp [BA])
theorem rok0:ROk gH:=⟨by decide,by decide,by decide,by decide,by decide,by decide,by decide⟩
theorem AP (b:ByteArray) (c:b.size<=9223372036854775807):ROk (rqF b).1:=by
 rcases Af b c with ⟨x,_,_,h⟩ | ⟨q,s,a,_,h⟩
 · rw [h]; exact rok0
 · rw [h]
   split
   · exact zQ a
   · exact rok0
theorem Ez {g V k:Nat} {fb:Nat->Nat} {wv:Nat->Value} {cs:Nat->bf} {st:ah} {x:StA} {now:Int} (w:World) (p:ByteArray) (i:cJ w g V fb wv cs st x now) (l:k<8) (j:(cs k).closed=true) :
 ψ 7 #[π g 0,(k:Int),p] w fun n w'=>n = .returned (.tuple #[.string ⟨#[]⟩,(6:Int)])/\Below w w w':=by
 have d:=ω (CM g k w l);have h:=ω i;have e:=ω j;clear i j;go_enter Tryz.func7,Tryz.ntmps7
 go_wp2_with fail
 refine d.mono ?_;rintro r o ⟨rfl,c⟩;have a:=h.below c;have s:ζ o g (1+k*4+1) (.bool true):=by rw [a.blk.cell,kA l,e.z]
 have q:=a.blk.lt;have m:=ω c;clear a c d h e;go_wp2;go_ret2;exact⟨rfl,m⟩
theorem Jk (g:Nat) (k:Int) (w:World) (p:ByteArray) (d:k<0\/7<k) :
 ψ 7 #[π g 0,k,p] w fun h w'=>h = .returned (.tuple #[.string ⟨#[]⟩,(1:Int)])/\Below w w w':=by
 have a:=ω (CN g k w d);clear d;go_enter Tryz.func7,Tryz.ntmps7
 go_wp2_with fail
 refine a.mono ?_;rintro j i ⟨rfl,c⟩;have e:=ω c;clear c a;go_wp2;go_ret2;exact⟨rfl,e⟩
theorem Nf {g V k:Nat} {fb:Nat->Nat} {wv:Nat->Value} {H:cL} {x:StA} (w:World) (l:cJ w g V fb wv H.cs H.st x H.now) (a:k<8) :
 ψ 12 #[π g 0,(k:Int)] w (AO g V fb wv H k w):=by
 have e:=ω (CM g k w a);have j:=ω l;clear l;go_enter Tryz.func12,Tryz.ntmps12
 go_wp2_with fail
 refine e.mono ?_;rintro p o ⟨rfl,d⟩;have c:=ω (j.below d);have h:=ω ((dQ.refl g V fb wv w).below_ d);have m:=ω (tT g (1+k*4) 60 _ (wv k) (H.cs k).waits o c.blk (jv a) (c.wait k a));have i:=ω (c.flush a);have n:=ω (h.trans i.z.2);clear d e j h
 go_wp2_with fail
 refine m.mono ?_;rintro p q ⟨rfl,rfl⟩;go_wp2;go_ret2;exact⟨rfl,_,_,i.z.1,n⟩
def SendY (g V:Nat) (fb:Nat->Nat) (wv:Nat->Value) (H:cL) (a:oo) (w:World) (e:Ending) (w':World):Prop:=
 e = .returned (.tuple #[.string (tC tlW rqF H a).1,.int .i64 (tC tlW rqF H a).2])/\∃ (wv':Nat->Value) (x':StA),cJ w' g V fb wv' (pU tlW rqF H a).cs (pU tlW rqF H a).st x' (pU tlW rqF H a).now/\dQ g V fb wv wv' w w'
theorem OP {g V:Nat} {fb:Nat->Nat} {wv:Nat->Value} {x:StA} {E:World} {b n:Nat} {H:cL} (w:World) (G:mY b n H) {a:oo} (e:b+a.text.size<=1048576) (B:n<=1048576) (h:cJ w g V fb wv H.cs H.st x H.now) (y:oM E w g V fb wv) :
 ψ 7 #[π g 0,a.conn,a.text] w (SendY g V fb wv H a w):=by
 unfold SendY;by_cases j:0<=a.conn/\a.conn<=7
 · obtain⟨k,t⟩:∃ k:Nat,a.conn=k:=⟨a.conn.toNat,by omega⟩;have r:k<8:=by omega
   have m:a.conn.toNat=k:=by omega
   cases c:(H.cs k).closed with
   | false=>
    obtain⟨D,I⟩:=G.op k c;obtain⟨s,p⟩:∃ s,(H.cs k).rest ++ a.text=s:=⟨_,rfl⟩;have F:s.size=(H.cs k).rest.size+a.text.size:=by rw [<- p,ByteArray.size_append]
    have u:zi tlW rqF H k a.text=jG tlW rqF H k s (jM s).1 (jM s).2.1 (jM s).2.2:=by unfold zi; rw [p]
    have l:pU tlW rqF H a=mG (jG tlW rqF H k s (jM s).1 (jM s).2.1 (jM s).2.2) k:=by
     unfold pU;rw [m,if_pos ⟨j,c⟩,u]
    have i:tC tlW rqF H a=(BA ((jG tlW rqF H k s (jM s).1 (jM s).2.1 (jM s).2.2).cs k).waits,0):=by
     unfold tC;rw [m,if_pos j,if_pos c,u]
    have q:=yj s;have o:∀ f ∈ (jM s).1,f.pay.size<=9223372036854775807:=fun f d=>v6 (q.pays f d) (by omega);rw [l,i,t];exact Ji tlW rqF w a.text p q h r y c D (by omega) (by omega) (fun f d _ _ W z=>Gf f.pay W (o f d) z) (fun f d=>AP _ (o f d)) (fun n f d=>Ld (AP _ (o f (m8 d))) _ _) (.inr Kj) zP fun C _=>G.len (by omega) B C
   | true=>
    have l:pU tlW rqF H a=H:=by
     unfold pU;rw [m,if_neg (fun h=>by rw [h.2] at c; cases c)]
    have i:tC tlW rqF H a=(⟨#[]⟩,6):=by
     unfold tC;rw [m,if_pos j,if_neg (by rw [c]; decide)]
    rw [l,i,t];refine (Ez w a.text h r c).mono ?_;rintro v w' ⟨rfl,e⟩;exact⟨rfl,wv,x,h.below e,(dQ.refl g V fb wv w).below_ e⟩
 · have l:pU tlW rqF H a=H:=by
    unfold pU;rw [if_neg (fun h=>j h.1)]
   have i:tC tlW rqF H a=(⟨#[]⟩,1):=by
    unfold tC;rw [if_neg j]
   rw [l,i];refine (Jk g a.conn w a.text (by omega)).mono ?_;rintro v w' ⟨rfl,e⟩;exact⟨rfl,wv,x,h.below e,(dQ.refl g V fb wv w).below_ e⟩
def gK (g S:Nat) (b:ByteArray) (w:World) (e:Ending) (w':World):Prop:=
 TwoW w w' g S/\(match (rqP b).st with | .ok _ s=>e = .returned (.tuple #[])/\lq w' g s | .bad x=>e=thrown x) /\
  ∃ q,Blk w' S 87 (aV q)/\∀ a t,rqP b = .ok a t->q=a
theorem gK.bad {g S x:Nat} {b:ByteArray} {w w':World} (h:rqP b = .bad x) (c:TwoW w w' g S) (q:aK) (d:Blk w' S 87 (aV q)):gK g S b w (thrown x) w':=⟨c,by rw [h]; rfl,q,d,fun e t a=>by rw [h] at a; cases a⟩
theorem gK.ok {g S:Nat} {b s:ByteArray} {q:aK} {w w':World} (h:rqP b = .ok q s) (c:TwoW w w' g S) (e:lq w' g s) (d:Blk w' S 87 (aV q)):gK g S b w (.returned (.tuple #[])) w':=⟨c,by rw [h]; exact⟨rfl,e⟩,q,d,fun f t a=>by rw [h] at a; injection a⟩
theorem Lk (g S:Nat) (b:ByteArray) (w:World) (hx:lq w g b) (hS:Blk w S 87 (aV gH)) (ae:S<g) :
 ψ 49 #[π g 0,π S 0] w (gK g S b w):=by
 have H1:=ω (Ch g b w hx);have HS:=ω hS;clear hx hS;go_enter Tryz.func49,Tryz.ntmps49
 go_wp2_with fail
 refine H1.mono ?_;rintro v G ⟨h,c⟩;have N:=ay h HS.z (by omega);have T1:=ω ((TwoW.refl w g S).fst h)
 cases hn:dI b with
 | bad x=>
  rw [hn] at c;have c:v=thrown x:=c;subst c;have j:=ω (gK.bad (show rqP b = .bad x by unfold rqP; rw [hn]; rfl) T1.z gH N);clear h hn N;unfold thrown;go_wp2;exact⟨rfl,j⟩
 | ok k s=>
  rw [hn] at c;obtain⟨rfl,ad⟩:=c;have af:=N.lt;have E:=N.thaw 0;have C:=(show _=(some (.int .i64 0):Option Value) from N.cell 0);obtain⟨p,aa⟩:∃ p,G.setCell ⟨S,0,none⟩ (.int .i64 (k:Int))=p:=⟨_,rfl⟩;have z:lq p g s:=by rw [<- aa]; exact ad.grow (aR G S 0 (.int .i64 (k:Int))) (by omega)
  have ab:Blk p S 87 (aV ⟨k,bJ,aU,aN,⟨#[]⟩,0⟩):=by rw [<- aa]; exact Blk.eq (N.set 0 (.int .i64 (k:Int))) rfl
  have L:=ω (show TwoW w p g S by rw [<- aa]; exact T1.snd (aR G S 0 (.int .i64 (k:Int))));have D:ζ p S 0 (.int .i64 (k:Int)):=ab.cell 0;have ag:=ab.lt;have B:=ω (show rqP b=jH k s by unfold rqP; rw [hn]; rfl);have I:=ω aa;have K:=ω ab;clear h hn N ad aa ab H1 T1 HS;by_cases M:k=1
  · have F:=ω (Ci.1 g s 3 p (by decide) (by decide) z);have q:=ω (show jH k s=(pD 3 s).bind fun i t=>.ok ⟨k,i,aU,aN,⟨#[]⟩,0⟩ t by unfold jH; rw [ if_pos M]);have T:((k:Int) == 1)=true:=by rw [beq_iff_eq]; omega
    have U:((k:Int) == 2)=false:=eY (by omega);have W:((k:Int) == 3)=false:=eY (by omega);have X:((k:Int) == 4)=false:=eY (by omega);have e5:((k:Int) == 5)=false:=eY (by omega);have Y:((k:Int) == 6)=false:=eY (by omega);have e7:((k:Int) == 7)=false:=eY (by omega);have Z:((k:Int) == 8)=false:=eY (by omega);have e9:((k:Int) == 9)=false:=eY (by omega);have J:=ω (show G.setCell ⟨S,0,none⟩ (.int .i64 1)=p from by rw [<- show (k:Int)=1 by omega]; exact I);clear z
    go_wp2_with fail
    rw [J.z];refine F.mono ?_;rintro v e ⟨h,c⟩;have a:=ay h K.z (by omega);have u:=ω (L.fst h)
    cases d:pD 3 s with
    | bad x=>
     rw [d] at c;have c:v=thrown x:=c;subst c;have j:=ω (gK.bad (show rqP b = .bad x by rw [B.z,q.z,d]; rfl) u.z _ a);clear h d a D C E;unfold thrown;go_wp2;exact⟨rfl,j⟩
    | ok i t=>
     rw [d] at c;obtain⟨l,m,n,P,Q⟩:=i;have c:v = .returned (.agg #[l,m,n,P,Q])/\lq e g t:=c;obtain⟨rfl,y⟩:=c;have Lm:=a.lt;have r:=ω (show Blk (sX (sX (sX (sX (sX e S 1 (.string l)) S 2 (.int .i64 m)) S 3 (.int .i64 n)) S 4 (.int .i64 P)) S 5 (.string Q)) S 87 (aV ⟨k,⟨l,m,n,P,Q⟩,aU,aN,⟨#[]⟩,0⟩) from Blk.eq (((((a.set 1 (.string l)).set 2 (.int .i64 m)).set 3 (.int .i64 n)).set 4 (.int .i64 P)).set 5 (.string Q)) rfl);have o:=aJ (aJ (aJ (aJ (aJ (bO e S) 1 (.string l)) 2 (.int .i64 m)) 3 (.int .i64 n)) 4 (.int .i64 P)) 5 (.string Q);have j:=ω (gK.ok (show rqP b = .ok ⟨k,⟨l,m,n,P,Q⟩,aU,aN,⟨#[]⟩,0⟩ t by rw [B.z,q.z,d]; rfl) (u.snd o) (y.grow o (by omega)) r.z);have u0:=a.thaw 1;have f0:ζ e S 1 (.string ⟨#[]⟩):=a.cell 1;have u1:=a.thaw 2;have f1:ζ e S 2 (.int .i64 0):=a.cell 2;have u2:=a.thaw 3;have f2:ζ e S 3 (.int .i64 0):=a.cell 3;have u3:=a.thaw 4;have f3:ζ e S 4 (.int .i64 0):=a.cell 4;have u4:=a.thaw 5;have f4:ζ e S 5 (.string ⟨#[]⟩):=a.cell 5;clear h d a y o r D C E;go_wp2;go_end0;exact j
  by_cases c2:k=2
  · have F:=ω (Ci.2 g s 3 p (by decide) z);have q:=ω (show jH k s=(lH 3 s).bind fun i t=>.ok ⟨k,bJ,i,aN,⟨#[]⟩,0⟩ t by unfold jH; rw [if_neg M,if_pos c2]);have T:((k:Int) == 1)=false:=eY (by omega);have U:((k:Int) == 2)=true:=by rw [beq_iff_eq]; omega
    have W:((k:Int) == 3)=false:=eY (by omega);have X:((k:Int) == 4)=false:=eY (by omega);have e5:((k:Int) == 5)=false:=eY (by omega);have Y:((k:Int) == 6)=false:=eY (by omega);have e7:((k:Int) == 7)=false:=eY (by omega);have Z:((k:Int) == 8)=false:=eY (by omega);have e9:((k:Int) == 9)=false:=eY (by omega);have J:=ω (show G.setCell ⟨S,0,none⟩ (.int .i64 2)=p from by rw [<- show (k:Int)=2 by omega]; exact I);clear z
    go_wp2_with fail
    rw [J.z];refine F.mono ?_;rintro v e ⟨h,c⟩;have a:=ay h K.z (by omega);have u:=ω (L.fst h)
    cases d:lH 3 s with
    | bad x=>
     rw [d] at c;have c:v=thrown x:=c;subst c;have j:=ω (gK.bad (show rqP b = .bad x by rw [B.z,q.z,d]; rfl) u.z _ a);clear h d a D C E;unfold thrown;go_wp2;exact⟨rfl,j⟩
    | ok i t=>
     rw [d] at c;obtain⟨l,m,n⟩:=i;have c:v = .returned (.agg #[l,m,n])/\lq e g t:=c;obtain⟨rfl,y⟩:=c;have Lm:=a.lt;have r:=ω (show Blk (sX (sX (sX e S 6 (.string l)) S 7 (.int .i64 m)) S 8 (.string n)) S 87 (aV ⟨k,bJ,⟨l,m,n⟩,aN,⟨#[]⟩,0⟩) from Blk.eq (((a.set 6 (.string l)).set 7 (.int .i64 m)).set 8 (.string n)) rfl);have o:=aJ (aJ (aJ (bO e S) 6 (.string l)) 7 (.int .i64 m)) 8 (.string n);have j:=ω (gK.ok (show rqP b = .ok ⟨k,bJ,⟨l,m,n⟩,aN,⟨#[]⟩,0⟩ t by rw [B.z,q.z,d]; rfl) (u.snd o) (y.grow o (by omega)) r.z);have u0:=a.thaw 6;have f0:ζ e S 6 (.string ⟨#[]⟩):=a.cell 6;have u1:=a.thaw 7;have f1:ζ e S 7 (.int .i64 0):=a.cell 7;have u2:=a.thaw 8;have f2:ζ e S 8 (.string ⟨#[]⟩):=a.cell 8;clear h d a y o r D C E;go_wp2;go_end0;exact j
  by_cases R:k=3\/k=4\/k=6
  · have F:=ω (yt g s p z);have q:=ω (show jH k s=(cF s).bind fun i t=>.ok ⟨k,bJ,aU,aN,i,0⟩ t by unfold jH; rw [if_neg M,if_neg c2,if_pos R]);obtain⟨t3,t4,t6,W,X,Y,ht⟩:∃ t3 t4 t6:Bool,((k:Int) == 3)=t3/\((k:Int) == 4)=t4/\((k:Int) == 6)=t6/\(t3=true\/t3=false/\t4=true\/t3=false/\t4=false/\t6=true):=⟨_,_,_,rfl,rfl,rfl,by rcases R with ac | ac | ac <;> subst ac <;> decide⟩;have T:((k:Int) == 1)=false:=eY (by omega);have U:((k:Int) == 2)=false:=eY (by omega);rcases ht with rfl | ⟨rfl,rfl⟩ | ⟨rfl,rfl,rfl⟩
    all_goals
     clear z
     go_wp2_with fail
     try rw [I.z]
     refine F.mono ?_;rintro v e ⟨h,c⟩;have a:=ay h K.z (by omega);have u:=ω (L.fst h)
     cases d:cF s with
     | bad x=>
      rw [d] at c;have c:v=thrown x:=c;subst c;have j:=ω (gK.bad (show rqP b = .bad x by rw [B.z,q.z,d]; rfl) u.z _ a);clear h d a D C E;unfold thrown;go_wp2;exact⟨rfl,j⟩
     | ok i t=>
      rw [d] at c;obtain⟨rfl,y⟩:=c;have Lm:=a.lt;have r:=ω (show Blk (sX e S 12 (.string i)) S 87 (aV ⟨k,bJ,aU,aN,i,0⟩) from Blk.eq (a.set 12 (.string i)) rfl);have o:=aJ (bO e S) 12 (.string i);have j:=ω (gK.ok (show rqP b = .ok ⟨k,bJ,aU,aN,i,0⟩ t by rw [B.z,q.z,d]; rfl) (u.snd o) (y.grow o (by omega)) r.z);have u0:=a.thaw 12;have f0:ζ e S 12 (.string ⟨#[]⟩):=a.cell 12;clear h d a y o r D C E;go_wp2;go_end0;exact j
  by_cases c5:k=5
  · have F:=ω (Ng g s p z);have q:=ω (show jH k s=(iC s).bind fun i t=>.ok ⟨k,bJ,aU,i,⟨#[]⟩,0⟩ t by unfold jH; rw [if_neg M,if_neg c2,if_neg R,if_pos c5]);have T:((k:Int) == 1)=false:=eY (by omega);have U:((k:Int) == 2)=false:=eY (by omega);have W:((k:Int) == 3)=false:=eY (by omega);have X:((k:Int) == 4)=false:=eY (by omega);have e5:((k:Int) == 5)=true:=by rw [beq_iff_eq]; omega
    have Y:((k:Int) == 6)=false:=eY (by omega);have e7:((k:Int) == 7)=false:=eY (by omega);have Z:((k:Int) == 8)=false:=eY (by omega);have e9:((k:Int) == 9)=false:=eY (by omega);have J:=ω (show G.setCell ⟨S,0,none⟩ (.int .i64 5)=p from by rw [<- show (k:Int)=5 by omega]; exact I);clear z
    go_wp2_with fail
    rw [J.z];refine F.mono ?_;rintro v e ⟨h,c⟩;have a:=ay h K.z (by omega);have u:=ω (L.fst h)
    cases d:iC s with
    | bad x=>
     rw [d] at c;have c:v=thrown x:=c;subst c;have j:=ω (gK.bad (show rqP b = .bad x by rw [B.z,q.z,d]; rfl) u.z _ a);clear h d a D C E;unfold thrown;go_wp2;exact⟨rfl,j⟩
    | ok i t=>
     rw [d] at c;obtain⟨l,m,n⟩:=i;have c:v = .returned (.agg #[l,m,n])/\lq e g t:=c;obtain⟨rfl,y⟩:=c;have Lm:=a.lt;have r:=ω (show Blk (sX (sX (sX e S 9 (.string l)) S 10 (.string m)) S 11 (.int .i64 n)) S 87 (aV ⟨k,bJ,aU,⟨l,m,n⟩,⟨#[]⟩,0⟩) from Blk.eq (((a.set 9 (.string l)).set 10 (.string m)).set 11 (.int .i64 n)) rfl);have o:=aJ (aJ (aJ (bO e S) 9 (.string l)) 10 (.string m)) 11 (.int .i64 n);have j:=ω (gK.ok (show rqP b = .ok ⟨k,bJ,aU,⟨l,m,n⟩,⟨#[]⟩,0⟩ t by rw [B.z,q.z,d]; rfl) (u.snd o) (y.grow o (by omega)) r.z);have u0:=a.thaw 9;have f0:ζ e S 9 (.string ⟨#[]⟩):=a.cell 9;have u1:=a.thaw 10;have f1:ζ e S 10 (.string ⟨#[]⟩):=a.cell 10;have u2:=a.thaw 11;have f2:ζ e S 11 (.int .i64 0):=a.cell 11;clear h d a y o r D C E;go_wp2;go_end0;exact j
  by_cases c7:k=7
  · have F:=ω (Ch g s p z);have q:=ω (show jH k s=(dI s).bind fun i t=>.ok ⟨k,bJ,aU,aN,⟨#[]⟩,i⟩ t by unfold jH; rw [if_neg M,if_neg c2,if_neg R,if_neg c5,if_pos c7]);have T:((k:Int) == 1)=false:=eY (by omega);have U:((k:Int) == 2)=false:=eY (by omega);have W:((k:Int) == 3)=false:=eY (by omega);have X:((k:Int) == 4)=false:=eY (by omega);have e5:((k:Int) == 5)=false:=eY (by omega);have Y:((k:Int) == 6)=false:=eY (by omega);have e7:((k:Int) == 7)=true:=by rw [beq_iff_eq]; omega
    have Z:((k:Int) == 8)=false:=eY (by omega);have e9:((k:Int) == 9)=false:=eY (by omega);have J:=ω (show G.setCell ⟨S,0,none⟩ (.int .i64 7)=p from by rw [<- show (k:Int)=7 by omega]; exact I);clear z
    go_wp2_with fail
    rw [J.z];refine F.mono ?_;rintro v e ⟨h,c⟩;have a:=ay h K.z (by omega);have u:=ω (L.fst h)
    cases d:dI s with
    | bad x=>
     rw [d] at c;have c:v=thrown x:=c;subst c;have j:=ω (gK.bad (show rqP b = .bad x by rw [B.z,q.z,d]; rfl) u.z _ a);clear h d a D C E;unfold thrown;go_wp2;exact⟨rfl,j⟩
    | ok i t=>
     rw [d] at c;obtain⟨rfl,y⟩:=c;have Lm:=a.lt;have r:=ω (show Blk (sX e S 13 (.int .i64 (i:Int))) S 87 (aV ⟨k,bJ,aU,aN,⟨#[]⟩,i⟩) from Blk.eq (a.set 13 (.int .i64 (i:Int))) rfl);have o:=aJ (bO e S) 13 (.int .i64 (i:Int));have j:=ω (gK.ok (show rqP b = .ok ⟨k,bJ,aU,aN,⟨#[]⟩,i⟩ t by rw [B.z,q.z,d]; rfl) (u.snd o) (y.grow o (by omega)) r.z);have u0:=a.thaw 13;have f0:ζ e S 13 (.int .i64 0):=a.cell 13;clear h d a y o r D C E;go_wp2;go_end0;exact j
  by_cases c8:k=8\/k=9
  · have j:=ω (gK.ok (show rqP b = .ok ⟨k,bJ,aU,aN,⟨#[]⟩,0⟩ s by rw [B.z]; unfold jH; rw [if_neg M,if_neg c2,if_neg R,if_neg c5,if_neg c7,if_pos c8]) L.z z K.z);have T:((k:Int) == 1)=false:=eY (by omega);have U:((k:Int) == 2)=false:=eY (by omega);have W:((k:Int) == 3)=false:=eY (by omega);have X:((k:Int) == 4)=false:=eY (by omega);have e5:((k:Int) == 5)=false:=eY (by omega);have Y:((k:Int) == 6)=false:=eY (by omega);have e7:((k:Int) == 7)=false:=eY (by omega);clear z;rcases c8 with c8 | c8
    · have Z:((k:Int) == 8)=true:=by rw [beq_iff_eq]; omega
      go_wp2;go_end0;rw [show G.setCell ⟨S,0,none⟩ (.int .i64 8)=p from by rw [<- show (k:Int)=8 by omega]; exact I.z];exact j
    · have Z:((k:Int) == 8)=false:=eY (by omega);have e9:((k:Int) == 9)=true:=by rw [beq_iff_eq]; omega
      go_wp2;go_end0;rw [show G.setCell ⟨S,0,none⟩ (.int .i64 9)=p from by rw [<- show (k:Int)=9 by omega]; exact I.z];exact j
  have j:=ω (gK.bad (show rqP b = .bad 1 by rw [B.z]; unfold jH; rw [if_neg M,if_neg c2,if_neg R,if_neg c5,if_neg c7,if_neg c8]) L.z _ K.z);have T:((k:Int) == 1)=false:=eY (by omega);have U:((k:Int) == 2)=false:=eY (by omega);have W:((k:Int) == 3)=false:=eY (by omega);have X:((k:Int) == 4)=false:=eY (by omega);have e5:((k:Int) == 5)=false:=eY (by omega);have Y:((k:Int) == 6)=false:=eY (by omega);have e7:((k:Int) == 7)=false:=eY (by omega);have Z:((k:Int) == 8)=false:=eY (by omega);have e9:((k:Int) == 9)=false:=eY (by omega);clear z;go_wp2
  try rw [I.z]
  exact⟨rfl,j⟩
def Nh (b:ByteArray) (w0:World) (R S:Nat) (W:World):Prop:=
 Below w0 w0 W/\Blk W R 87 (aV gH)/\∃ q,Blk W S 87 (aV q)/\∀ a t,rqP b = .ok a t->q=a
theorem Nh.grow {b:ByteArray} {w0 W d:World} {R S E:Nat} (j:Nh b w0 R S W) (a:W.grownBy d (some E)) (n:w0.heap.size<=E) (l:R≠E) (m:S≠E):Nh b w0 R S d:=by
 obtain⟨c,f,q,h,i⟩:=j;exact⟨⟨a.os.trans c.os,a.tape.trans c.tape,a.output.trans c.output,v6 c.size a.size,fun k e=>(a.block k (u7 e c.size) (by simp; omega)).trans (c.block k e)⟩,ay a f l,q,ay a h m,i⟩
theorem Gh (b:ByteArray) (w:World) (hb:b.size<=9223372036854775807):ψ 27 #[b] w (tA (rqF b).1 (rqF b).2 w):=by
 have a0:=Af b hb;have ap:Below w w (χ w (aV gH) 87):=(θ).alloc lJ _;have ad:=ap.alloc ap.size (.cells (aV gH) 87);have hR:Blk ((w.alloc (.cells (aV gH) 87)).alloc (.cells (aV gH) 87)) w 87 (aV gH):=Blk.alloc (show Blk _ _ _ _ from n5 w _) _
 have hS:Blk ((w.alloc (.cells (aV gH) 87)).alloc (.cells (aV gH) 87)) (w.heap.size+1) 87 (aV gH):=by
  have r:=n5 (χ w (aV gH) 87) (.cells (aV gH) 87);rwa [show (w.alloc (.cells (aV gH) 87)).heap.size=w.heap.size+1 by simp] at r
 obtain⟨k,ac⟩:∃ k,k=(w.alloc (.cells (aV gH) 87)).alloc (.cells (aV gH) 87):=⟨_,rfl⟩;have a7:k.heap.size=w.heap.size+2:=by rw [ac]; simp
 rw [<- ac] at ad hR hS
 have ay:=readAll 49 #[π (w.heap.size+1) 0] b k hb (Go.Proofs.enters_of Tryz.func49 (by kernel_rfl) rfl) (rqP b).st (Nh b w w (w.heap.size+1))
  (fun aj aB r=>r.grow (aR _ _ _ _) (by omega) (by omega) (by omega)) (fun aj W' r _ hg=>r.grow hg (by omega) (by omega) (by omega))
  (fun aj c hz hx=>by
   have h2:=hS.below c (by omega);have h3:=hR.below c (by omega);refine Calls.mono (Lk (k.heap.size+1) (w.heap.size+1) b aj hx h2 (by omega)) ?_;rintro aw W' ⟨hT,hp,hk⟩;exact⟨hp,hT.block k (by omega) (by omega) (by omega),hT.below (ad.trans (c.mono ad.size)) (by omega) (by omega),(hT.block w (by omega) (by omega) (by omega)).trans h3,hk⟩)
 have au:=ω ay;have ai:=ω a0;have ah:=ω ac;clear ap ad hR hS ac a7 hb a0 ay;unfold aV gH bJ aU aN at ah;go_enter Tryz.func27,Tryz.ntmps27;have a9:∀ (fn:Fn) (first av:Array Value) (w:World),(Instr.makeFunc fn first av).run Tryz.prog w = .ok (.func fn first av) w:=fun _ _ _ _=>rfl
 go_wp2_with fail
 rw [<- ah.z];refine au.mono ?_;rintro aw m ⟨rfl,az,ax,q,y,aq⟩;have i:=ω ax;have ag:=ω y;have aa:=ω az;have a1:=y.lt;clear au ah az ax;rcases ai.z with ⟨x,aA,u,l⟩ | ⟨q',a8,hq,u,l⟩
 · rw [u];have j:=ω l;have e1:((x:Int) == 0)=false:=beq_eq_false_iff_ne.2 (by omega);have e2:((x:Int) != 0)=true:=bne_iff_ne.2 (by omega);clear l u ai aq y ag;obtain⟨B,C,J,K,r4,r5,L,M,N,P,D,F,G,I⟩:=Blk.c14 (show Blk m (w.heap.size) _ #[(0:Int),.string ⟨#[]⟩,(0:Int),(0:Int),(0:Int),.string ⟨#[]⟩,.string ⟨#[]⟩,(0:Int),.string ⟨#[]⟩,.string ⟨#[]⟩,.string ⟨#[]⟩,(0:Int),.string ⟨#[]⟩,(0:Int)] from i.z);obtain⟨Q,R,z2,X,z4,Y,Z,z7,z8,z9,S,T,U,W⟩:=Blk.z14 (i.z);have z:=i.lt;go_wp2;have d:=ny gH i.z;have c:=aa.trans (lg m w gH);obtain⟨e,a⟩:∃ e,mQ m w gH=e:=⟨_,rfl⟩;rw [a] at d c;unfold mQ at a;dsimp only [gH,bJ,aU,aN] at a;simp only [a];clear a z B C J K r4 r5 L M N P D F G I Q R z2 X z4 Y Z z7 z8 z9 S T U W;obtain⟨y0,y1,y2,y3,y4,y5,y6,y7,y8,y9,a2,a3,a4,a5⟩:=Blk.c14 (show Blk e (w.heap.size) _ #[(0:Int),.string ⟨#[]⟩,(0:Int),(0:Int),(0:Int),.string ⟨#[]⟩,.string ⟨#[]⟩,(0:Int),.string ⟨#[]⟩,.string ⟨#[]⟩,.string ⟨#[]⟩,(0:Int),.string ⟨#[]⟩,(0:Int)] from d);have p:=ω c;clear d c;refine bodyPost_ret (v:=.tuple #[.agg #[.int .i64 0,.string ⟨#[]⟩,.int .i64 0,.int .i64 0,.int .i64 0,.string ⟨#[]⟩,.string ⟨#[]⟩,.int .i64 0,.string ⟨#[]⟩,.string ⟨#[]⟩,.string ⟨#[]⟩,.int .i64 0,.string ⟨#[]⟩,.int .i64 0],.int .i64 x]) (by simp [results,Tryz.results27,go_sem, *]) rfl ?_;exact⟨by rw [j.z]; rfl,p⟩
 · rw [u];obtain rfl:=aq q' a8 hq;have HC:=ω (show ψ 55 #[.agg (oL q)] m (bG (cO q) m) from EA q m (zQ hq));obtain⟨E,a6⟩:∃ E,cO q=E:=⟨_,rfl⟩;rw [a6] at l HC;have j:=ω l;obtain⟨d0,d1,d2,d3,d4,d5,d6,d7,d8,d9,ak,al,am,ao⟩:=Blk.c14 (y);clear l u ai aq y hq
   go_wp2_with fail
   refine HC.mono ?_;rintro aw o ⟨rfl,ae⟩;have h:=ω (i.below ae i.lt);have ab:=ag.below ae a1;have ar:=ω (aa.trans (ae.mono aa.size));have Lm:=ab.lt;clear ae i ag aa HC a1 d0 d1 d2 d3 d4 d5 d6 d7 d8 d9 ak al am ao;by_cases s:E=0
   · subst s;have af:=ω (show rqF b=(q,0) by rw [j.z,if_pos rfl]);clear j;obtain⟨d0,d1,d2,d3,d4,d5,d6,d7,d8,d9,ak,al,am,ao⟩:=Blk.c14 (ab);clear ab;obtain⟨B,C,J,K,r4,r5,L,M,N,P,D,F,G,I⟩:=Blk.c14 (show Blk o (w.heap.size) _ #[(0:Int),.string ⟨#[]⟩,(0:Int),(0:Int),(0:Int),.string ⟨#[]⟩,.string ⟨#[]⟩,(0:Int),.string ⟨#[]⟩,.string ⟨#[]⟩,.string ⟨#[]⟩,(0:Int),.string ⟨#[]⟩,(0:Int)] from h.z);obtain⟨Q,R,z2,X,z4,Y,Z,z7,z8,z9,S,T,U,W⟩:=Blk.z14 (h.z);have z:=h.lt;go_wp2;have d:=ny q h.z;have c:=ar.trans (lg o w q);obtain⟨e,a⟩:∃ e,mQ o w q=e:=⟨_,rfl⟩;rw [a] at d c;unfold mQ at a;simp only [a];clear a z B C J K r4 r5 L M N P D F G I Q R z2 X z4 Y Z z7 z8 z9 S T U W d0 d1 d2 d3 d4 d5 d6 d7 d8 d9 ak al am ao;obtain⟨y0,y1,y2,y3,y4,y5,y6,y7,y8,y9,a2,a3,a4,a5⟩:=Blk.c14 (d);have p:=ω c;clear d c;refine bodyPost_ret (v:=.tuple #[.agg #[.int .i64 q.kind,.string q.job.name,.int .i64 q.job.prio,.int .i64 q.job.need,.int .i64 q.job.tries,.string q.job.tag,.string q.node.name,.int .i64 q.node.room,.string q.node.zone,.string q.lease.job,.string q.lease.node,.int .i64 q.lease.till,.string q.name,.int .i64 q.n],.int .i64 0]) (by simp [results,Tryz.results27,go_sem, *]) rfl ?_;exact⟨by rw [af.z]; rfl,p⟩
   · have af:=ω (show rqF b=(gH,E) by rw [j.z,if_neg s]);have e1:(E == 0)=false:=beq_eq_false_iff_ne.2 s;have e2:(E != 0)=true:=bne_iff_ne.2 s;clear j ab s;obtain⟨B,C,J,K,r4,r5,L,M,N,P,D,F,G,I⟩:=Blk.c14 (show Blk o (w.heap.size) _ #[(0:Int),.string ⟨#[]⟩,(0:Int),(0:Int),(0:Int),.string ⟨#[]⟩,.string ⟨#[]⟩,(0:Int),.string ⟨#[]⟩,.string ⟨#[]⟩,.string ⟨#[]⟩,(0:Int),.string ⟨#[]⟩,(0:Int)] from h.z);obtain⟨Q,R,z2,X,z4,Y,Z,z7,z8,z9,S,T,U,W⟩:=Blk.z14 (h.z);have z:=h.lt;go_wp2;have d:=ny gH h.z;have c:=ar.trans (lg o w gH);obtain⟨e,a⟩:∃ e,mQ o w gH=e:=⟨_,rfl⟩;rw [a] at d c;unfold mQ at a;dsimp only [gH,bJ,aU,aN] at a;simp only [a];clear a z B C J K r4 r5 L M N P D F G I Q R z2 X z4 Y Z z7 z8 z9 S T U W;obtain⟨y0,y1,y2,y3,y4,y5,y6,y7,y8,y9,a2,a3,a4,a5⟩:=Blk.c14 (show Blk e (w.heap.size) _ #[(0:Int),.string ⟨#[]⟩,(0:Int),(0:Int),(0:Int),.string ⟨#[]⟩,.string ⟨#[]⟩,(0:Int),.string ⟨#[]⟩,.string ⟨#[]⟩,.string ⟨#[]⟩,(0:Int),.string ⟨#[]⟩,(0:Int)] from d);have p:=ω c;clear d c;refine bodyPost_ret (v:=.tuple #[.agg #[.int .i64 0,.string ⟨#[]⟩,.int .i64 0,.int .i64 0,.int .i64 0,.string ⟨#[]⟩,.string ⟨#[]⟩,.int .i64 0,.string ⟨#[]⟩,.string ⟨#[]⟩,.string ⟨#[]⟩,.int .i64 0,.string ⟨#[]⟩,.int .i64 0],.int .i64 E]) (by simp [results,Tryz.results27,go_sem, *]) rfl ?_;exact⟨by rw [af.z]; rfl,p⟩
theorem EB : Tryz.prog.cellsOf 43 = 2:=by kernel_rfl
theorem Ni {H:Type} {enc:TypeId × Value->H} {W:World} {e:Bool} (n:Nat) (cs:List Value) (y:DataW H × List MemPlace) (h:DataW.trod enc Tryz.prog W 0 (fun _=>true) e n 43 cs=some y):∃ a:oo,cs=Jj a/\a.text.size+1<=Rows.uptoBulk y.1:=by
 obtain⟨u,v,r,rfl,f,j,l⟩:=trod_struct2 Tryz.underlying43 h;have i:cs.length=2:=f.trans EB
 match cs,i with
 | [m,o],_=>
  obtain⟨k,c,z,-⟩:=DataW.trod_int Tryz.underlying3 j;replace c:[m]=[_]:=c;obtain rfl:=(List.cons.inj c).1;obtain⟨s,d,p,-⟩:=DataW.trod_string Tryz.underlying9 l;replace d:[o]=[_]:=d;obtain rfl:=(List.cons.inj d).1;refine⟨⟨k,s⟩,rfl,?_⟩;subst p;simp only [Rows.uptoBulk,Rows.uptoBulkAll];have q:s.data.toList.length=s.size:=by rw [Array.length_toList]; rfl
  omega
theorem Cj {H:Type}:∀ (l:List (oo × DataW H)),(∀ z ∈ l,z.1.text.size+1<=Rows.uptoBulk z.2)->jX (l.map (·.1))+l.length<=Rows.uptoBulkAll (l.map (·.2))
 | [],_=>Nat.zero_le _
 | z :: l,h=>by
  have a:=Cj l fun y c=>h y (List.mem_cons_of_mem _ c);have d:=h z List.mem_cons_self;unfold jX at a |-;simp only [List.map_cons,List.sum_cons,List.length_cons,Rows.uptoBulkAll] at a |-;omega
theorem Jl {H:Type} {enc:TypeId × Value->H} {W:World} {X:Reach} {L:Nat} {P:Bool} {v:Value} {d:DataW H} {p:List MemPlace}
 (T:Value.okWide Tryz.prog W X L 27 v) (N:DataW.Trod enc Tryz.prog W 0 (fun _=>true) P 27 v d p) (hlt:∀ x ∈ p,x.block<W.heap.size) :
 ∃ (s:List oo) (A:Option Addr) (n c:Nat),v = .slice A n c/\s.length=n/\bC W W 2 A n (au Jj s)/\jX s+n<=Rows.uptoBulk d:=by
 obtain⟨A,n,c,rfl⟩:=okWide_slice Tryz.underlying27 T;obtain⟨ac,o⟩:=N
 haveI:Inhabited oo:=⟨⟨0,⟨#[]⟩⟩⟩
 rcases Go.Deep.open_slice Tryz.underlying27 o with ⟨h,-⟩ | ⟨e,len,aa,I,k,D,Z,h,hb,hl,hm,E,G,y⟩
 · simp only [Value.cells,List.cons.injEq,Value.slice.injEq,and_true] at h;obtain⟨rfl,rfl,rfl⟩:=h;exact⟨[],none,0,0,rfl,rfl,bC.nil,Nat.zero_le _⟩
 · simp only [Value.cells,List.cons.injEq,Value.slice.injEq,and_true] at h;obtain⟨rfl,rfl,rfl⟩:=h;simp only [if_true] at E;subst E;simp only [Prod.mk.injEq] at G;obtain⟨rfl,rfl⟩:=G;rw [EB] at y hlt
   obtain⟨f,o⟩:=Go.Deep.choose_lt (α:=oo) (p:=fun i u=>W.cells? 0 (e.add (i*2)) 2=some (Jj u)/\u.text.size+1<=Rows.uptoBulk (D i)) (fun i l=>by
    obtain⟨ab,a,q⟩:=y i l;obtain⟨u,rfl,m⟩:=Ni _ _ _ q;exact⟨u,a,m⟩)
   have B:∀ i,i<I->∀ j,j<2->W.cell? ((e.add (i*2)).add j)=(Jj (f i))[j]?:=fun i l j r=>(World.cells?_some (o i l).1).2.2 j r;refine⟨(List.range n).map f,some e,n,I,rfl,by simp,⟨by rw [jo tB]; simp,fun hn=>?_⟩,?_⟩
   · have K:∃ v,W.cell? ((e.add (0*2)).add 0)=some v:=by
      rw [B 0 (by omega) 0 (by decide)];exact⟨_,gO (by rw [tB]; decide)⟩
     obtain⟨v,S⟩:=K;obtain⟨b,J,Y⟩:=e;have R:Y=none:=by simpa [Addr.add] using World.cell?_spot S
     subst R;refine⟨b,J,rfl,?_,fun j u m=>?_⟩
     · refine hlt (.cell b J) (List.mem_append_left _ (MemPlace.mem_row.2 ⟨0,by omega,rfl⟩))
     · have r:j<n*2:=by
        rcases Nat.lt_or_ge j (n*2) with a | a
        · exact a
        · rw [List.getElem?_eq_none (by rw [jo tB]; simpa using a)] at m; cases m
       have Q:j / 2<n:=Nat.div_lt_of_lt_mul (by rw [Nat.mul_comm]; exact r);have F:j % 2<2:=Nat.mod_lt _ (by decide);have C:j=j / 2*2+j % 2:=by rw [Nat.mul_comm]; exact (Nat.div_add_mod j 2).symm
       have a:=B (j / 2) (by omega) (j % 2) F;rw [add_plain,add_plain,Nat.add_assoc,<- C] at a;rw [a,<- m]
       conv=>rhs; rw [C]
       rw [tS tB _ _ _ (f (j / 2)) (by simp [Q]) F]
   · have a:=Cj ((List.range n).map fun i=>(f i,D i)) (fun z U=>by
      obtain⟨i,l,rfl⟩:=List.mem_map.1 U;exact (o i (by have:=List.mem_range.1 l; omega)).2)
     rw [List.map_map,List.map_map,List.length_map,List.length_range] at a;simp only [Rows.uptoBulk];have q:(List.range n).map ((fun z:oo × DataW H=>z.1) ∘ fun i=>(f i,D i))=(List.range n).map f:=rfl;have M:(List.range n).map ((fun z:oo × DataW H=>z.2) ∘ fun i=>(f i,D i))=(List.range n).map D:=rfl;rw [q,M] at a;omega
end Go.Proofs.YtimglglgcgpjgaaGreatDoor
