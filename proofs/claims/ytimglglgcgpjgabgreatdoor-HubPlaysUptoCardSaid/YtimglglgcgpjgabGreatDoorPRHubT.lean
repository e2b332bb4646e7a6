/- Of the proof of a statement: RHubT. -/
import Derived.Deep.CutBlock
import Derived.Deep.DeepCutAuto
import Derived.Deep.LoopGhost
import Derived.Test.YtimglglgcgpjgabGreatDoorPHubQ
set_option linter.unusedVariables false
set_option linter.unusedSimpArgs false
set_option maxRecDepth 100000
set_option maxHeartbeats 8000000
namespace Go.Proofs.YtimglglgcgpjgabGreatDoor
open List (foldl_cons foldl_nil setIfInBounds_toArray set_cons_succ set_cons_zero)
open Go.RowKit
theorem Gz (a:Nat->List UInt8) (far:Nat->Nat) (cs:Nat->bE) (k:Nat) (c:bE) (d:c.closed=(cs k).closed) (f:c.aG=(cs k).aG) (g:c.waits=(cs k).waits):ow a far (upd cs k c)=ow a far cs:=by
 unfold ow;rw [upd_same (fun c:bE=>Value.bool c.closed) cs k c (congrArg Value.bool d),upd_same (fun c:bE=>Value.bool c.aG) cs k c (congrArg Value.bool f),upd_same (fun c:bE=>Value.string (BA c.waits)) cs k c (congrArg (fun l=>Value.string (BA l)) g)]
theorem Below.mP {w0 w:World} {g:Nat} (h:w0.grownBy w (some g)) (k:Nat) (c:k<w0.heap.size) (a:k≠g):w.heap[k]? = w0.heap[k]?:=h.block k c (by simpa using a)
def Cq (g:Nat) (a:Nat->List UInt8) (far:Nat->Nat) (H:cX) (k:Nat) (w:World) (e:Ending) (w':World):Prop:=
 kN g a far (oF H k) (.tuple #[(BA (H.cs k).waits),(0:Int)]) w e w'
theorem uK {k:Nat}:∀ (a:List cL) (H:cX),(H.cs k).closed=true->cC tlW rqF k H a=H
 | [],_,_=>rfl
 | f :: a,H,h=>by rw [cC,if_pos h]; exact uK a H h
theorem Dg {k:Nat} (H:cX) (a b:List cL):cC tlW rqF k H (a ++ b)=cC tlW rqF k (cC tlW rqF k H a) b:=by
 induction a generalizing H with
 | nil=>rfl
 | cons f a c=>exact c _
theorem aR.close {g k:Nat} {a:Nat->List UInt8} {far:Nat->Nat} {H:cX} {x:StA} {w:World} {e:Int} (h:aR w g a far { H with cs:=upd H.cs k (iV e H.st.rev (H.cs k)) } x) (c:k<8):aR (sQ w g (21+k) (.bool true)) g a far (jQ H k e) x:=by
 have:=aR.Ju h c (Ae e H.st.rev (H.cs k)) (by show _=bE.aG (upd _ _ _ _); rw [bI]; rfl) (by show _=bE.waits (upd _ _ _ _); rw [bI]; rfl);dsimp only at this;rw [nM] at this;exact this
theorem aR.flush {g k:Nat} {a:Nat->List UInt8} {far:Nat->Nat} {H:cX} {x:StA} {w:World} (h:aR w g a far H x) (c:k<8):aR (sQ w g (37+k) (.string ⟨#[]⟩)) g a far (oF H k) x:=
 aR.AT h c (xI (H.cs k)) rfl rfl
def lcD (ch:Bool) (st:ah) (b:ByteArray) (e:Int) (cs:Nat->bE) (v:Nat):Nat->bE:=if ch=true then jH tlW st b e cs v else cs
section
variable {ch:Bool} {st:ah} {b:ByteArray} {e:Int} {cs:Nat->bE} {v:Nat}
theorem EV:lcD ch st b e cs 0=cs:=by unfold lcD; rw [Bd,ite_self]
theorem GA:lcD ch st b e cs v v=cs v:=by
 unfold lcD; split
 · exact oz _ _ _ _ _ _
 · rfl
theorem EW (h:ch=false\/(cs v).closed=true\/(cs v).aG=false):lcD ch st b e cs (v+1)=lcD ch st b e cs v:=by
 rcases h with h | h
 · subst h; rfl
 · unfold lcD;rw [rN,show mI tlW st b e (cs v)=jH tlW st b e cs v v from by rw [oz]; unfold mI; rw [if_pos h],qM]
theorem LR (a:ch=true) (c:(cs v).closed=false) (d:(cs v).aG=true):lcD ch st b e cs (v+1)=upd (lcD ch st b e cs v) v (if e=0 then uG 2 b (cs v) else uw (tlW st) (cs v)):=by
 unfold lcD;rw [if_pos a,if_pos a,rN];unfold mI;rw [if_neg (by rw [c,d]; decide)]
end
theorem EX {H:cX} {k:Nat} {q:aL} (i:Nat):((lU tlW H k q).cs i).closed=(H.cs i).closed:=by
 have h:bE.closed (upd H.cs k (jr tlW q (lO H.st H.now (lD H.st H.now q)) (H.cs k)) i)=(H.cs i).closed:=by
  by_cases e:i=k
  · subst e; rw [bI]; exact (Ag _ _ _).1
  · rw [upd_ne _ _ e]
 unfold lU;dsimp only
 split
 · exact (kT _ _ i).1.trans h
 · exact h
theorem Gw {g k:Nat} {B:Nat->List UInt8} {far:Nat->Nat} {H:cX} {x:StA} {s:ByteArray} {F:List cL} {m e:Nat} (w:World) (p:ByteArray) (h:aR w g B far H x) (K:k<8) (hc:(H.cs k).closed=false) (hs:BA ((B k).drop (far k)) ++ p=s) (a4:far k<=(B k).length) (hF:Frs s F m e) (cD:s.size<=2097152) (du:(B k).length+p.size<=4611686018427387904) (hl:∀ i,i<8->(H.cs i).waits.length<=35000000000000) :
 ψ 12 #[π g 0,(k:Int),p] w (Cq g (upd B k (B k ++ p.data.toList)) (upd far k (far k+m)) (je tlW rqF H k s F m e) k w):=by
 have HO:=ω (tF (k:Int) 0 7 w);have hr:(!ranged (k:Int) 0 7)=false:=by rw [aM.2 ⟨by omega,by omega⟩]; rfl
 have y1:ζ w g (21+k) (.bool false):=by rw [<- hc]; exact aR.closed h K
 obtain⟨t0,bj⟩:∃ t0,BA (B k)=t0:=⟨_,rfl⟩;have y0:ζ w g (5+k) (.string t0):=by rw [<- bj]; exact aR.gotK h K
 have z0:κ w g (5+k):=h.blk.thaw _;have d9:t0.size=(B k).length:=by rw [<- bj]; exact jA _
 have d6:¬ 9223372036854775807<t0.size+p.size:=by omega
 have d7:t0.size+p.size<=9223372036854775807:=by omega
 have dI:=h.blk.lt;have dE:(B k).length<=4611686018427387904:=by omega
 obtain⟨J,aE⟩:∃ J,B k ++ p.data.toList=J:=⟨_,rfl⟩;have b1:t0 ++ p=BA J:=by rw [<- bj,<- aE]; exact ByteArray.ext (by rw [ByteArray.data_append]; simp [BA])
 have db:J.length=(B k).length+p.size:=by rw [<- aE,List.length_append]; simp
 have hcut:(BA J).extract (far k) (BA J).size=s:=by
  rw [LN,<- hs,<- aE,List.drop_append_of_le_length a4];exact ByteArray.ext (by rw [ByteArray.data_append]; simp [BA])
 obtain⟨s0,bi⟩:∃ s0,BA J=s0:=⟨_,rfl⟩;have H1:=ω (aR.O5 h K J);rw [bi] at b1 hcut H1;have d5:s0.size=J.length:=by rw [<- bi]; exact jA _
 have cP:=ω bi;obtain⟨w1,bk⟩:∃ w1,(w.setCell ⟨g,5+k,none⟩ (.string s0)).drew=w1:=⟨_,rfl⟩;have H1:=ω (show aR w1 g (upd B k J) far H x from by rw [<- bk]; exact gO.drew H1.z)
 have cy:w.grownBy w1 (some g):=by
  rw [<- bk];have:=aQ w g (5+k) (.string s0);exact⟨this.os,this.tape,this.output,this.size,this.block⟩
 have bY:=ω cy;have cc:=ω bk;have bV:=ω b1;have Py:=ω hcut;have HF:=ω hF;have Hl:=ω hl;have a8:=ω cD;have cw:far k<=s0.size:=by omega
 have cH:=ω aE;have Hc:=ω hc;clear h hc hs hF cD hl d9 bj du aE db bi d5 hcut b1 cy bk;go_enter Tryz.func12,Tryz.ntmps12
 go_wp2_with fail
 refine HO.mono ?_;rintro e0 w0 ⟨rfl,rfl⟩;clear HO;go_wp2
 go_region
 rw [bV.z,cc.z];clear bV cc y0 y1 z0 d6 d7 hr;have c0:ζ w1 g (5+k) (.string s0):=by have:=aR.gotK H1.z K; rwa [bI,cP.z] at this
 have c1:ζ w1 g (13+k) (.int .i64 (far k:Int)):=aR.far_ H1.z K;obtain⟨G,a4⟩:∃ G,far k=G:=⟨_,rfl⟩;rw [a4] at c1 cw Py;have bs:=ω a4
 have q1:∀ aZ:World,(Instr.slice 9 (.string s0) (some (.int .i64 (G:Int))) none none).run Tryz.prog aZ = .ok (.string s) aZ:=fun aZ=>by
  rw [run_slice_string_from_if (P:=Tryz.prog) (w:=aZ) 9 s0 .i64 (G:Int) Tryz.underlying9,if_pos ⟨by omega,by omega⟩,show ((G:Int)).toNat=G from by omega,Py.z]
 have Jv:=H1.blk.lt;have c6:(k:Int)<8:=by omega
 clear a4 cw Py
 go_wp2_with fail
 refine rq 209 (Na g k s0 s G m e) [13] (Nb w1 F) none (show Nb w1 F 0 none w1.drew from ⟨(θ).drew,fun _=>rfl,fun h=>absurd h (by decide)⟩) ?_ ?_
 · refine⟨?_,?_,?_,?_,?_,?_,?_,?_,?_,?_,?_,?_,?_,?_,?_,?_,?_,?_,?_,?_,?_,trivial⟩
   · exact ok0 0 1 0 rfl fun _=>rfl
   · exact ok0 0 1 1 rfl fun _=>rfl
   · exact ok1 0 1 0 42 rfl rfl (fun _ _ h=>h) fun _=>rfl
   · exact ok1 0 1 2 44 rfl rfl (fun _ _ h=>h) fun _=>rfl
   · refine okQ 0 1 fun p o T u _ _ a r=>?_;obtain⟨u1,l,rfl⟩:=r.g 3 45 rfl rfl;obtain⟨u2,z,rfl⟩:=r.g 1 43 rfl rfl;simp [go_sem,Oper.wp,execOp,Act.eval,l,z,c6];exact⟨_,rfl,o,fun _ _ _ h=>h,rfl,a⟩
   · refine okQ 0 1 fun p o T u _ _ a r=>?_;obtain⟨u1,l,rfl⟩:=r.g 4 46 rfl rfl;have hc:=(a.below.cell (p:=⟨g,5+k,none⟩) Jv).trans c0;simp [go_sem,Oper.wp,execOp,Act.eval,l,hc];exact⟨_,rfl,o,fun _ _ _ h=>h,rfl,a⟩
   · exact ok0 0 1 0 rfl fun _=>rfl
   · exact ok0 0 1 1 rfl fun _=>rfl
   · exact ok1 0 1 6 48 rfl rfl (fun _ _ h=>h) fun _=>rfl
   · exact ok1 0 1 8 50 rfl rfl (fun _ _ h=>h) fun _=>rfl
   · refine okQ 0 1 fun p o T u _ _ a r=>?_;obtain⟨u1,l,rfl⟩:=r.g 9 51 rfl rfl;obtain⟨u2,z,rfl⟩:=r.g 7 49 rfl rfl;simp [go_sem,Oper.wp,execOp,Act.eval,l,z,c6];exact⟨_,rfl,o,fun _ _ _ h=>h,rfl,a⟩
   · refine okQ 0 1 fun p o T u _ _ a r=>?_;obtain⟨u1,l,rfl⟩:=r.g 10 52 rfl rfl;have hc:=(a.below.cell (p:=⟨g,13+k,none⟩) Jv).trans c1;simp [go_sem,Oper.wp,execOp,Act.eval,l,hc];exact⟨_,rfl,o,fun _ _ _ h=>h,rfl,a⟩
   · refine okQ 0 1 fun p o T u _ _ a r=>?_;obtain⟨u1,l,rfl⟩:=r.g 5 47 rfl rfl;obtain⟨u2,z,rfl⟩:=r.g 11 53 rfl rfl;simp [go_sem,Oper.wp,execOp,Act.eval,l,z,q1];exact⟨_,rfl,o,fun _ _ _ h=>h,rfl,a⟩
   · refine .inl ⟨0,rfl,fun o T u a r=>aJ rfl ?_⟩;obtain⟨u1,l,rfl⟩:=r.g 12 54 rfl rfl;have a:=(show Nb w1 F 0 o u from a);simp [go_sem,Oper.wp,execOp,Act.eval,l];refine (EY HF.z u a8.z).mono ?_;rintro Q w' ⟨A,n,aA,rfl,hn,ho,hb⟩;obtain rfl:=a.none_ rfl;exact⟨_,rfl,some (A,n,aA),Lf,⟨(A,n,aA),rfl,rfl⟩,⟨a.below.trans (hb.mono a.below.size),fun h=>absurd h (by decide),fun _=>⟨(A,n,aA),rfl,hn,cY ho a.below.size⟩⟩⟩
   · refine okQ 0 1 fun p o T u _ _ a r=>?_;obtain⟨u1,l,q1,au,rfl⟩:=r.g 13 55 rfl rfl;simp [go_sem,Oper.wp,execOp,Act.eval,l];exact⟨_,rfl,o,fun _ _ _ h=>h,⟨q1,au,rfl⟩,a⟩
   · refine okQ 0 1 fun p o T u _ _ a r=>?_;obtain⟨u1,l,q1,au,rfl⟩:=r.g 14 41 rfl rfl;simp [go_sem,Oper.wp,execOp,Act.eval,l];exact⟨_,rfl,o,fun _ _ _ h=>h,⟨q1,au,rfl⟩,a⟩
   · refine okQ 0 1 fun p o T u _ _ a r=>?_;obtain⟨u1,l,q1,au,rfl⟩:=r.g 14 41 rfl rfl;simp [go_sem,Oper.wp,execOp,Act.eval,l];exact⟨_,rfl,o,fun _ _ _ h=>h,rfl,a⟩
   · refine okQ 0 1 fun p o T u _ _ a r=>?_;obtain⟨u1,l,q1,au,rfl⟩:=r.g 14 41 rfl rfl;simp [go_sem,Oper.wp,execOp,Act.eval,l];exact⟨_,rfl,o,fun _ _ _ h=>h,rfl,a⟩
   · refine okQ 0 1 fun p o T u _ _ a r=>?_;obtain⟨u1,l,q1,au,rfl⟩:=r.g 15 56 rfl rfl;simp [go_sem,Oper.wp,execOp,Act.eval,l];exact⟨_,rfl,o,fun _ _ _ h=>h,⟨q1,au,rfl⟩,a⟩
   · exact ok1 0 1 16 57 rfl rfl (fun _ _ h=>h) fun _=>rfl
   · exact ok1 0 1 17 58 rfl rfl (fun _ _ h=>h) fun _=>rfl
 intro o cR w2 hd;have a:=(show Nb w1 F 1 o w2 from hd.ph);obtain⟨fv,rfl,ai⟩:=hd.frame [42,43,44,45,46,47,48,49,50,51,52,53,54,55,41,56,57,58,8,9,10] rfl;obtain⟨⟨A,n,aA⟩,hq,bD,bg⟩:=a.row (by decide);dsimp only at bD bg
 have f8:fv 8 = .slice A n aA:=by
  obtain⟨q',Q,e2⟩:=(show ∃ q',o=some q'/\fv 8 = .slice q'.1 q'.2.1 q'.2.2 from ai 18 _ 8 rfl rfl);rw [hq] at Q;injection Q with Q;rw [e2,<- Q]
 have f9:fv 9 = .int .i64 (m:Int):=ai 19 _ 9 rfl rfl;have ci:fv 10 = .int .i64 (e:Int):=ai 20 _ 10 rfl rfl;simp only [foldl_cons,foldl_nil,setIfInBounds_toArray,set_cons_succ,set_cons_zero,f8,f9,ci];have b4:=a.below;clear hd ai a hq f8 f9 ci c0 c1 q1;have z:aR w2 g (upd B k J) far H x:=gO.below H1.z b4;have y0:ζ w2 g (13+k) (.int .i64 (G:Int)):=by rw [<- bs.z]; exact aR.far_ z K
 have z0:κ w2 g (13+k):=z.blk.thaw _;have cB:=HF.facts;have d8:=a8.z;have cx:=a4;have de:(G:Int)+(m:Int)<=9223372036854775807:=by have:=bs.z; have:=cx; omega
 have dd:0<=(G:Int)+(m:Int):=by omega
 have dK:=z.blk.lt;obtain⟨w3,bl⟩:∃ w3,(w2.setCell ⟨g,13+k,none⟩ (.int .i64 ((G:Int)+(m:Int)))).drew=w3:=⟨_,rfl⟩;have a5:=aQ w2 g (13+k) (.int .i64 ((G:Int)+(m:Int)));have bf:w2.grownBy w3 (some g):=by rw [<- bl]; exact⟨a5.os,a5.tape,a5.output,a5.size,a5.block⟩
 have W:aR w3 g (upd B k J) (upd far k (G+m)) H x:=by
  rw [<- bl];have:=aR.O6 z K (G+m);rw [Int.natCast_add] at this;exact gO.drew this
 have br:=ω (nF.own (V:=g) (g:=g) ⟨w1.heap.size,Jv,bg⟩ lQ);have cu:=(cS bg).qZ br.z bf;have bS:=ω cu;have H3:=ω W;have cO:=ω (aP (aP bY.z (grown_of g b4)) bf);have aY:=ω bD;have cd:=ω bl;have dy:n<=2097152:=by omega
 have dB:=bf.size;have b6:e≠0:=cB.2.1;clear z a5 bf W bg cu bD bl cB d8 b4 cx bY H1;go_wp2
 go_region
 rw [cd.z];clear cd y0 z0 dd de;obtain⟨O,ba⟩:∃ O:cX,(⟨H.st,H.now,upd H.cs k (nX (H.cs k) s m e)⟩:cX)=O:=⟨_,rfl⟩
 have bt:aR w3 g (upd B k J) (upd far k (G+m)) O x:=by
  rw [<- ba]
  show gO (ow _ _ (upd H.cs k _)) w3 _ g H.st x H.now
  rw [Gz _ _ _ k (nX (H.cs k) s m e) rfl rfl rfl];exact H3
 have bJ:=ω bt;have bL:=ω ba;have dt:F.length<=2097152:=by rw [aY.z]; exact dy
 have rE:=ω (fun j i (hi:i<8)=>show ((cC tlW rqF k O (F.take j)).cs i).waits.length<=35184371000000 from by
  have l:=(nW (tl:=tlW) (rq:=rqF) (k:=k) wK (F.take j) O).1 i;have z:=Hl.z i hi
  have W:(O.cs i).waits=(H.cs i).waits:=by
   rw [<- bL.z]
   show (upd H.cs k _ i).waits=_
   by_cases e:i=k
   · subst e; rw [bI]; rfl
   · rw [upd_ne _ _ e]
  rw [W,List.length_take] at l;have h4:min j F.length*21000<=2097152*21000:=Nat.mul_le_mul_right _ (by omega);omega)
 have bW:=ω (show (O.cs k).closed=false from by rw [<- ba]; show (upd H.cs k _ k).closed=false; rw [bI]; exact Hc)
 have aU:=ω (show je tlW rqF H k s F m e=if e≠3/\((cC tlW rqF k O F).cs k).closed=false then jQ (cC tlW rqF k O F) k e else cC tlW rqF k O F from by
  unfold je;rw [show ({ H with cs:=upd H.cs k (nX (H.cs k) s m e) }:cX)=O from bL.z])
 have dM:=bt.blk.lt;clear H3 bt ba dt
 go_upto_block 0 with fail
 go_cut [] (fun u=>∃ Z,aR u g (upd B k J) (upd far k (G+m)) (cC tlW rqF k O F) Z/\w3.grownBy u (some g))
 case rest=>
  obtain⟨Z,hA,hT⟩:=hcut;have ap:=rE.z F.length k K;rw [List.take_length] at ap;obtain⟨HZ,cr⟩:∃ HZ,cC tlW rqF k O F=HZ:=⟨_,rfl⟩;rw [cr] at hA aU ap;have y1:ζ wc g (21+k) (.bool (HZ.cs k).closed):=aR.closed hA K;have dQ:=hA.blk.lt
  have ax:=ω (fun am xz wz (l:aR wz g (upd B k J) (upd far k (G+m)) am xz) (z:w3.grownBy wz (some g)) (W:je tlW rqF H k s F m e=am)=>show Cq g (upd B k (B k ++ p.data.toList)) (upd far k (far k+m)) (je tlW rqF H k s F m e) k w (.returned (.tuple #[(BA (am.cs k).waits),(0:Int)])) (sQ wz g (37+k) (.string ⟨#[]⟩)) from by
   rw [W,cH.z,bs.z];exact⟨rfl,xz,aR.flush l K,aP (aP cO.z z) (aQ wz g (37+k) _)⟩)
  have HA:=ω hA;have HT:=ω hT;have ar:=ω ap;clear hA hT ap cr rE bW bJ bS br;by_cases W:e=3
  · have I:=ω (ax.z HZ Z wc HA.z HT.z (by rw [aU.z,if_neg (fun h=>h.1 W)]));have d0:((e:Int) != 3)=false:=by subst W; rfl
    obtain⟨t1,ae⟩:∃ t1,BA (HZ.cs k).waits=t1:=⟨_,rfl⟩;have y2:ζ wc g (37+k) (.string t1):=by rw [<- ae]; exact aR.waits HA.z K
    have z2:κ wc g (37+k):=HA.blk.thaw _;rw [ae] at I;clear ae ax W b6;go_wp2;go_ret2;exact I
  · have d0:((e:Int) != 3)=true:=bne_iff_ne.2 (by omega);cases S:(HZ.cs k).closed
    · have HR:=ω (rL (e:Int) wc HA.z K (by have:=ar.z; omega));have HC:=ω (show je tlW rqF H k s F m e=jQ HZ k e from by rw [aU.z,if_pos ⟨W,S⟩]);rw [S] at y1;clear S W b6
      go_wp2_with fail
      refine HR.mono ?_;rintro Q L ⟨rfl,x4,h4,g4⟩;have z1:κ L g (21+k):=h4.blk.thaw _;have y1:L.cell? ⟨g,21+k,none⟩=some (.bool _):=aR.closed h4 K;obtain⟨U,aq⟩:∃ U,L.setCell ⟨g,21+k,none⟩ (.bool true)=U:=⟨_,rfl⟩;have h5:=aR.close h4 K;have g5:=aQ L g (21+k) (.bool true);rw [aq] at h5 g5;have I:=ω (ax.z _ x4 U h5 (aP HT.z (aP g4 g5)) HC.z);obtain⟨t1,ae⟩:∃ t1,BA ((jQ HZ k e).cs k).waits=t1:=⟨_,rfl⟩;have y2:ζ U g (37+k) (.string t1):=by rw [<- ae]; exact aR.waits h5 K
      have z2:κ U g (37+k):=h5.blk.thaw _;have dN:=h4.blk.lt;have c9:=h5.blk.lt;have a9:=ω aq;rw [ae] at I;clear ae ax HR HA HT h4 g4 h5 g5 aq
      go_upto_region 36 with fail
      rw [a9.z];go_wp2;go_ret2;exact I
    · have I:=ω (ax.z HZ Z wc HA.z HT.z (by rw [aU.z,if_neg (fun h=>by rw [S] at h; exact absurd h.2 (by decide))]));obtain⟨t1,ae⟩:∃ t1,BA (HZ.cs k).waits=t1:=⟨_,rfl⟩;have y2:ζ wc g (37+k) (.string t1):=by rw [<- ae]; exact aR.waits HA.z K
      have z2:κ wc g (37+k):=HA.blk.thaw _;rw [ae] at I;rw [S] at y1;clear ae ax W b6 S;go_wp2;go_ret2;exact I
 case first=>
  go_wp2_with fail
  go_loopg [72] n (fun gh i wr=>∃ j Z,j<=n/\gh=n - j/\i = .int .i64 ((j:Nat):Int)/\aR wr g (upd B k J) (upd far k (G+m)) (cC tlW rqF k O (F.take j)) Z/\((cC tlW rqF k O (F.take j)).cs k).closed=false/\w3.grownBy wr (some g))
  case atStart=>exact⟨0,x,Nat.zero_le _,by omega,rfl,bJ,bW,bP _ _⟩
  case round=>
   obtain⟨j,Z,hj,rfl,rfl,hA,S,hT⟩:=hrel;by_cases hlt:j<n
   · obtain⟨f,hf⟩:∃ f,F[j]? = some f:=⟨_,δ (by rw [aY.z]; exact hlt)⟩;have d3:=HF.pays f (m8 hf);obtain⟨c,bv⟩:∃ c,cC tlW rqF k O (F.take j)=c:=⟨_,rfl⟩;have aF:=ru (tl:=tlW) (rq:=rqF) (k:=k) (H:=O) hf
     have cv:∀ am,cC tlW rqF k O (F.take (j+1))=am->(am.cs k).closed=true->cC tlW rqF k O F=am:=fun am l z=>by
      rw [<- List.take_append_drop (j+1) F,Dg,l];exact uK _ _ z
     have ap:=fun i hi=>rE.z j i hi;rw [bv] at hA S aF;simp only [bv] at ap;rw [if_neg (by rw [S]; decide)] at aF;obtain⟨b,dV,rfl,dD,hc⟩:=(bS.qZ br.z hT).dL qJ aY.z hf;obtain⟨d0,d1,d2⟩:=rc3 hc;have dc:=hT.size;have dH:b<wr.heap.size:=by omega
     have dR:j*3+3<=n*3:=by omega
     obtain⟨u,bn⟩:∃ u,wr.alloc (.cells #[(f.ver:Int),(f.kind:Int),f.pay] 69)=u:=⟨_,rfl⟩;have be:Below wr wr u:=by rw [<- bn]; exact (θ).alloc lQ _
     have BM:Blk u wr 69 #[(f.ver:Int),(f.kind:Int),f.pay]:=by rw [<- bn]; exact n5 wr _
     have f2:ζ u wr 2 (.string f.pay):=BM.cell 2;have dx:=BM.lt;have bo:=ω (GB f.pay u (by have:=a8.z; omega));have Pz:=AV f.pay (by have:=a8.z; omega);obtain⟨q,hq⟩:∃ q,(rqF f.pay).1=q:=⟨_,rfl⟩;obtain⟨E,hE⟩:∃ E,(rqF f.pay).2=E:=⟨_,rfl⟩
     have c3:E=0->1<=q.kind/\q.kind<=9:=fun h=>by
      have z:=(MZ (b:=f.pay) (hE.trans h) (by have:=a8.z; omega)).2;rw [hq] at z;by_cases hr:ranged q.kind 1 9=true
      · exact aM.1 hr
      · unfold cN at z;rw [if_pos (by simpa using hr)] at z;exact absurd z (by decide)
     have ao:jq tlW rqF c k f=if f.ver≠3\/f.kind≠3 then jQ c k 1 else if E≠0 then jQ c k E else lU tlW c k q:=by unfold jq; rw [hq,hE]
     rw [ao] at aF;rw [hq,hE] at bo;rw [hq] at Pz;have cJ:=ω be;have Nu:=ω BM;have ce:=ω bn;have HA:=ω (hA.below be);have HT:=ω (aP hT (grown_of g be));have a0:=ω aF;have aW:=ω cv;have ar:=ω ap;have cb:=ω Pz;have bX:=ω S;have bZ:=ω c3;clear c3 hf d3 bv aF cv ap hc hT dc be BM bn hA Pz hq hE ao S
     go_wp2_with fail
     try simp only [ce.z]
     refine bo.mono ?_;rintro e2 L ⟨rfl,a2⟩;obtain⟨U,aq⟩:∃ U,L.alloc (.cells (aT q) 88)=U:=⟨_,rfl⟩;have bd:Below L L U:=by rw [<- aq]; exact (θ).alloc lQ _
     have bF:Blk U L 88 (aT q):=by rw [<- aq]; exact n5 L _
     have h5:=(HA.below a2).below bd;have b7:=(Nu.below a2 Nu.lt).below bd (Nu.below a2 Nu.lt).lt;obtain⟨v0,v1⟩:=Blk.c2 (b7);have dS:=b7.lt;have c9:=h5.blk.lt;have dw:=bF.lt;have H5:=ω h5;have aO:=ω bF;have aV:=ω (aP (aP HT.z (grown_of g a2)) (grown_of g bd));have a9:=ω aq;have dT:wr.heap.size<=L.heap.size:=by have:=a2.size; have:=cJ.size; omega
     clear a2 bd bF aq h5 b7 HA HT ce bo d0 d1 d2 f2 dx;unfold bO;unfold aT at a9 |-
     go_upto_region 12 with fail
     rw [a9.z];clear a9;by_cases bA:f.ver=3/\f.kind=3/\E=0
     · obtain⟨g1,g2,rfl⟩:=bA;have HS:=ω (show cC tlW rqF k O (F.take (j+1))=lU tlW c k q from by rw [a0.z,if_neg (by omega),if_neg (by omega)]);rw [g1] at v0;rw [g2] at v1;clear g1 g2 a0 aW;obtain⟨R,hR⟩:∃ R,lO c.st c.now (lD c.st c.now q)=R:=⟨_,rfl⟩;obtain⟨D,hD⟩:∃ D,(if R.ch=true then eE c.st R.st else zD)=D:=⟨_,rfl⟩;have bh:=Il (q:=q) H5.ok H5.t;rw [hR] at bh
       have bK:=ω (fun u (o:DoG) (a:DoP U g L (ow (upd B k J) (upd far k (G+m)) c.cs) c.st Z c.now q R D 0 o u)=>show ψ 29 #[π g 0,.agg (aT q)] u (fun e w'=>∃ d:eG × StA,e = .returned (.tuple #[.agg #[R.e,R.st.rev],.agg (dC D d.1),.bool R.ch])/\DoP U g L (ow (upd B k J) (upd far k (G+m)) c.cs) c.st Z c.now q R D 1 ⟨o.N,o.M,some d⟩ w') from by
        refine (LA _ 51 q c.st Z c.now g u (a.h0 rfl).2 cb.z).mono ?_;rw [hR];rintro Q w' ⟨D',y,x2,rfl,cZ,ds,ao,hb,ak,M8,hg⟩;have da:=cZ.trans hD;subst da;exact⟨(y,x2),rfl,a.call hg ⟨hb,ak,bh.1,bh.2,M8⟩ ds ao⟩)
       have H0:=ω (show DoP U g L (ow (upd B k J) (upd far k (G+m)) c.cs) c.st Z c.now q R D 0 ⟨none,none,none⟩ U from ⟨bP _ _,c9,aO,⟨dw,bC aO.z H5.blk (by decide)⟩,fun _=>⟨rfl,H5⟩,fun h=>absurd h (by decide),(fun _ e=>by cases e),(fun _ e=>by cases e)⟩);have HR:=ω hR;have HD:=ω hD;clear hR hD bh
       go_wp2_with fail
       refine rq 209 (doV g L q R D) [4,11,12] (DoP U g L (ow (upd B k J) (upd far k (G+m)) c.cs) c.st Z c.now q R D) ⟨none,none,none⟩ H0.drew ?_ ?_
       · refine⟨?_,?_,?_,?_,?_,?_,?_,?_,?_,?_,?_,?_,?_,?_,trivial⟩
         · exact ok0 0 3 0 rfl fun _=>rfl
         · exact ok1 0 3 0 102 rfl rfl (fun _ _ h=>h) fun _=>rfl
         · exact ok1 0 3 1 103 rfl rfl (fun _ _ h=>h) fun _=>rfl
         · refine okQ 0 3 fun p o T u _ _ a r=>?_;have l:=r.k 13 rfl (by decide +kernel);obtain⟨df,dg,dh,di,dj,dk,dl,dm,dn,dq,F1,F4,F5,F6⟩:=Blk.c14 (a.q);simp [go_sem,Oper.wp,execOp,Act.eval,l,df,dg,dh,di,dj,dk,dl,dm,dn,dq,F1,F4,F5,F6];exact⟨_,rfl,o,fun _ _ _ h=>h,rfl,a⟩
         · refine .inl ⟨0,rfl,fun o T u a r=>aJ rfl ?_⟩;obtain⟨u1,l,rfl⟩:=r.g 2 104 rfl rfl;obtain⟨u2,z,rfl⟩:=r.g 3 105 rfl rfl;simp [go_sem,Oper.wp,execOp,Act.eval,l,z];refine (bK.z u o a).mono ?_;rintro Q w' ⟨d,rfl,dz⟩;exact⟨_,rfl,_,P8 ((show DoP U g L _ c.st Z c.now q R D 0 o u from a).h0 rfl).1 (some d),⟨d,rfl,rfl⟩,dz⟩
         · refine okQ 0 3 fun p o T u _ _ a r=>?_;obtain⟨u1,l,d,ed,rfl⟩:=r.g 4 106 rfl rfl;simp [go_sem,Oper.wp,execOp,Act.eval,l];exact⟨_,rfl,o,fun _ _ _ h=>h,⟨d,ed,rfl⟩,a⟩
         · refine okQ 0 3 fun p o T u _ _ a r=>?_;obtain⟨u1,l,d,ed,rfl⟩:=r.g 5 101 rfl rfl;simp [go_sem,Oper.wp,execOp,Act.eval,l];exact⟨_,rfl,o,fun _ _ _ h=>h,rfl,a⟩
         · refine okQ 0 3 fun p o T u _ _ a r=>?_;obtain⟨u1,l,d,ed,rfl⟩:=r.g 5 101 rfl rfl;simp [go_sem,Oper.wp,execOp,Act.eval,l];exact⟨_,rfl,o,fun _ _ _ h=>h,⟨d,ed,rfl⟩,a⟩
         · refine okQ 0 3 fun p o T u _ _ a r=>?_;obtain⟨u1,l,d,ed,rfl⟩:=r.g 5 101 rfl rfl;simp [go_sem,Oper.wp,execOp,Act.eval,l];exact⟨_,rfl,o,fun _ _ _ h=>h,rfl,a⟩
         · refine okQ 0 1 fun p o T u _ _ a r=>?_;simp [go_sem,Oper.wp,execOp,Act.eval];exact⟨_,rfl,_,P6 (some u),⟨_,rfl,rfl⟩,a.alloc (by omega) _ _ _ (fun n e=>.inr ⟨(Option.some.inj e).symm,rfl⟩) fun n e=>.inl e⟩
         · refine okQ 0 1 fun p o T u _ _ a r=>?_;simp [go_sem,Oper.wp,execOp,Act.eval];exact⟨_,rfl,_,P7 (some u),⟨_,rfl,rfl⟩,a.alloc (by omega) _ _ _ (fun n e=>.inl e) fun n e=>.inr ⟨(Option.some.inj e).symm,rfl⟩⟩
         · refine .inl ⟨1,rfl,fun o T u a r=>aJ rfl ?_⟩;obtain⟨u1,l,r1,cg,rfl⟩:=r.g 9 15 rfl rfl;obtain⟨u2,z,rfl⟩:=r.g 6 107 rfl rfl;have a:=(show DoP U g L _ c.st Z c.now q R D 1 o u from a);have hB:Blk u r1 93 #[(0:Int),(0:Int)]:=(a.n r1 cg).2;obtain⟨z0,z1⟩:=Blk.z2 (hB);obtain⟨c0,c1⟩:=Blk.c2 (hB);have b8:=a.O7 cg (aK (aK (bP u r1) 0 (.int .i64 R.e)) 1 (.int .i64 R.st.rev)) (Blk.eq ((hB.set 0 (.int .i64 R.e)).set 1 (.int .i64 R.st.rev)) rfl);clear hB a;simp [go_sem,Oper.wp,execOp,Act.eval,l,z,c0,c1,z0,z1];exact⟨.int .i64 0,o,fun _ _ _ h=>h,trivial,b8⟩
         · refine .inl ⟨2,rfl,fun o T u a r=>aJ rfl ?_⟩;obtain⟨u1,l,d1,cf,rfl⟩:=r.g 10 16 rfl rfl;obtain⟨u2,z,d,ed,rfl⟩:=r.g 7 108 rfl rfl;obtain⟨y,x2⟩:=d;have a:=(show DoP U g L _ c.st Z c.now q R D 2 o u from a);have hB:=(a.m d1 cf).2.1 (by decide);obtain⟨z0,z1,z2,z3,z4,z5,z6,z7⟩:=Blk.z8 (hB);obtain⟨c0,c1,c2,cT,c4,c5,cU,cV⟩:=Blk.c8 (hB);have b8:=a.O8 cf ed (aK (aK (aK (aK (aK (aK (aK (aK (bP u d1) 0 (.int .i64 D.from_)) 1 (.int .i64 D.to_)) 2 (.slice y.aj y.nj y.cj)) 3 (.slice y.an y.nn y.cn)) 4 (.slice y.al y.nl y.cl)) 5 (.slice y.agj y.ngj y.cgj)) 6 (.slice y.agn y.ngn y.cgn)) 7 (.slice y.agl y.ngl y.cgl)) (Blk.eq ((((((((hB.set 0 (.int .i64 D.from_)).set 1 (.int .i64 D.to_)).set 2 (.slice y.aj y.nj y.cj)).set 3 (.slice y.an y.nn y.cn)).set 4 (.slice y.al y.nl y.cl)).set 5 (.slice y.agj y.ngj y.cgj)).set 6 (.slice y.agn y.ngn y.cgn)).set 7 (.slice y.agl y.ngl y.cgl)) rfl);unfold dC at z;clear hB a;simp [go_sem,Oper.wp,execOp,Act.eval,l,z,c0,c1,c2,cT,c4,c5,cU,cV,z0,z1,z2,z3,z4,z5,z6,z7];exact⟨.int .i64 0,o,fun _ _ _ h=>h,trivial,b8⟩
         · exact ok1 0 3 8 109 rfl rfl (fun _ _ h=>h) fun _=>rfl
       intro o cR w6 hd;have a:=(show DoP U g L (ow (upd B k J) (upd far k (G+m)) c.cs) c.st Z c.now q R D 3 o w6 from hd.ph);obtain⟨fv,rfl,ai⟩:=hd.frame [102,103,104,105,106,101,107,108,109,15,16,17] rfl;obtain⟨N,eN,ck⟩:=ai 9 _ 15 rfl rfl;obtain⟨M,eM,cm⟩:=ai 10 _ 16 rfl rfl;have co:fv 17 = .bool R.ch:=ai 13 _ 17 rfl rfl;simp only [foldl_cons,foldl_nil,setIfInBounds_toArray,set_cons_succ,set_cons_zero,ck,cm,co];obtain⟨⟨y,x6⟩,ed,bz,b5,ao⟩:=a.h1 (by decide);dsimp only at bz b5 ao;have hN:Blk w6 N 93 #[R.e,R.st.rev]:=(a.n N eN).2
       have hM:Blk w6 M 95 (dC D y):=by
        obtain⟨d',Q,e2⟩:=(a.m M eM).2.2 (by decide);rw [ed] at Q;injection Q with Q;subst Q;exact e2
       have cz:=a.gr;have bx:=a.q;have h6:aR w6 g (upd B k J) (upd far k (G+m)) ⟨R.st,R.now,c.cs⟩ x6:=bz;have r0:ζ w6 N 0 (.int .i64 R.e):=hN.cell 0;have bB:=hN.lt;have dv:=h6.blk.lt;have bR:=ω (rL (k:=k) R.e w6 h6 K (by have:=ar.z k K; dsimp only; omega));have bT:=ω (aP aV.z cz);have bN:=ω hN;have bM:=ω hM;have bQ:=ω bx;have ab:=ω (show N≠g/\M≠g/\L.heap.size≠g from ⟨bC hN h6.blk (by decide),bC hM h6.blk (by decide),bC bx h6.blk (by decide)⟩);have cK:=ω b5;have cM:=ω ao;clear hd ai a ed bz b5 ao hN hM cz bx h6 eN eM ck cm co H0 bK H5 aO aV v0 v1
       go_wp2_with fail
       refine bR.mono ?_;rintro Q w7 ⟨rfl,x7,h7,g7⟩;have bb:=ay g7 bN.z ab.z.1;have ct:=ay g7 bM.z ab.z.2.1;have bc:=ay g7 bQ.z ab.z.2.2;have r0:ζ w7 N 0 (.int .i64 R.e):=bb.cell 0;have q0:ζ w7 L 0 (.int .i64 q.kind):=bc.cell 0;have bB:=bb.lt;have c7:=bc.lt;have cA:=h7.blk.lt;have H7:=ω h7;have a6:=ω ct;have aS:=ω bc;have aN:=ω bb;have G7:=ω g7;have d4:=ng R.e R.st.rev (c.cs k);have az:=ω (Cc (k:=k) w7 h7 K (by have:=ar.z k K; dsimp only; rw [bI]; omega));obtain⟨Y,cp⟩:∃ Y,jr tlW q R (c.cs k)=Y:=⟨_,rfl⟩;have aI:=ω cp;clear cp bb ct bc h7 g7 bR bN bM bQ d4;have ca:φ (∃ b E2,(l9 D).1=b/\(l9 D).2=E2):=ω ⟨_,_,rfl,rfl⟩
       have dr:(((R.e == 0)=false/\Y=iV R.e R.st.rev (c.cs k))\/(R.e=0/\¬ 7<q.kind/\(q.kind == 9)=false/\Y=iV R.e R.st.rev (c.cs k)))\/(R.e=0/\q.kind=8/\Y=uw (tlW R.st) (iV R.e R.st.rev (c.cs k)))\/(R.e=0/\q.kind=9/\Y = { uw (tlW R.st) (iV R.e R.st.rev (c.cs k)) with aG:=true }):=by
        have dF:1<=q.kind/\q.kind<=9:=bZ.z (by trivial);rw [<- aI.z];unfold jr oE;by_cases h0:R.e=0
        · by_cases X:q.kind=8
          · exact .inr (.inl ⟨h0,X,by rw [if_pos ⟨h0,.inl X⟩,X]; show ({ uw (tlW R.st) (iV R.e R.st.rev (c.cs k)) with aG:=(c.cs k).aG || false }:bE)=_; rw [Bool.or_false]; rfl⟩)
          · by_cases h9:q.kind=9
            · exact .inr (.inr ⟨h0,h9,by rw [if_pos ⟨h0,.inr h9⟩,h9]; show ({ uw (tlW R.st) (iV R.e R.st.rev (c.cs k)) with aG:=(c.cs k).aG || true }:bE)=_; rw [Bool.or_true]⟩)
            · exact .inl (.inr ⟨h0,by omega,beq_eq_false_iff_ne.2 h9,by rw [if_neg (fun h=>h.2.elim X h9)]⟩)
        · exact .inl (.inl ⟨beq_eq_false_iff_ne.2 h0,by rw [if_neg (fun h=>h0 h.1)]⟩)
       obtain⟨b2,E2,b0,aD⟩:=ca.z;clear ca
       have aW:φ (∀ w8 x8,aR w8 g (upd B k J) (upd far k (G+m)) ⟨R.st,R.now,lcD R.ch R.st b2 E2 (upd c.cs k Y) 8⟩ x8->aR w8 g (upd B k J) (upd far k (G+m)) (cC tlW rqF k O (F.take (j+1))) x8/\((cC tlW rqF k O (F.take (j+1))).cs k).closed=false):=ω fun w8 x8 X=>by
        rw [HS.z,EX];refine⟨?_,bX⟩
        have Q:lU tlW c k q=⟨R.st,R.now,lcD R.ch R.st b2 E2 (upd c.cs k Y) 8⟩:=by
         have hD:=HD.z;unfold lU;dsimp only;rw [HR.z,aI.z];unfold lcD;cases a3:R.ch
         · rfl
         · rw [a3,if_pos rfl] at hD;rw [if_pos rfl,if_pos rfl,hD,<- b0,<- aD];rfl
        rw [Q];exact X
       have cq:Y.waits.length<=(c.cs k).waits.length+14000:=by
        rw [<- aI.z];unfold jr;have l:=ng R.e R.st.rev (c.cs k)
        split
        · have z:=Ad wK R.st (iV R.e R.st.rev (c.cs k))
          show (uw _ _).waits.length<=_
          omega
        · omega
       have cE:φ (∀ i,i<8->(upd c.cs k Y i).waits.length<=35184371100000):=ω fun i hi=>by
        have l:=vW (cs:=c.cs) (k:=k) cq i;have z:=ar.z i hi;omega
       have bU:=ω b0;have cG:=ω aD;clear b0 aD cq HS ar cb bX bZ HR aI;rcases dr with (⟨d0,ad⟩ | ⟨d0,d1,d2,ad⟩) | ⟨d0,d1,ad⟩ | ⟨d0,d1,ad⟩
       focus
        have af:=H7.z
        try dsimp only at af
        rw [<- ad] at af;have H7:=ω af;clear ad af az;go_wp2
       rotate_left
       focus
        have af:=H7.z
        try dsimp only at af
        rw [<- ad] at af;have H7:=ω af;rw [d0] at r0;have D0:=ω d0;clear ad d0 af az;go_wp2
       rotate_left
       focus
        rw [d0] at r0;rw [d1] at q0;have D0:=ω d0;have D1:=ω d1;have bp:=ω ad;clear d0 d1 ad
        go_wp2_with fail
        refine az.mono ?_;rintro Q w7 ⟨rfl,x7,X,g8⟩;have av:=ay g8 aN.z ab.z.1;have aw:=ay g8 aS.z ab.z.2.2;have a6:=ω (ay g8 a6.z ab.z.2.1);have r0:ζ w7 N 0 (.int .i64 0):=by rw [<- D0.z]; exact av.cell 0
        have q0:ζ w7 L 0 (.int .i64 8):=by rw [<- D1.z]; exact aw.cell 0
        try dsimp only at X
        rw [nM,bI,<- bp.z] at X;have H7:=ω X;have G7:=ω (aP G7.z g8);have bB:=av.lt;have c7:=aw.lt;have cA:=X.blk.lt;clear X g8 av aw az aN aS;go_wp2
       rotate_left
       focus
        rw [d0] at r0;rw [d1] at q0;have D0:=ω d0;have D1:=ω d1;have bp:=ω ad;clear d0 d1 ad
        go_wp2_with fail
        refine az.mono ?_;rintro Q w8 ⟨rfl,x7,X,g8⟩;have av:=ay g8 aN.z ab.z.1;have aw:=ay g8 aS.z ab.z.2.2;have r0:ζ w8 N 0 (.int .i64 0):=by rw [<- D0.z]; exact av.cell 0
        have q0:ζ w8 L 0 (.int .i64 9):=by rw [<- D1.z]; exact aw.cell 0
        have bB:=av.lt;have c7:=aw.lt;have dO:=X.blk.lt;have z8:κ w8 g (29+k):=X.blk.thaw _;have y8:w8.cell? ⟨g,29+k,none⟩=some (.bool _):=aR.aG X K;obtain⟨w7,bm⟩:∃ w7,w8.setCell ⟨g,29+k,none⟩ (.bool true)=w7:=⟨_,rfl⟩;have g9:=aQ w8 g (29+k) (.bool true);have h9:=aR.Ev X K { uw (tlW R.st) (iV R.e R.st.rev (c.cs k)) with aG:=true } (by show _=bE.closed (upd (upd _ _ _) _ _ _); rw [nM,bI,bI]) (by show _=bE.waits (upd (upd _ _ _) _ _ _); rw [nM,bI,bI])
        try dsimp only at h9
        rw [bm,nM,nM,<- bp.z] at h9;rw [bm] at g9;have a6:=ω (ay g9 (ay g8 a6.z ab.z.2.1) ab.z.2.1);have H7:=ω h9;have G7:=ω (aP G7.z (aP g8 g9));have cA:=h9.blk.lt;have cQ:=ω bm;clear X g8 g9 h9 bm av aw az aN aS;go_wp2;rw [cQ.z]
       rotate_left
       all_goals
        clear r0 q0;cases a3:R.ch
        · have bq:=ω a3;clear a3
          go_loopg [139] 8 (fun gh i wr=>∃ v x9,v<=8/\gh=8 - v/\i = .int .i64 ((v:Nat):Int)/\aR wr g (upd B k J) (upd far k (G+m)) ⟨R.st,R.now,lcD R.ch R.st b2 E2 (upd c.cs k Y) v⟩ x9/\w7.grownBy wr (some g))
          case atStart=>exact⟨0,x7,by omega,rfl,rfl,by rw [EV]; exact H7.z,bP _ _⟩
          case round=>
           obtain⟨v,x9,hv,rfl,rfl,aa,ac⟩:=hrel;by_cases JL:v<8
           · have I:=ω (show aR wr g (upd B k J) (upd far k (G+m)) ⟨R.st,R.now,lcD R.ch R.st b2 E2 (upd c.cs k Y) (v+1)⟩ x9 from by rw [EW (.inl bq.z)]; exact aa);have FT:=ω ac;clear aa ac;go_wp2
             go_roundg (8 - (v+1))
             case measure=>omega
             case rel=>exact⟨v+1,x9,by omega,rfl,by go_num,I,FT⟩
           · obtain rfl:v=8:=by omega
             have I:=ω (aW.z _ _ aa);have FT:=ω (aP bT.z (aP G7.z ac));clear aa ac;go_wp2
             go_roundg (n - (j+1))
             case measure=>omega
             case rel=>exact⟨j+1,x9,by omega,rfl,by go_num,I.z.1,I.z.2,FT⟩
        · have bq:=ω a3;clear a3
          go_loopg [139] 8 (fun gh i wr=>∃ v x9,v<=8/\gh=8 - v/\i = .int .i64 ((v:Nat):Int)/\aR wr g (upd B k J) (upd far k (G+m)) ⟨R.st,R.now,lcD R.ch R.st b2 E2 (upd c.cs k Y) v⟩ x9/\w7.grownBy wr (some g))
          case atStart=>exact⟨0,x7,by omega,rfl,rfl,by rw [EV]; exact H7.z,bP _ _⟩
          case round=>
           obtain⟨v,x9,hv,rfl,rfl,aa,ac⟩:=hrel;by_cases JL:v<8
           · obtain⟨C,hC⟩:∃ C,upd c.cs k Y v=C:=⟨_,rfl⟩;have y1:ζ wr g (21+v) (.bool C.closed):=by have:=aR.closed aa JL; dsimp only at this; rwa [GA,hC] at this
             have y2:ζ wr g (29+v) (.bool C.aG):=by have:=aR.aG aa JL; dsimp only at this; rwa [GA,hC] at this
             have bw:=ay ac a6.z ab.z.2.1;obtain⟨m0,m1,m2,m3,m4,m5,m6,m7⟩:=Blk.c8 (bw);have dG:=bw.lt;have b9:=aP G7.z ac;have DE:=CL D y wr ((cK.qZ cM.z b9).more b9.size);have b3:=xF D;unfold lq at DE;rw [bU.z,cG.z] at DE;rw [bU.z] at b3;unfold dC at DE;have aL:=ω DE;have cI:=ω b3;have dP:=aa.blk.lt;have aH:=ω aa;have a7:=ω ac;have cW:=cE.z v JL;rw [hC] at cW;have dU:(v:Int)<8:=by omega
             have LS:=ω (fun (h:R.ch=false\/C.closed=true\/C.aG=false)=>show aR wr g (upd B k J) (upd far k (G+m)) ⟨R.st,R.now,lcD R.ch R.st b2 E2 (upd c.cs k Y) (v+1)⟩ x9 from by rw [EW (by rw [hC]; exact h)]; exact aH);have LT:=ω (fun (l:R.ch=true) (z:C.closed=false) (W:C.aG=true)=>show lcD R.ch R.st b2 E2 (upd c.cs k Y) (v+1)=_ from by rw [LR l (by rw [hC]; exact z) (by rw [hC]; exact W),hC]);have aX:=ω (show lcD R.ch R.st b2 E2 (upd c.cs k Y) v v=C from by rw [GA,hC]);clear aa ac bw b9 DE b3 hC;by_cases ak:C.closed=true\/C.aG=false
             · have I:=ω (LS.z (.inr ak));clear LS LT aL;cases S:C.closed
               · have hw:C.aG=false:=ak.resolve_left (by rw [S]; decide);rw [S] at y1;rw [hw] at y2;clear ak hw S;go_wp2
                 go_roundg (8 - (v+1))
                 case measure=>omega
                 case rel=>exact⟨v+1,x9,by omega,rfl,by go_num,I,a7⟩
               · rw [S] at y1;clear ak S;go_wp2
                 go_roundg (8 - (v+1))
                 case measure=>omega
                 case rel=>exact⟨v+1,x9,by omega,rfl,by go_num,I,a7⟩
             · have S:C.closed=false:=by cases h:C.closed with | false=>rfl | true=>exact absurd (.inl h) ak
               have hw:C.aG=true:=by cases h:C.aG with | true=>rfl | false=>exact absurd (.inr h) ak
               have hs:=LT.z bq.z S hw;have Hs:=ω hs;rw [S] at y1;rw [hw] at y2;clear LS LT ak S hw hs
               go_wp2_with fail
               refine aL.mono ?_;rintro Q bG ⟨rfl,Nv⟩;have aC:=aH.below Nv;have Nw:=ω (aP a7.z (grown_of g Nv));have dJ:g<bG.heap.size:=aC.blk.lt;by_cases a1:E2=0
               · have HG:=ω (Cb (k:=v) 2 b2 bG aC JL (by decide) (by have:=cI.z; omega) (by dsimp only; rw [aX.z]; omega));rw [if_pos a1] at Hs;rw [a1];clear aC Nv aL aH a7 y1 y2 m0 m1 m2 m3 m4 m5 m6 m7 a1
                 go_wp2_with fail
                 refine HG.mono ?_;rintro Q dA ⟨rfl,bH,ag,aB⟩
                 try dsimp only at ag
                 rw [aX.z,<- Hs.z] at ag;have I:=ω ag;have FT:=ω (aP Nw.z aB);clear ag aB HG Nw;go_wp2
                 go_roundg (8 - (v+1))
                 case measure=>omega
                 case rel=>exact⟨v+1,bH,by omega,rfl,by go_num,I,FT⟩
               · have HG:=ω (Cc (k:=v) bG aC JL (by dsimp only; rw [aX.z]; omega));rw [if_neg a1] at Hs;have bu:(E2 == 0)=false:=beq_eq_false_iff_ne.2 a1;clear aC Nv aL aH a7 y1 y2 m0 m1 m2 m3 m4 m5 m6 m7 a1
                 go_wp2_with fail
                 refine HG.mono ?_;rintro Q dA ⟨rfl,bH,ag,aB⟩
                 try dsimp only at ag
                 rw [aX.z,<- Hs.z] at ag;have I:=ω ag;have FT:=ω (aP Nw.z aB);clear ag aB HG Nw;go_wp2
                 go_roundg (8 - (v+1))
                 case measure=>omega
                 case rel=>exact⟨v+1,bH,by omega,rfl,by go_num,I,FT⟩
           · obtain rfl:v=8:=by omega
             have I:=ω (aW.z _ _ aa);have FT:=ω (aP bT.z (aP G7.z ac));clear aa ac;go_wp2
             go_roundg (n - (j+1))
             case measure=>omega
             case rel=>exact⟨j+1,x9,by omega,rfl,by go_num,I.z.1,I.z.2,FT⟩
     · have hX:∃ E',cC tlW rqF k O (F.take (j+1))=jQ c k E'/\((((f.ver:Int) != 3)=true/\E'=1)\/(((f.ver:Int) != 3)=false/\((f.kind:Int) != 3)=true/\E'=1)\/(((f.ver:Int) != 3)=false/\((f.kind:Int) != 3)=false/\(E != 0)=true/\E'=E)):=by
        by_cases l:f.ver=3
        · by_cases z:f.kind=3
          · have W:E≠0:=fun h=>bA ⟨l,z,h⟩;exact⟨E,by rw [a0.z,if_neg (by omega),if_pos W],.inr (.inr ⟨by rw [l]; rfl,by rw [z]; rfl,bne_iff_ne.2 W,rfl⟩)⟩
          · exact⟨1,by rw [a0.z,if_pos (.inr z)],.inr (.inl ⟨by rw [l]; rfl,bne_iff_ne.2 (by omega),rfl⟩)⟩
        · exact⟨1,by rw [a0.z,if_pos (.inl l)],.inl ⟨bne_iff_ne.2 (by omega),rfl⟩⟩
       obtain⟨E',bu,aD⟩:=hX;have cF:=ω (aW.z _ bu (by show bE.closed (upd _ _ _ _)=true; rw [bI]; rfl));have HR:=ω (rL E' U H5.z K (by have:=ar.z k K; omega));clear bA bu a0 aW;rcases aD with ⟨p0,rfl⟩ | ⟨p0,p1,rfl⟩ | ⟨p0,p1,p2,rfl⟩
       all_goals
        go_wp2_with fail
        refine HR.mono ?_;rintro Q w6 ⟨rfl,x6,h6,g6⟩;have z1:κ w6 g (21+k):=h6.blk.thaw _;have y1:w6.cell? ⟨g,21+k,none⟩=some (.bool _):=aR.closed h6 K;have dv:=h6.blk.lt;have I:=ω (aR.close h6 K);have FT:=ω (aP aV.z (aP g6 (aQ w6 g (21+k) (.bool true))));clear h6 g6 HR H5 aO aV;go_wp2
        go_meet
        exact⟨x6,by rw [cF.z]; exact I.z,FT⟩
   · obtain rfl:j=n:=by omega
     have I:=ω hA;rw [List.take_of_length_le (by rw [aY.z]; omega)] at I;have FT:=ω hT;clear hA S hT;go_wp2
     go_meet
     exact⟨Z,I,FT⟩
end Go.Proofs.YtimglglgcgpjgabGreatDoor
