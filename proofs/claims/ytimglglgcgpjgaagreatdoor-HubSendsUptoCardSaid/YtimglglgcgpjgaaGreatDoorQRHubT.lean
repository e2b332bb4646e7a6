/- Of the proof of a statement: RHubS, RHubT. -/
import Derived.Deep.CutBlock
import Derived.Deep.DeepCutAuto
import Derived.Deep.LoopGhost
import Derived.Test.YtimglglgcgpjgaaGreatDoorQHubS
set_option linter.unusedVariables false
set_option linter.unusedSimpArgs false
set_option maxRecDepth 100000
set_option maxHeartbeats 8000000
namespace Go.Proofs.YtimglglgcgpjgaaGreatDoor
open List (foldl_cons foldl_nil setIfInBounds_toArray set_cons_succ set_cons_zero)
open Go.RowKit
theorem iO.other {tl:List Value} {w w':World} {T d:TypeId} {B a:Nat} {st:ah} {x:StA} {now:Int} {cs:Array Value} (h:iO tl w T B st x now) (f:Blk w a d cs) (i:gL cs) (c:w.grownBy w' (some a)) (j:B≠a):iO tl w' T B st x now:=
 ⟨ay c h.blk j,(h.at_.fY f i c).more c.size,h.ok,h.t,h.far⟩
def Ns (g k:Nat) (c s:ByteArray) (a m e:Nat) (γ:Option (Option Addr × Nat × Nat)):Nat->Value->Prop
 | 0,u=>u = π g 0
 | 1,u=>u = .int .i64 (k:Int)
 | 2,u=>u = π g 0
 | 3,u=>u = π g 5
 | 4,u=>u = π g (5+k)
 | 5,u=>u = .string c
 | 6,u=>u = π g 0
 | 7,u=>u = .int .i64 (k:Int)
 | 8,u=>u = π g 0
 | 9,u=>u = π g 13
 | 10,u=>u = π g (13+k)
 | 11,u=>u = .int .i64 (a:Int)
 | 12,u=>u = .string s
 | 13,u=>∃ q,γ=some q/\u = .tuple #[.slice q.1 q.2.1 q.2.2,.int .i64 (m:Int),.int .i64 (e:Int)]
 | 14,u=>∃ q,γ=some q/\u = .tuple #[.slice q.1 q.2.1 q.2.2,.int .i64 (m:Int),.int .i64 (e:Int)]
 | 15,u=>∃ q,γ=some q/\u = .slice q.1 q.2.1 q.2.2
 | 16,u=>u = .int .i64 (m:Int)
 | 17,u=>u = .int .i64 (e:Int)
 | 18,u=>∃ q,γ=some q/\u = .slice q.1 q.2.1 q.2.2
 | 19,u=>u = .int .i64 (m:Int)
 | 20,u=>u = .int .i64 (e:Int)
 | _,_=>True
theorem LL {g k:Nat} {c s:ByteArray} {a m e:Nat} {q:Option Addr × Nat × Nat}:∀ j v,j≠13->Ns g k c s a m e none j v->Ns g k c s a m e (some q) j v:=by
 intro j v f h;unfold Ns at *
 split at h
 all_goals first | exact h | exact absurd rfl f | (obtain⟨_,d,_⟩:=h; cases d)
structure Nt (W:World) (fs:List cM) (p:Nat) (γ:Option (Option Addr × Nat × Nat)) (w:World):Prop where
 below:Below W W w
 none_:p=0->γ=none
 row:0<p->∃ q:Option Addr × Nat × Nat,γ=some q/\fs.length=q.2.1/\w.ownsRow W 78 3 (.slice q.1 q.2.1 q.2.2) q.2.1 (au zJ fs)
structure DoG where
 N:Option Nat
 M:Option Nat
 y:Option (eF × StA)
def doV (g Q:Nat) (q:aK) (R:lF) (D:aX) (γ:DoG):Nat->Value->Prop
 | 0,u=>u = π g 0
 | 1,u=>u = π g 0
 | 2,u=>u = π g 0
 | 3,u=>u = .agg (aV q)
 | 4,u=>∃ d,γ.y=some d/\u = .tuple #[.agg #[.int .i64 R.e,.int .i64 R.st.rev],.agg (dC D d.1),.bool R.ch]
 | 5,u=>∃ d,γ.y=some d/\u = .tuple #[.agg #[.int .i64 R.e,.int .i64 R.st.rev],.agg (dC D d.1),.bool R.ch]
 | 6,u=>u = .agg #[.int .i64 R.e,.int .i64 R.st.rev]
 | 7,u=>∃ d,γ.y=some d/\u = .agg (dC D d.1)
 | 8,u=>u = .bool R.ch
 | 9,u=>∃ N,γ.N=some N/\u = π N 0
 | 10,u=>∃ M,γ.M=some M/\u = π M 0
 | 13,u=>u = .bool R.ch
 | _,_=>True
section
variable {g Q:Nat} {q:aK} {R:lF} {D:aX} {γ:DoG}
theorem PU (N:Option Nat):∀ j v,j≠9->doV g Q q R D γ j v->doV g Q q R D ⟨N,γ.M,γ.y⟩ j v:=by
 intro j v a h; unfold doV at *; split at h
 all_goals first | exact h | exact absurd rfl a
theorem PV (M:Option Nat):∀ j v,j≠10->doV g Q q R D γ j v->doV g Q q R D ⟨γ.N,M,γ.y⟩ j v:=by
 intro j v a h; unfold doV at *; split at h
 all_goals first | exact h | exact absurd rfl a
theorem PW (d:γ.y=none) (y:Option (eF × StA)):∀ j v,j≠4->doV g Q q R D γ j v->doV g Q q R D ⟨γ.N,γ.M,y⟩ j v:=by
 intro j v c h; unfold doV at *; split at h
 all_goals first | exact h | exact absurd rfl c | (obtain⟨_,a,_⟩:=h; rw [d] at a; cases a)
end
structure DoP (W:World) (g Q:Nat) (tl:List Value) (st:ah) (x:StA) (now:Int) (q:aK) (R:lF) (D:aX) (p:Nat) (γ:DoG) (w:World):Prop where
 gr:W.grownBy w (some g)
 lt:g<W.heap.size
 q:Blk w Q 87 (aV q)
 qg:Q<W.heap.size/\Q≠g
 h0:p=0->γ.y=none/\iO tl w 41 g st x now
 h1:0<p->∃ d,γ.y=some d/\iO tl w 41 g R.st d.2 R.now/\dz w w D d.1/\AX g d.1
 n:∀ N,γ.N=some N->W.heap.size<=N/\Blk w N 92 (if p<2 then #[(0:Int),(0:Int)] else #[R.e,R.st.rev])
 m:∀ M,γ.M=some M->W.heap.size<=M/\(p<3->Blk w M 95 eS)/\(3<=p->∃ d,γ.y=some d/\Blk w M 95 (dC D d.1))
section
variable {W w w':World} {g Q:Nat} {tl:List Value} {st:ah} {x:StA} {now:Int} {q:aK} {R:lF} {D:aX} {p:Nat} {γ:DoG}
theorem DoP.hlt (h:DoP W g Q tl st x now q R D p γ w):g<w.heap.size:=u7 h.lt h.gr.size
theorem DoP.drew (h:DoP W g Q tl st x now q R D 0 γ w):DoP W g Q tl st x now q R D 0 γ w.drew:=
 ⟨⟨h.gr.os,h.gr.tape,h.gr.output,h.gr.size,h.gr.block⟩,h.lt,h.q,h.qg,fun a=>⟨(h.h0 a).1,(h.h0 a).2.drew⟩,fun a=>absurd a (by decide),h.n,h.m⟩
theorem DoP.keep (h:DoP W g Q tl st x now q R D p γ w) (a:w.grownBy w' (some g)):W.grownBy w' (some g)/\Blk w' Q 87 (aV q)/\(∀ N,γ.N=some N->W.heap.size<=N/\Blk w' N 92 (if p<2 then #[(0:Int),(0:Int)] else #[R.e,R.st.rev])) /\
 ∀ M,γ.M=some M->W.heap.size<=M/\(p<3->Blk w' M 95 eS)/\(3<=p->∃ d,γ.y=some d/\Blk w' M 95 (dC D d.1)):=by
 have o:=h.lt;refine⟨aP h.gr a,ay a h.q h.qg.2,fun N e=>⟨(h.n N e).1,ay a (h.n N e).2 (by have:=(h.n N e).1; omega)⟩,fun M e=>?_⟩;obtain⟨j,k,l⟩:=h.m M e;refine⟨j,fun c=>ay a (k c) (by omega),fun c=>?_⟩;obtain⟨d,f,i⟩:=l c;exact⟨d,f,ay a i (by omega)⟩
theorem DoP.call (h:DoP W g Q tl st x now q R D 0 γ w) (j:w.grownBy w' (some g)) {dx:eF} {c:StA} (k:iO tl w' 41 g R.st c R.now) (f:dz w' w' D dx) (i:AX g dx):DoP W g Q tl st x now q R D 1 ⟨γ.N,γ.M,some (dx,c)⟩ w':=by
 obtain⟨l,m,n,d⟩:=h.keep j;exact⟨l,h.lt,m,h.qg,fun a=>absurd a (by decide),fun _=>⟨(dx,c),rfl,k,f,i⟩,n,fun M e=>⟨(d M e).1,fun _=>(d M e).2.1 (by decide),fun a=>absurd a (by decide)⟩⟩
theorem DoP.alloc (h:DoP W g Q tl st x now q R D p γ w) (a:p<2) (o:Obj) (N M:Option Nat) (r:∀ n,N=some n->γ.N=some n\/(n=w.heap.size/\o = .cells #[(0:Int),(0:Int)] 92)) (m:∀ n,M=some n->γ.M=some n\/(n=w.heap.size/\o = .cells eS 95)):DoP W g Q tl st x now q R D p ⟨N,M,γ.y⟩ (w.alloc o):=by
 have c:Below w w (w.alloc o):=(θ).alloc lJ _;obtain⟨s,u,z,A⟩:=h.keep (grown_of g c);have d:=h.gr.size;refine⟨s,h.lt,u,h.qg,fun a=>⟨(h.h0 a).1,(h.h0 a).2.below c⟩,fun a=>?_,fun n e=>?_,fun n e=>?_⟩
 · obtain⟨f,i,j,k,l⟩:=h.h1 a;exact⟨f,i,j.below c,k.upS c,l⟩
 · rcases r n e with e | ⟨rfl,rfl⟩
   · exact z n e
   · rw [if_pos a];exact⟨d,n5 w _⟩
 · rcases m n e with e | ⟨rfl,rfl⟩
   · exact A n e
   · exact⟨d,fun _=>n5 w _,fun a=>by omega⟩
theorem DoP.O5 (h:DoP W g Q tl st x now q R D 1 γ w) {N:Nat} (f:γ.N=some N) (a:w.grownBy w' (some N)) (y:Blk w' N 92 #[R.e,R.st.rev]):DoP W g Q tl st x now q R D 2 γ w':=by
 obtain⟨k,c⟩:=h.n N f;rw [if_pos (by decide)] at c;have z:=h.lt;have i:gL #[(0:Int),(0:Int)]:=gJ 0 0;obtain⟨l,o,r,s,u⟩:=h.h1 (by decide);refine⟨uq h.gr a k,z,ay a h.q (by have:=h.qg.1; omega),h.qg,fun d=>absurd d (by decide),fun _=>⟨l,o,r.other c i a (by omega),(s.fY c i a).more a.size,u⟩,fun n e=>?_,fun M e=>?_⟩
 · rw [f] at e;injection e with e;subst e;exact⟨k,y⟩
 · obtain⟨A,j,_⟩:=h.m M e;exact⟨A,fun _=>ay a (j (by decide)) (bH (j (by decide)) c (by decide)),fun d=>absurd d (by decide)⟩
theorem DoP.O6 (h:DoP W g Q tl st x now q R D 2 γ w) {M:Nat} {d:eF × StA} (j:γ.M=some M) (A:γ.y=some d) (a:w.grownBy w' (some M)) (B:Blk w' M 95 (dC D d.1)):DoP W g Q tl st x now q R D 3 γ w':=by
 obtain⟨l,c,_⟩:=h.m M j;have c:=c (by decide);have C:=h.lt;have k:gL eS:=rL zD zA;obtain⟨o,r,s,u,z⟩:=h.h1 (by decide);refine⟨uq h.gr a l,C,ay a h.q (by have:=h.qg.1; omega),h.qg,fun f=>absurd f (by decide),fun _=>⟨o,r,s.other c k a (by omega),(u.fY c k a).more a.size,z⟩,fun n e=>?_,fun n e=>?_⟩
 · obtain⟨E,i⟩:=h.n n e;rw [if_neg (by decide)] at i |-;exact⟨E,ay a i (bH i c (by decide))⟩
 · rw [j] at e;injection e with e;subst e;exact⟨l,fun f=>absurd f (by decide),fun _=>⟨d,A,B⟩⟩
end
theorem Gu (a:Nat->List UInt8) (far:Nat->Nat) (cs:Nat->bf) (k:Nat) (c:bf) (d:c.closed=(cs k).closed) (f:c.aG=(cs k).aG) (h:c.waits=(cs k).waits):ow a far (upd cs k c)=ow a far cs:=by
 unfold ow;rw [upd_same (fun c:bf=>Value.bool c.closed) cs k c (congrArg Value.bool d),upd_same (fun c:bf=>Value.bool c.aG) cs k c (congrArg Value.bool f),upd_same (fun c:bf=>Value.string (BA c.waits)) cs k c (congrArg (fun l=>Value.string (BA l)) h)]
theorem Below.mC {w0 w:World} {g:Nat} (h:w0.grownBy w (some g)) (k:Nat) (c:k<w0.heap.size) (a:k≠g):w.heap[k]? = w0.heap[k]?:=h.block k c (by simpa using a)
def Cr (g:Nat) (a:Nat->List UInt8) (far:Nat->Nat) (H:cL) (k:Nat) (w:World) (e:Ending) (w':World):Prop:=
 kR g a far (mG H k) (.tuple #[(BA (H.cs k).waits),(0:Int)]) w e w'
theorem uN {k:Nat}:∀ (a:List cM) (H:cL),(H.cs k).closed=true->bZ tlW rqF k H a=H
 | [],_,_=>rfl
 | f :: a,H,h=>by rw [bZ,if_pos h]; exact uN a H h
theorem Df {k:Nat} (H:cL) (a b:List cM):bZ tlW rqF k H (a ++ b)=bZ tlW rqF k (bZ tlW rqF k H a) b:=by
 induction a generalizing H with
 | nil=>rfl
 | cons f a c=>exact c _
theorem aQ.close {g k:Nat} {a:Nat->List UInt8} {far:Nat->Nat} {H:cL} {x:StA} {w:World} {e:Int} (h:aQ w g a far { H with cs:=upd H.cs k (iU e H.st.rev (H.cs k)) } x) (c:k<8):aQ (sX w g (21+k) (.bool true)) g a far (jS H k e) x:=by
 have:=aQ.JB h c (Ac e H.st.rev (H.cs k)) (by show _=bf.aG (upd _ _ _ _); rw [bL]; rfl) (by show _=bf.waits (upd _ _ _ _); rw [bL]; rfl);dsimp only at this;rw [nL] at this;exact this
theorem aQ.flush {g k:Nat} {a:Nat->List UInt8} {far:Nat->Nat} {H:cL} {x:StA} {w:World} (h:aQ w g a far H x) (c:k<8):aQ (sX w g (37+k) (.string ⟨#[]⟩)) g a far (mG H k) x:=
 aQ.A0 h c (xK (H.cs k)) rfl rfl
def lcD (ch:Bool) (st:ah) (b:ByteArray) (e:Int) (cs:Nat->bf) (v:Nat):Nat->bf:=if ch=true then jF tlW st b e cs v else cs
section
variable {ch:Bool} {st:ah} {b:ByteArray} {e:Int} {cs:Nat->bf} {v:Nat}
theorem ES:lcD ch st b e cs 0=cs:=by unfold lcD; rw [AN,ite_self]
theorem Gv:lcD ch st b e cs v v=cs v:=by
 unfold lcD; split
 · exact om _ _ _ _ _ _
 · rfl
theorem ET (h:ch=false\/(cs v).closed=true\/(cs v).aG=false):lcD ch st b e cs (v+1)=lcD ch st b e cs v:=by
 rcases h with h | h
 · subst h; rfl
 · unfold lcD;rw [rK,show mD tlW st b e (cs v)=jF tlW st b e cs v v from by rw [om]; unfold mD; rw [if_pos h],qA]
theorem LM (a:ch=true) (c:(cs v).closed=false) (d:(cs v).aG=true):lcD ch st b e cs (v+1)=upd (lcD ch st b e cs v) v (if e=0 then uJ 2 b (cs v) else uD (tlW st) (cs v)):=by
 unfold lcD;rw [if_pos a,if_pos a,rK];unfold mD;rw [if_neg (by rw [c,d]; decide)]
end
theorem EU {H:cL} {k:Nat} {q:aK} (i:Nat):((lW tlW H k q).cs i).closed=(H.cs i).closed:=by
 have h:bf.closed (upd H.cs k (jw tlW q (lO H.st H.now (lG H.st H.now q)) (H.cs k)) i)=(H.cs i).closed:=by
  by_cases e:i=k
  · subst e; rw [bL]; exact (A6 _ _ _).1
  · rw [upd_ne _ _ e]
 unfold lW;dsimp only
 split
 · exact (lu _ _ i).1.trans h
 · exact h
theorem Gw {g k:Nat} {z:Nat->List UInt8} {far:Nat->Nat} {H:cL} {x:StA} {s:ByteArray} {B:List cM} {m e:Nat} (w:World) (p:ByteArray) (h:aQ w g z far H x) (J:k<8) (hc:(H.cs k).closed=false) (hs:BA ((z k).drop (far k)) ++ p=s) (a4:far k<=(z k).length) (hF:Frs s B m e) (cE:s.size<=2097152) (dv:(z k).length+p.size<=4611686018427387904) (hl:∀ i,i<8->(H.cs i).waits.length<=35000000000000) :
 ψ 8 #[π g 0,(k:Int),p] w (Cr g (upd z k (z k ++ p.data.toList)) (upd far k (far k+m)) (jG tlW rqF H k s B m e) k w):=by
 have HO:=ω (tL (k:Int) 0 7 w);have hr:(!ranged (k:Int) 0 7)=false:=by rw [aM.2 ⟨by omega,by omega⟩]; rfl
 have y1:ζ w g (21+k) (.bool false):=by rw [<- hc]; exact aQ.closed h J
 obtain⟨t0,bl⟩:∃ t0,BA (z k)=t0:=⟨_,rfl⟩;have y0:ζ w g (5+k) (.string t0):=by rw [<- bl]; exact aQ.gotK h J
 have z0:κ w g (5+k):=h.blk.thaw _;have dA:t0.size=(z k).length:=by rw [<- bl]; exact oO _
 have d7:¬ 9223372036854775807<t0.size+p.size:=by omega
 have d8:t0.size+p.size<=9223372036854775807:=by omega
 have dJ:=h.blk.lt;have dF:(z k).length<=4611686018427387904:=by omega
 obtain⟨I,aE⟩:∃ I,z k ++ p.data.toList=I:=⟨_,rfl⟩;have b4:t0 ++ p=BA I:=by rw [<- bl,<- aE]; exact ByteArray.ext (by rw [ByteArray.data_append]; simp [BA])
 have dc:I.length=(z k).length+p.size:=by rw [<- aE,List.length_append]; simp
 have hcut:(BA I).extract (far k) (BA I).size=s:=by
  rw [LN,<- hs,<- aE,List.drop_append_of_le_length a4];exact ByteArray.ext (by rw [ByteArray.data_append]; simp [BA])
 obtain⟨s0,bk⟩:∃ s0,BA I=s0:=⟨_,rfl⟩;have H1:=ω (aQ.O3 h J I);rw [bk] at b4 hcut H1;have d6:s0.size=I.length:=by rw [<- bk]; exact oO _
 have cR:=ω bk;obtain⟨w1,bm⟩:∃ w1,(w.setCell ⟨g,5+k,none⟩ (.string s0)).drew=w1:=⟨_,rfl⟩;have H1:=ω (show aQ w1 g (upd z k I) far H x from by rw [<- bm]; exact iO.drew H1.z)
 have c3:w.grownBy w1 (some g):=by
  rw [<- bm];have:=aR w g (5+k) (.string s0);exact⟨this.os,this.tape,this.output,this.size,this.block⟩
 have ca:=ω c3;have ce:=ω bm;have bW:=ω b4;have O7:=ω hcut;have HF:=ω hF;have Hl:=ω hl;have a8:=ω cE;have cy:far k<=s0.size:=by omega
 have cI:=ω aE;have Hc:=ω hc;clear h hc hs hF cE hl dA bl dv aE dc bk d6 hcut b4 c3 bm;go_enter Tryz.func8,Tryz.ntmps8
 go_wp2_with fail
 refine HO.mono ?_;rintro e0 w0 ⟨rfl,rfl⟩;clear HO;go_wp2
 go_region
 rw [bW.z,ce.z];clear bW ce y0 y1 z0 d7 d8 hr;have c0:ζ w1 g (5+k) (.string s0):=by have:=aQ.gotK H1.z J; rwa [bL,cR.z] at this
 have c1:ζ w1 g (13+k) (.int .i64 (far k:Int)):=aQ.far_ H1.z J;obtain⟨F,a4⟩:∃ F,far k=F:=⟨_,rfl⟩;rw [a4] at c1 cy O7;have bu:=ω a4
 have q1:∀ W:World,(Instr.slice 9 (.string s0) (some (.int .i64 (F:Int))) none none).run Tryz.prog W = .ok (.string s) W:=fun W=>by
  rw [run_slice_string_from_if (P:=Tryz.prog) (w:=W) 9 s0 .i64 (F:Int) Tryz.underlying9,if_pos ⟨by omega,by omega⟩,show ((F:Int)).toNat=F from by omega,O7.z]
 have LJ:=H1.blk.lt;have c9:(k:Int)<8:=by omega
 clear a4 cy O7
 go_wp2_with fail
 refine rq 209 (Ns g k s0 s F m e) [13] (Nt w1 B) none (show Nt w1 B 0 none w1.drew from ⟨(θ).drew,fun _=>rfl,fun h=>absurd h (by decide)⟩) ?_ ?_
 · refine⟨?_,?_,?_,?_,?_,?_,?_,?_,?_,?_,?_,?_,?_,?_,?_,?_,?_,?_,?_,?_,?_,trivial⟩
   · exact ok0 0 1 0 rfl fun _=>rfl
   · exact ok0 0 1 1 rfl fun _=>rfl
   · exact ok1 0 1 0 42 rfl rfl (fun _ _ h=>h) fun _=>rfl
   · exact ok1 0 1 2 44 rfl rfl (fun _ _ h=>h) fun _=>rfl
   · refine okQ 0 1 fun p γ T r _ _ a o=>?_;obtain⟨u1,l,rfl⟩:=o.g 3 45 rfl rfl;obtain⟨u2,y,rfl⟩:=o.g 1 43 rfl rfl;simp [go_sem,Oper.wp,execOp,Act.eval,l,y,c9];exact⟨_,rfl,γ,fun _ _ _ h=>h,rfl,a⟩
   · refine okQ 0 1 fun p γ T r _ _ a o=>?_;obtain⟨u1,l,rfl⟩:=o.g 4 46 rfl rfl;have hc:=(a.below.cell (p:=⟨g,5+k,none⟩) LJ).trans c0;simp [go_sem,Oper.wp,execOp,Act.eval,l,hc];exact⟨_,rfl,γ,fun _ _ _ h=>h,rfl,a⟩
   · exact ok0 0 1 0 rfl fun _=>rfl
   · exact ok0 0 1 1 rfl fun _=>rfl
   · exact ok1 0 1 6 48 rfl rfl (fun _ _ h=>h) fun _=>rfl
   · exact ok1 0 1 8 50 rfl rfl (fun _ _ h=>h) fun _=>rfl
   · refine okQ 0 1 fun p γ T r _ _ a o=>?_;obtain⟨u1,l,rfl⟩:=o.g 9 51 rfl rfl;obtain⟨u2,y,rfl⟩:=o.g 7 49 rfl rfl;simp [go_sem,Oper.wp,execOp,Act.eval,l,y,c9];exact⟨_,rfl,γ,fun _ _ _ h=>h,rfl,a⟩
   · refine okQ 0 1 fun p γ T r _ _ a o=>?_;obtain⟨u1,l,rfl⟩:=o.g 10 52 rfl rfl;have hc:=(a.below.cell (p:=⟨g,13+k,none⟩) LJ).trans c1;simp [go_sem,Oper.wp,execOp,Act.eval,l,hc];exact⟨_,rfl,γ,fun _ _ _ h=>h,rfl,a⟩
   · refine okQ 0 1 fun p γ T r _ _ a o=>?_;obtain⟨u1,l,rfl⟩:=o.g 5 47 rfl rfl;obtain⟨u2,y,rfl⟩:=o.g 11 53 rfl rfl;simp [go_sem,Oper.wp,execOp,Act.eval,l,y,q1];exact⟨_,rfl,γ,fun _ _ _ h=>h,rfl,a⟩
   · refine .inl ⟨0,rfl,fun γ T r a o=>aL rfl ?_⟩;obtain⟨u1,l,rfl⟩:=o.g 12 54 rfl rfl;have a:=(show Nt w1 B 0 γ r from a);simp [go_sem,Oper.wp,execOp,Act.eval,l];refine (Eg HF.z r a8.z).mono ?_;rintro O w' ⟨A,n,aA,rfl,hn,ho,hb⟩;obtain rfl:=a.none_ rfl;exact⟨_,rfl,some (A,n,aA),LL,⟨(A,n,aA),rfl,rfl⟩,⟨a.below.trans (hb.mono a.below.size),fun h=>absurd h (by decide),fun _=>⟨(A,n,aA),rfl,hn,cZ ho a.below.size⟩⟩⟩
   · refine okQ 0 1 fun p γ T r _ _ a o=>?_;obtain⟨u1,l,q1,au,rfl⟩:=o.g 13 55 rfl rfl;simp [go_sem,Oper.wp,execOp,Act.eval,l];exact⟨_,rfl,γ,fun _ _ _ h=>h,⟨q1,au,rfl⟩,a⟩
   · refine okQ 0 1 fun p γ T r _ _ a o=>?_;obtain⟨u1,l,q1,au,rfl⟩:=o.g 14 41 rfl rfl;simp [go_sem,Oper.wp,execOp,Act.eval,l];exact⟨_,rfl,γ,fun _ _ _ h=>h,⟨q1,au,rfl⟩,a⟩
   · refine okQ 0 1 fun p γ T r _ _ a o=>?_;obtain⟨u1,l,q1,au,rfl⟩:=o.g 14 41 rfl rfl;simp [go_sem,Oper.wp,execOp,Act.eval,l];exact⟨_,rfl,γ,fun _ _ _ h=>h,rfl,a⟩
   · refine okQ 0 1 fun p γ T r _ _ a o=>?_;obtain⟨u1,l,q1,au,rfl⟩:=o.g 14 41 rfl rfl;simp [go_sem,Oper.wp,execOp,Act.eval,l];exact⟨_,rfl,γ,fun _ _ _ h=>h,rfl,a⟩
   · refine okQ 0 1 fun p γ T r _ _ a o=>?_;obtain⟨u1,l,q1,au,rfl⟩:=o.g 15 56 rfl rfl;simp [go_sem,Oper.wp,execOp,Act.eval,l];exact⟨_,rfl,γ,fun _ _ _ h=>h,⟨q1,au,rfl⟩,a⟩
   · exact ok1 0 1 16 57 rfl rfl (fun _ _ h=>h) fun _=>rfl
   · exact ok1 0 1 17 58 rfl rfl (fun _ _ h=>h) fun _=>rfl
 intro γ cU w2 hd;have a:=(show Nt w1 B 1 γ w2 from hd.ph);obtain⟨fv,rfl,ai⟩:=hd.frame [42,43,44,45,46,47,48,49,50,51,52,53,54,55,41,56,57,58,8,9,10] rfl;obtain⟨⟨A,n,aA⟩,hq,bE,bi⟩:=a.row (by decide);dsimp only at bE bi
 have f8:fv 8 = .slice A n aA:=by
  obtain⟨q',O,e2⟩:=(show ∃ q',γ=some q'/\fv 8 = .slice q'.1 q'.2.1 q'.2.2 from ai 18 _ 8 rfl rfl);rw [hq] at O;injection O with O;rw [e2,<- O]
 have f9:fv 9 = .int .i64 (m:Int):=ai 19 _ 9 rfl rfl;have cm:fv 10 = .int .i64 (e:Int):=ai 20 _ 10 rfl rfl;simp only [foldl_cons,foldl_nil,setIfInBounds_toArray,set_cons_succ,set_cons_zero,f8,f9,cm];have b6:=a.below;clear hd ai a hq f8 f9 cm c0 c1 q1;have y:aQ w2 g (upd z k I) far H x:=iO.below H1.z b6;have y0:ζ w2 g (13+k) (.int .i64 (F:Int)):=by rw [<- bu.z]; exact aQ.far_ y J
 have z0:κ w2 g (13+k):=y.blk.thaw _;have cD:=HF.facts;have d9:=a8.z;have cz:=a4;have df:(F:Int)+(m:Int)<=9223372036854775807:=by have:=bu.z; have:=cz; omega
 have de:0<=(F:Int)+(m:Int):=by omega
 have dM:=y.blk.lt;obtain⟨w3,bn⟩:∃ w3,(w2.setCell ⟨g,13+k,none⟩ (.int .i64 ((F:Int)+(m:Int)))).drew=w3:=⟨_,rfl⟩;have a5:=aR w2 g (13+k) (.int .i64 ((F:Int)+(m:Int)));have bh:w2.grownBy w3 (some g):=by rw [<- bn]; exact⟨a5.os,a5.tape,a5.output,a5.size,a5.block⟩
 have X:aQ w3 g (upd z k I) (upd far k (F+m)) H x:=by
  rw [<- bn];have:=aQ.O4 y J (F+m);rw [Int.natCast_add] at this;exact iO.drew this
 have bt:=ω (kX.own (V:=g) (g:=g) ⟨w1.heap.size,LJ,bi⟩ lJ);have cw:=(cS bi).qR bt.z bh;have bT:=ω cw;have H3:=ω X;have cQ:=ω (aP (aP ca.z (grown_of g b6)) bh);have ba:=ω bE;have cf:=ω bn;have dz:n<=2097152:=by omega
 have dD:=bh.size;have b8:e≠0:=cD.2.1;clear y a5 bh X bi cw bE bn cD d9 b6 cz ca H1;go_wp2
 go_region
 rw [cf.z];clear cf y0 z0 de df;obtain⟨L,bb⟩:∃ L:cL,(⟨H.st,H.now,upd H.cs k (mF (H.cs k) s m e)⟩:cL)=L:=⟨_,rfl⟩
 have bv:aQ w3 g (upd z k I) (upd far k (F+m)) L x:=by
  rw [<- bb]
  show iO (ow _ _ (upd H.cs k _)) w3 _ g H.st x H.now
  rw [Gu _ _ _ k (mF (H.cs k) s m e) rfl rfl rfl];exact H3
 have bJ:=ω bv;have bM:=ω bb;have du:B.length<=2097152:=by rw [ba.z]; exact dz
 have rG:=ω (fun j i (hi:i<8)=>show ((bZ tlW rqF k L (B.take j)).cs i).waits.length<=35184371000000 from by
  have l:=(nV (tl:=tlW) (rq:=rqF) (k:=k) zP (B.take j) L).1 i;have y:=Hl.z i hi
  have X:(L.cs i).waits=(H.cs i).waits:=by
   rw [<- bM.z]
   show (upd H.cs k _ i).waits=_
   by_cases e:i=k
   · subst e; rw [bL]; rfl
   · rw [upd_ne _ _ e]
  rw [X,List.length_take] at l;have h4:min j B.length*21000<=2097152*21000:=Nat.mul_le_mul_right _ (by omega);omega)
 have bX:=ω (show (L.cs k).closed=false from by rw [<- bb]; show (upd H.cs k _ k).closed=false; rw [bL]; exact Hc)
 have aU:=ω (show jG tlW rqF H k s B m e=if e≠3/\((bZ tlW rqF k L B).cs k).closed=false then jS (bZ tlW rqF k L B) k e else bZ tlW rqF k L B from by
  unfold jG;rw [show ({ H with cs:=upd H.cs k (mF (H.cs k) s m e) }:cL)=L from bM.z])
 have dN:=bv.blk.lt;clear H3 bv bb du
 go_upto_block 0 with fail
 go_cut [] (fun r=>∃ x',aQ r g (upd z k I) (upd far k (F+m)) (bZ tlW rqF k L B) x'/\w3.grownBy r (some g))
 case rest=>
  obtain⟨x',hA,hT⟩:=hcut;have ap:=rG.z B.length k J;rw [List.take_length] at ap;obtain⟨HZ,cu⟩:∃ HZ,bZ tlW rqF k L B=HZ:=⟨_,rfl⟩;rw [cu] at hA aU ap;have y1:ζ wc g (21+k) (.bool (HZ.cs k).closed):=aQ.closed hA J;have dR:=hA.blk.lt
  have ax:=ω (fun am xz wz (l:aQ wz g (upd z k I) (upd far k (F+m)) am xz) (y:w3.grownBy wz (some g)) (X:jG tlW rqF H k s B m e=am)=>show Cr g (upd z k (z k ++ p.data.toList)) (upd far k (far k+m)) (jG tlW rqF H k s B m e) k w (.returned (.tuple #[(BA (am.cs k).waits),(0:Int)])) (sX wz g (37+k) (.string ⟨#[]⟩)) from by
   rw [X,cI.z,bu.z];exact⟨rfl,xz,aQ.flush l J,aP (aP cQ.z y) (aR wz g (37+k) _)⟩)
  have HA:=ω hA;have HT:=ω hT;have ar:=ω ap;clear hA hT ap cu rG bX bJ bT bt;by_cases X:e=3
  · have G:=ω (ax.z HZ x' wc HA.z HT.z (by rw [aU.z,if_neg (fun h=>h.1 X)]));have d0:((e:Int) != 3)=false:=by subst X; rfl
    obtain⟨t1,ae⟩:∃ t1,BA (HZ.cs k).waits=t1:=⟨_,rfl⟩;have y2:ζ wc g (37+k) (.string t1):=by rw [<- ae]; exact aQ.waits HA.z J
    have z2:κ wc g (37+k):=HA.blk.thaw _;rw [ae] at G;clear ae ax X b8;go_wp2;go_ret2;exact G
  · have d0:((e:Int) != 3)=true:=bne_iff_ne.2 (by omega);cases S:(HZ.cs k).closed
    · have HR:=ω (rO (e:Int) wc HA.z J (by have:=ar.z; omega));have HC:=ω (show jG tlW rqF H k s B m e=jS HZ k e from by rw [aU.z,if_pos ⟨X,S⟩]);rw [S] at y1;clear S X b8
      go_wp2_with fail
      refine HR.mono ?_;rintro O K ⟨rfl,x4,h4,g4⟩;have z1:κ K g (21+k):=h4.blk.thaw _;have y1:K.cell? ⟨g,21+k,none⟩=some (.bool _):=aQ.closed h4 J;obtain⟨U,aq⟩:∃ U,K.setCell ⟨g,21+k,none⟩ (.bool true)=U:=⟨_,rfl⟩;have h5:=aQ.close h4 J;have g5:=aR K g (21+k) (.bool true);rw [aq] at h5 g5;have G:=ω (ax.z _ x4 U h5 (aP HT.z (aP g4 g5)) HC.z);obtain⟨t1,ae⟩:∃ t1,BA ((jS HZ k e).cs k).waits=t1:=⟨_,rfl⟩;have y2:ζ U g (37+k) (.string t1):=by rw [<- ae]; exact aQ.waits h5 J
      have z2:κ U g (37+k):=h5.blk.thaw _;have dO:=h4.blk.lt;have cB:=h5.blk.lt;have a9:=ω aq;rw [ae] at G;clear ae ax HR HA HT h4 g4 h5 g5 aq
      go_upto_region 36 with fail
      rw [a9.z];go_wp2;go_ret2;exact G
    · have G:=ω (ax.z HZ x' wc HA.z HT.z (by rw [aU.z,if_neg (fun h=>by rw [S] at h; exact absurd h.2 (by decide))]));obtain⟨t1,ae⟩:∃ t1,BA (HZ.cs k).waits=t1:=⟨_,rfl⟩;have y2:ζ wc g (37+k) (.string t1):=by rw [<- ae]; exact aQ.waits HA.z J
      have z2:κ wc g (37+k):=HA.blk.thaw _;rw [ae] at G;rw [S] at y1;clear ae ax X b8 S;go_wp2;go_ret2;exact G
 case first=>
  go_wp2_with fail
  go_loopg [72] n (fun gh i wr=>∃ j x',j<=n/\gh=n - j/\i = .int .i64 ((j:Nat):Int)/\aQ wr g (upd z k I) (upd far k (F+m)) (bZ tlW rqF k L (B.take j)) x'/\((bZ tlW rqF k L (B.take j)).cs k).closed=false/\w3.grownBy wr (some g))
  case atStart=>exact⟨0,x,Nat.zero_le _,by omega,rfl,bJ,bX,bO _ _⟩
  case round=>
   obtain⟨j,x',hj,rfl,rfl,hA,S,hT⟩:=hrel;by_cases hlt:j<n
   · obtain⟨f,hf⟩:∃ f,B[j]? = some f:=⟨_,gO (by rw [ba.z]; exact hlt)⟩;have d4:=HF.pays f (m8 hf);obtain⟨c,bx⟩:∃ c,bZ tlW rqF k L (B.take j)=c:=⟨_,rfl⟩;have aF:=qZ (tl:=tlW) (rq:=rqF) (k:=k) (H:=L) hf
     have cx:∀ am,bZ tlW rqF k L (B.take (j+1))=am->(am.cs k).closed=true->bZ tlW rqF k L B=am:=fun am l y=>by
      rw [<- List.take_append_drop (j+1) B,Df,l];exact uN _ _ y
     have ap:=fun i hi=>rG.z j i hi;rw [bx] at hA S aF;simp only [bx] at ap;rw [if_neg (by rw [S]; decide)] at aF;obtain⟨b,dW,rfl,dE,hc⟩:=(bT.qR bt.z hT).eC qP ba.z hf;obtain⟨d0,d1,d2⟩:=rc3 hc;have dd:=hT.size;have dI:b<wr.heap.size:=by omega
     have dS:j*3+3<=n*3:=by omega
     obtain⟨r,bp⟩:∃ r,wr.alloc (.cells #[(f.ver:Int),(f.kind:Int),f.pay] 78)=r:=⟨_,rfl⟩;have bg:Below wr wr r:=by rw [<- bp]; exact (θ).alloc lJ _
     have BO:Blk r wr 78 #[(f.ver:Int),(f.kind:Int),f.pay]:=by rw [<- bp]; exact n5 wr _
     have f2:ζ r wr 2 (.string f.pay):=BO.cell 2;have dy:=BO.lt;have bq:=ω (Gh f.pay r (by have:=a8.z; omega));have O8:=AP f.pay (by have:=a8.z; omega);obtain⟨q,hq⟩:∃ q,(rqF f.pay).1=q:=⟨_,rfl⟩;obtain⟨E,hE⟩:∃ E,(rqF f.pay).2=E:=⟨_,rfl⟩
     have c7:E=0->1<=q.kind/\q.kind<=9:=fun h=>by
      have y:=(MH (b:=f.pay) (hE.trans h) (by have:=a8.z; omega)).2;rw [hq] at y;by_cases hr:ranged q.kind 1 9=true
      · exact aM.1 hr
      · unfold cO at y;rw [if_pos (by simpa using hr)] at y;exact absurd y (by decide)
     have ao:jy tlW rqF c k f=if f.ver≠3\/f.kind≠3 then jS c k 1 else if E≠0 then jS c k E else lW tlW c k q:=by unfold jy; rw [hq,hE]
     rw [ao] at aF;rw [hq,hE] at bq;rw [hq] at O8;have cK:=ω bg;have Nu:=ω BO;have cg:=ω bp;have HA:=ω (hA.below bg);have HT:=ω (aP hT (grown_of g bg));have a0:=ω aF;have aW:=ω cx;have ar:=ω ap;have cd:=ω O8;have bY:=ω S;have cb:=ω c7;clear c7 hf d4 bx aF cx ap hc hT dd bg BO bp hA O8 hq hE ao S
     go_wp2_with fail
     try simp only [cg.z]
     refine bq.mono ?_;rintro e2 K ⟨rfl,a2⟩;obtain⟨U,aq⟩:∃ U,K.alloc (.cells (aV q) 87)=U:=⟨_,rfl⟩;have be:Below K K U:=by rw [<- aq]; exact (θ).alloc lJ _
     have bF:Blk U K 87 (aV q):=by rw [<- aq]; exact n5 K _
     have h5:=(HA.below a2).below be;have b9:=(Nu.below a2 Nu.lt).below be (Nu.below a2 Nu.lt).lt;obtain⟨v0,v1⟩:=Blk.c2 (b9);have dT:=b9.lt;have cB:=h5.blk.lt;have dx:=bF.lt;have H5:=ω h5;have aS:=ω bF;have aY:=ω (aP (aP HT.z (grown_of g a2)) (grown_of g be));have a9:=ω aq;have dU:wr.heap.size<=K.heap.size:=by have:=a2.size; have:=cK.size; omega
     clear a2 be bF aq h5 b9 HA HT cg bq d0 d1 d2 f2 dy;unfold bP;unfold aV at a9 |-
     go_upto_region 12 with fail
     rw [a9.z];clear a9;by_cases bC:f.ver=3/\f.kind=3/\E=0
     · obtain⟨g1,g2,rfl⟩:=bC;have HS:=ω (show bZ tlW rqF k L (B.take (j+1))=lW tlW c k q from by rw [a0.z,if_neg (by omega),if_neg (by omega)]);rw [g1] at v0;rw [g2] at v1;clear g1 g2 a0 aW;obtain⟨R,hR⟩:∃ R,lO c.st c.now (lG c.st c.now q)=R:=⟨_,rfl⟩;obtain⟨D,hD⟩:∃ D,(if R.ch=true then dL c.st R.st else zD)=D:=⟨_,rfl⟩;have bj:=Il (q:=q) H5.ok H5.t;rw [hR] at bj
       have bK:=ω (fun r (γ:DoG) (a:DoP U g K (ow (upd z k I) (upd far k (F+m)) c.cs) c.st x' c.now q R D 0 γ r)=>show ψ 29 #[π g 0,.agg (aV q)] r (fun e w'=>∃ d:eF × StA,e = .returned (.tuple #[.agg #[R.e,R.st.rev],.agg (dC D d.1),.bool R.ch])/\DoP U g K (ow (upd z k I) (upd far k (F+m)) c.cs) c.st x' c.now q R D 1 ⟨γ.N,γ.M,some d⟩ w') from by
        refine (LH _ 41 q c.st x' c.now g r (a.h0 rfl).2 cd.z).mono ?_;rw [hR];rintro O w' ⟨D',u,x2,rfl,da,dt,ao,hb,ak,Nd,hg⟩;have db:=da.trans hD;subst db;exact⟨(u,x2),rfl,a.call hg ⟨hb,ak,bj.1,bj.2,Nd⟩ dt ao⟩)
       have H0:=ω (show DoP U g K (ow (upd z k I) (upd far k (F+m)) c.cs) c.st x' c.now q R D 0 ⟨none,none,none⟩ U from ⟨bO _ _,cB,aS,⟨dx,bH aS.z H5.blk (by decide)⟩,fun _=>⟨rfl,H5⟩,fun h=>absurd h (by decide),(fun _ e=>by cases e),(fun _ e=>by cases e)⟩);have HR:=ω hR;have HD:=ω hD;clear hR hD bj
       go_wp2_with fail
       refine rq 209 (doV g K q R D) [4,11,12] (DoP U g K (ow (upd z k I) (upd far k (F+m)) c.cs) c.st x' c.now q R D) ⟨none,none,none⟩ H0.drew ?_ ?_
       · refine⟨?_,?_,?_,?_,?_,?_,?_,?_,?_,?_,?_,?_,?_,?_,trivial⟩
         · exact ok0 0 3 0 rfl fun _=>rfl
         · exact ok1 0 3 0 102 rfl rfl (fun _ _ h=>h) fun _=>rfl
         · exact ok1 0 3 1 103 rfl rfl (fun _ _ h=>h) fun _=>rfl
         · refine okQ 0 3 fun p γ T r _ _ a o=>?_;have l:=o.k 13 rfl (by decide +kernel);obtain⟨dg,dh,di,dj,dk,dl,dm,dn,dq,dr,F8,F9,Ga,Gb⟩:=Blk.c14 (a.q);simp [go_sem,Oper.wp,execOp,Act.eval,l,dg,dh,di,dj,dk,dl,dm,dn,dq,dr,F8,F9,Ga,Gb];exact⟨_,rfl,γ,fun _ _ _ h=>h,rfl,a⟩
         · refine .inl ⟨0,rfl,fun γ T r a o=>aL rfl ?_⟩;obtain⟨u1,l,rfl⟩:=o.g 2 104 rfl rfl;obtain⟨u2,y,rfl⟩:=o.g 3 105 rfl rfl;simp [go_sem,Oper.wp,execOp,Act.eval,l,y];refine (bK.z r γ a).mono ?_;rintro O w' ⟨d,rfl,d3⟩;exact⟨_,rfl,_,PW ((show DoP U g K _ c.st x' c.now q R D 0 γ r from a).h0 rfl).1 (some d),⟨d,rfl,rfl⟩,d3⟩
         · refine okQ 0 3 fun p γ T r _ _ a o=>?_;obtain⟨u1,l,d,ed,rfl⟩:=o.g 4 106 rfl rfl;simp [go_sem,Oper.wp,execOp,Act.eval,l];exact⟨_,rfl,γ,fun _ _ _ h=>h,⟨d,ed,rfl⟩,a⟩
         · refine okQ 0 3 fun p γ T r _ _ a o=>?_;obtain⟨u1,l,d,ed,rfl⟩:=o.g 5 101 rfl rfl;simp [go_sem,Oper.wp,execOp,Act.eval,l];exact⟨_,rfl,γ,fun _ _ _ h=>h,rfl,a⟩
         · refine okQ 0 3 fun p γ T r _ _ a o=>?_;obtain⟨u1,l,d,ed,rfl⟩:=o.g 5 101 rfl rfl;simp [go_sem,Oper.wp,execOp,Act.eval,l];exact⟨_,rfl,γ,fun _ _ _ h=>h,⟨d,ed,rfl⟩,a⟩
         · refine okQ 0 3 fun p γ T r _ _ a o=>?_;obtain⟨u1,l,d,ed,rfl⟩:=o.g 5 101 rfl rfl;simp [go_sem,Oper.wp,execOp,Act.eval,l];exact⟨_,rfl,γ,fun _ _ _ h=>h,rfl,a⟩
         · refine okQ 0 1 fun p γ T r _ _ a o=>?_;simp [go_sem,Oper.wp,execOp,Act.eval];exact⟨_,rfl,_,PU (some r),⟨_,rfl,rfl⟩,a.alloc (by omega) _ _ _ (fun n e=>.inr ⟨(Option.some.inj e).symm,rfl⟩) fun n e=>.inl e⟩
         · refine okQ 0 1 fun p γ T r _ _ a o=>?_;simp [go_sem,Oper.wp,execOp,Act.eval];exact⟨_,rfl,_,PV (some r),⟨_,rfl,rfl⟩,a.alloc (by omega) _ _ _ (fun n e=>.inl e) fun n e=>.inr ⟨(Option.some.inj e).symm,rfl⟩⟩
         · refine .inl ⟨1,rfl,fun γ T r a o=>aL rfl ?_⟩;obtain⟨u1,l,r1,ck,rfl⟩:=o.g 9 15 rfl rfl;obtain⟨u2,y,rfl⟩:=o.g 6 107 rfl rfl;have a:=(show DoP U g K _ c.st x' c.now q R D 1 γ r from a);have hB:Blk r r1 92 #[(0:Int),(0:Int)]:=(a.n r1 ck).2;obtain⟨z0,z1⟩:=Blk.z2 (hB);obtain⟨c0,c1⟩:=Blk.c2 (hB);have bA:=a.O5 ck (aJ (aJ (bO r r1) 0 (.int .i64 R.e)) 1 (.int .i64 R.st.rev)) (Blk.eq ((hB.set 0 (.int .i64 R.e)).set 1 (.int .i64 R.st.rev)) rfl);clear hB a;simp [go_sem,Oper.wp,execOp,Act.eval,l,y,c0,c1,z0,z1];exact⟨.int .i64 0,γ,fun _ _ _ h=>h,trivial,bA⟩
         · refine .inl ⟨2,rfl,fun γ T r a o=>aL rfl ?_⟩;obtain⟨u1,l,d1,ci,rfl⟩:=o.g 10 16 rfl rfl;obtain⟨u2,y,d,ed,rfl⟩:=o.g 7 108 rfl rfl;obtain⟨u,x2⟩:=d;have a:=(show DoP U g K _ c.st x' c.now q R D 2 γ r from a);have hB:=(a.m d1 ci).2.1 (by decide);obtain⟨z0,z1,z2,z3,z4,z5,z6,z7⟩:=Blk.z8 (hB);obtain⟨c0,c1,c2,cV,c4,c5,cW,cX⟩:=Blk.c8 (hB);have bA:=a.O6 ci ed (aJ (aJ (aJ (aJ (aJ (aJ (aJ (aJ (bO r d1) 0 (.int .i64 D.from_)) 1 (.int .i64 D.to_)) 2 (.slice u.aj u.nj u.cj)) 3 (.slice u.an u.nn u.cn)) 4 (.slice u.al u.nl u.cl)) 5 (.slice u.agj u.ngj u.cgj)) 6 (.slice u.agn u.ngn u.cgn)) 7 (.slice u.agl u.ngl u.cgl)) (Blk.eq ((((((((hB.set 0 (.int .i64 D.from_)).set 1 (.int .i64 D.to_)).set 2 (.slice u.aj u.nj u.cj)).set 3 (.slice u.an u.nn u.cn)).set 4 (.slice u.al u.nl u.cl)).set 5 (.slice u.agj u.ngj u.cgj)).set 6 (.slice u.agn u.ngn u.cgn)).set 7 (.slice u.agl u.ngl u.cgl)) rfl);unfold dC at y;clear hB a;simp [go_sem,Oper.wp,execOp,Act.eval,l,y,c0,c1,c2,cV,c4,c5,cW,cX,z0,z1,z2,z3,z4,z5,z6,z7];exact⟨.int .i64 0,γ,fun _ _ _ h=>h,trivial,bA⟩
         · exact ok1 0 3 8 109 rfl rfl (fun _ _ h=>h) fun _=>rfl
       intro γ cU w6 hd;have a:=(show DoP U g K (ow (upd z k I) (upd far k (F+m)) c.cs) c.st x' c.now q R D 3 γ w6 from hd.ph);obtain⟨fv,rfl,ai⟩:=hd.frame [102,103,104,105,106,101,107,108,109,15,16,17] rfl;obtain⟨N,eN,co⟩:=ai 9 _ 15 rfl rfl;obtain⟨M,eM,cp⟩:=ai 10 _ 16 rfl rfl;have cq:fv 17 = .bool R.ch:=ai 13 _ 17 rfl rfl;simp only [foldl_cons,foldl_nil,setIfInBounds_toArray,set_cons_succ,set_cons_zero,co,cp,cq];obtain⟨⟨u,x6⟩,ed,b1,b7,ao⟩:=a.h1 (by decide);dsimp only at b1 b7 ao;have hN:Blk w6 N 92 #[R.e,R.st.rev]:=(a.n N eN).2
       have hM:Blk w6 M 95 (dC D u):=by
        obtain⟨d',O,e2⟩:=(a.m M eM).2.2 (by decide);rw [ed] at O;injection O with O;subst O;exact e2
       have c6:=a.gr;have b0:=a.q;have h6:aQ w6 g (upd z k I) (upd far k (F+m)) ⟨R.st,R.now,c.cs⟩ x6:=b1;have r0:ζ w6 N 0 (.int .i64 R.e):=hN.cell 0;have bD:=hN.lt;have dw:=h6.blk.lt;have bS:=ω (rO (k:=k) R.e w6 h6 J (by have:=ar.z k J; dsimp only; omega));have bU:=ω (aP aY.z c6);have bQ:=ω hN;have bN:=ω hM;have bR:=ω b0;have ab:=ω (show N≠g/\M≠g/\K.heap.size≠g from ⟨bH hN h6.blk (by decide),bH hM h6.blk (by decide),bH b0 h6.blk (by decide)⟩);have cN:=ω b7;have cP:=ω ao;clear hd ai a ed b1 b7 ao hN hM c6 b0 h6 eN eM co cp cq H0 bK H5 aS aY v0 v1
       go_wp2_with fail
       refine bS.mono ?_;rintro O w7 ⟨rfl,x7,h7,g7⟩;have bc:=ay g7 bQ.z ab.z.1;have cv:=ay g7 bN.z ab.z.2.1;have bd:=ay g7 bR.z ab.z.2.2;have r0:ζ w7 N 0 (.int .i64 R.e):=bc.cell 0;have q0:ζ w7 K 0 (.int .i64 q.kind):=bd.cell 0;have bD:=bc.lt;have cA:=bd.lt;have cC:=h7.blk.lt;have H7:=ω h7;have a6:=ω cv;have aT:=ω bd;have aO:=ω bc;have G7:=ω g7;have d5:=ng R.e R.st.rev (c.cs k);have az:=ω (Cq (k:=k) w7 h7 J (by have:=ar.z k J; dsimp only; rw [bL]; omega));obtain⟨Z,cr⟩:∃ Z,jw tlW q R (c.cs k)=Z:=⟨_,rfl⟩;have aI:=ω cr;clear cr bc cv bd h7 g7 bS bQ bN bR d5;have cc:φ (∃ b E2,(mh D).1=b/\(mh D).2=E2):=ω ⟨_,_,rfl,rfl⟩
       have ds:(((R.e == 0)=false/\Z=iU R.e R.st.rev (c.cs k))\/(R.e=0/\¬ 7<q.kind/\(q.kind == 9)=false/\Z=iU R.e R.st.rev (c.cs k)))\/(R.e=0/\q.kind=8/\Z=uD (tlW R.st) (iU R.e R.st.rev (c.cs k)))\/(R.e=0/\q.kind=9/\Z = { uD (tlW R.st) (iU R.e R.st.rev (c.cs k)) with aG:=true }):=by
        have dG:1<=q.kind/\q.kind<=9:=cb.z (by trivial);rw [<- aI.z];unfold jw oC;by_cases h0:R.e=0
        · by_cases Y:q.kind=8
          · exact .inr (.inl ⟨h0,Y,by rw [if_pos ⟨h0,.inl Y⟩,Y]; show ({ uD (tlW R.st) (iU R.e R.st.rev (c.cs k)) with aG:=(c.cs k).aG || false }:bf)=_; rw [Bool.or_false]; rfl⟩)
          · by_cases h9:q.kind=9
            · exact .inr (.inr ⟨h0,h9,by rw [if_pos ⟨h0,.inr h9⟩,h9]; show ({ uD (tlW R.st) (iU R.e R.st.rev (c.cs k)) with aG:=(c.cs k).aG || true }:bf)=_; rw [Bool.or_true]⟩)
            · exact .inl (.inr ⟨h0,by omega,beq_eq_false_iff_ne.2 h9,by rw [if_neg (fun h=>h.2.elim Y h9)]⟩)
        · exact .inl (.inl ⟨beq_eq_false_iff_ne.2 h0,by rw [if_neg (fun h=>h0 h.1)]⟩)
       obtain⟨b2,E2,b3,aD⟩:=cc.z;clear cc
       have aW:φ (∀ w8 x8,aQ w8 g (upd z k I) (upd far k (F+m)) ⟨R.st,R.now,lcD R.ch R.st b2 E2 (upd c.cs k Z) 8⟩ x8->aQ w8 g (upd z k I) (upd far k (F+m)) (bZ tlW rqF k L (B.take (j+1))) x8/\((bZ tlW rqF k L (B.take (j+1))).cs k).closed=false):=ω fun w8 x8 Y=>by
        rw [HS.z,EU];refine⟨?_,bY⟩
        have O:lW tlW c k q=⟨R.st,R.now,lcD R.ch R.st b2 E2 (upd c.cs k Z) 8⟩:=by
         have hD:=HD.z;unfold lW;dsimp only;rw [HR.z,aI.z];unfold lcD;cases a3:R.ch
         · rfl
         · rw [a3,if_pos rfl] at hD;rw [if_pos rfl,if_pos rfl,hD,<- b3,<- aD];rfl
        rw [O];exact Y
       have ct:Z.waits.length<=(c.cs k).waits.length+14000:=by
        rw [<- aI.z];unfold jw;have l:=ng R.e R.st.rev (c.cs k)
        split
        · have y:=Ae zP R.st (iU R.e R.st.rev (c.cs k))
          show (uD _ _).waits.length<=_
          omega
        · omega
       have cF:φ (∀ i,i<8->(upd c.cs k Z i).waits.length<=35184371100000):=ω fun i hi=>by
        have l:=wo (cs:=c.cs) (k:=k) ct i;have y:=ar.z i hi;omega
       have bV:=ω b3;have cH:=ω aD;clear b3 aD ct HS ar cd bY cb HR aI;rcases ds with (⟨d0,ad⟩ | ⟨d0,d1,d2,ad⟩) | ⟨d0,d1,ad⟩ | ⟨d0,d1,ad⟩
       focus
        have af:=H7.z
        try dsimp only at af
        rw [<- ad] at af;have H7:=ω af;clear ad af az;go_wp2
       rotate_left
       focus
        have af:=H7.z
        try dsimp only at af
        rw [<- ad] at af;have H7:=ω af;rw [d0] at r0;have D0:=ω d0;clear ad d0 af az;go_wp2
       rotate_left
       focus
        rw [d0] at r0;rw [d1] at q0;have D0:=ω d0;have D1:=ω d1;have br:=ω ad;clear d0 d1 ad
        go_wp2_with fail
        refine az.mono ?_;rintro O w7 ⟨rfl,x7,Y,g8⟩;have av:=ay g8 aO.z ab.z.1;have aw:=ay g8 aT.z ab.z.2.2;have a6:=ω (ay g8 a6.z ab.z.2.1);have r0:ζ w7 N 0 (.int .i64 0):=by rw [<- D0.z]; exact av.cell 0
        have q0:ζ w7 K 0 (.int .i64 8):=by rw [<- D1.z]; exact aw.cell 0
        try dsimp only at Y
        rw [nL,bL,<- br.z] at Y;have H7:=ω Y;have G7:=ω (aP G7.z g8);have bD:=av.lt;have cA:=aw.lt;have cC:=Y.blk.lt;clear Y g8 av aw az aO aT;go_wp2
       rotate_left
       focus
        rw [d0] at r0;rw [d1] at q0;have D0:=ω d0;have D1:=ω d1;have br:=ω ad;clear d0 d1 ad
        go_wp2_with fail
        refine az.mono ?_;rintro O w8 ⟨rfl,x7,Y,g8⟩;have av:=ay g8 aO.z ab.z.1;have aw:=ay g8 aT.z ab.z.2.2;have r0:ζ w8 N 0 (.int .i64 0):=by rw [<- D0.z]; exact av.cell 0
        have q0:ζ w8 K 0 (.int .i64 9):=by rw [<- D1.z]; exact aw.cell 0
        have bD:=av.lt;have cA:=aw.lt;have dP:=Y.blk.lt;have z8:κ w8 g (29+k):=Y.blk.thaw _;have y8:w8.cell? ⟨g,29+k,none⟩=some (.bool _):=aQ.aG Y J;obtain⟨w7,bo⟩:∃ w7,w8.setCell ⟨g,29+k,none⟩ (.bool true)=w7:=⟨_,rfl⟩;have g9:=aR w8 g (29+k) (.bool true);have h9:=aQ.ER Y J { uD (tlW R.st) (iU R.e R.st.rev (c.cs k)) with aG:=true } (by show _=bf.closed (upd (upd _ _ _) _ _ _); rw [nL,bL,bL]) (by show _=bf.waits (upd (upd _ _ _) _ _ _); rw [nL,bL,bL])
        try dsimp only at h9
        rw [bo,nL,nL,<- br.z] at h9;rw [bo] at g9;have a6:=ω (ay g9 (ay g8 a6.z ab.z.2.1) ab.z.2.1);have H7:=ω h9;have G7:=ω (aP G7.z (aP g8 g9));have cC:=h9.blk.lt;have cT:=ω bo;clear Y g8 g9 h9 bo av aw az aO aT;go_wp2;rw [cT.z]
       rotate_left
       all_goals
        clear r0 q0;cases a3:R.ch
        · have bs:=ω a3;clear a3
          go_loopg [139] 8 (fun gh i wr=>∃ v x9,v<=8/\gh=8 - v/\i = .int .i64 ((v:Nat):Int)/\aQ wr g (upd z k I) (upd far k (F+m)) ⟨R.st,R.now,lcD R.ch R.st b2 E2 (upd c.cs k Z) v⟩ x9/\w7.grownBy wr (some g))
          case atStart=>exact⟨0,x7,by omega,rfl,rfl,by rw [ES]; exact H7.z,bO _ _⟩
          case round=>
           obtain⟨v,x9,hv,rfl,rfl,aa,ac⟩:=hrel;by_cases JC:v<8
           · have G:=ω (show aQ wr g (upd z k I) (upd far k (F+m)) ⟨R.st,R.now,lcD R.ch R.st b2 E2 (upd c.cs k Z) (v+1)⟩ x9 from by rw [ET (.inl bs.z)]; exact aa);have FT:=ω ac;clear aa ac;go_wp2
             go_roundg (8 - (v+1))
             case measure=>omega
             case rel=>exact⟨v+1,x9,by omega,rfl,by go_num,G.z,FT.z⟩
           · obtain rfl:v=8:=by omega
             have G:=ω (aW.z _ _ aa);have FT:=ω (aP bU.z (aP G7.z ac));clear aa ac;go_wp2
             go_roundg (n - (j+1))
             case measure=>omega
             case rel=>exact⟨j+1,x9,by omega,rfl,by go_num,G.z.1,G.z.2,FT.z⟩
        · have bs:=ω a3;clear a3
          go_loopg [139] 8 (fun gh i wr=>∃ v x9,v<=8/\gh=8 - v/\i = .int .i64 ((v:Nat):Int)/\aQ wr g (upd z k I) (upd far k (F+m)) ⟨R.st,R.now,lcD R.ch R.st b2 E2 (upd c.cs k Z) v⟩ x9/\w7.grownBy wr (some g))
          case atStart=>exact⟨0,x7,by omega,rfl,rfl,by rw [ES]; exact H7.z,bO _ _⟩
          case round=>
           obtain⟨v,x9,hv,rfl,rfl,aa,ac⟩:=hrel;by_cases JC:v<8
           · obtain⟨C,hC⟩:∃ C,upd c.cs k Z v=C:=⟨_,rfl⟩;have y1:ζ wr g (21+v) (.bool C.closed):=by have:=aQ.closed aa JC; dsimp only at this; rwa [Gv,hC] at this
             have y2:ζ wr g (29+v) (.bool C.aG):=by have:=aQ.aG aa JC; dsimp only at this; rwa [Gv,hC] at this
             have bz:=ay ac a6.z ab.z.2.1;obtain⟨m0,m1,m2,m3,m4,m5,m6,m7⟩:=Blk.c8 (bz);have dH:=bz.lt;have bB:=aP G7.z ac;have DE:=CO D u wr ((cN.qR cP.z bB).more bB.size);have b5:=xL D;unfold lC at DE;rw [bV.z,cH.z] at DE;rw [bV.z] at b5;unfold dC at DE;have aN:=ω DE;have cJ:=ω b5;have dQ:=aa.blk.lt;have aH:=ω aa;have a7:=ω ac;have cY:=cF.z v JC;rw [hC] at cY;have dV:(v:Int)<8:=by omega
             have LO:=ω (fun (h:R.ch=false\/C.closed=true\/C.aG=false)=>show aQ wr g (upd z k I) (upd far k (F+m)) ⟨R.st,R.now,lcD R.ch R.st b2 E2 (upd c.cs k Z) (v+1)⟩ x9 from by rw [ET (by rw [hC]; exact h)]; exact aH);have LP:=ω (fun (l:R.ch=true) (y:C.closed=false) (X:C.aG=true)=>show lcD R.ch R.st b2 E2 (upd c.cs k Z) (v+1)=_ from by rw [LM l (by rw [hC]; exact y) (by rw [hC]; exact X),hC]);have aZ:=ω (show lcD R.ch R.st b2 E2 (upd c.cs k Z) v v=C from by rw [Gv,hC]);clear aa ac bz bB DE b5 hC;by_cases ak:C.closed=true\/C.aG=false
             · have G:=ω (LO.z (.inr ak));clear LO LP aN;cases S:C.closed
               · have hw:C.aG=false:=ak.resolve_left (by rw [S]; decide);rw [S] at y1;rw [hw] at y2;clear ak hw S;go_wp2
                 go_roundg (8 - (v+1))
                 case measure=>omega
                 case rel=>exact⟨v+1,x9,by omega,rfl,by go_num,G.z,a7.z⟩
               · rw [S] at y1;clear ak S;go_wp2
                 go_roundg (8 - (v+1))
                 case measure=>omega
                 case rel=>exact⟨v+1,x9,by omega,rfl,by go_num,G.z,a7.z⟩
             · have S:C.closed=false:=by cases h:C.closed with | false=>rfl | true=>exact absurd (.inl h) ak
               have hw:C.aG=true:=by cases h:C.aG with | true=>rfl | false=>exact absurd (.inr h) ak
               have hs:=LP.z bs.z S hw;have Hs:=ω hs;rw [S] at y1;rw [hw] at y2;clear LO LP ak S hw hs
               go_wp2_with fail
               refine aN.mono ?_;rintro O bG ⟨rfl,Nv⟩;have aC:=aH.below Nv;have Nw:=ω (aP a7.z (grown_of g Nv));have dK:g<bG.heap.size:=aC.blk.lt;by_cases a1:E2=0
               · have HG:=ω (Cp (k:=v) 2 b2 bG aC JC (by decide) (by have:=cJ.z; omega) (by dsimp only; rw [aZ.z]; omega));rw [if_pos a1] at Hs;rw [a1];clear aC Nv aN aH a7 y1 y2 m0 m1 m2 m3 m4 m5 m6 m7 a1
                 go_wp2_with fail
                 refine HG.mono ?_;rintro O dB ⟨rfl,bI,ag,aB⟩
                 try dsimp only at ag
                 rw [aZ.z,<- Hs.z] at ag;have G:=ω ag;have FT:=ω (aP Nw.z aB);clear ag aB HG Nw;go_wp2
                 go_roundg (8 - (v+1))
                 case measure=>omega
                 case rel=>exact⟨v+1,bI,by omega,rfl,by go_num,G.z,FT.z⟩
               · have HG:=ω (Cq (k:=v) bG aC JC (by dsimp only; rw [aZ.z]; omega));rw [if_neg a1] at Hs;have bw:(E2 == 0)=false:=beq_eq_false_iff_ne.2 a1;clear aC Nv aN aH a7 y1 y2 m0 m1 m2 m3 m4 m5 m6 m7 a1
                 go_wp2_with fail
                 refine HG.mono ?_;rintro O dB ⟨rfl,bI,ag,aB⟩
                 try dsimp only at ag
                 rw [aZ.z,<- Hs.z] at ag;have G:=ω ag;have FT:=ω (aP Nw.z aB);clear ag aB HG Nw;go_wp2
                 go_roundg (8 - (v+1))
                 case measure=>omega
                 case rel=>exact⟨v+1,bI,by omega,rfl,by go_num,G.z,FT.z⟩
           · obtain rfl:v=8:=by omega
             have G:=ω (aW.z _ _ aa);have FT:=ω (aP bU.z (aP G7.z ac));clear aa ac;go_wp2
             go_roundg (n - (j+1))
             case measure=>omega
             case rel=>exact⟨j+1,x9,by omega,rfl,by go_num,G.z.1,G.z.2,FT.z⟩
     · have hX:∃ E',bZ tlW rqF k L (B.take (j+1))=jS c k E'/\((((f.ver:Int) != 3)=true/\E'=1)\/(((f.ver:Int) != 3)=false/\((f.kind:Int) != 3)=true/\E'=1)\/(((f.ver:Int) != 3)=false/\((f.kind:Int) != 3)=false/\(E != 0)=true/\E'=E)):=by
        by_cases l:f.ver=3
        · by_cases y:f.kind=3
          · have X:E≠0:=fun h=>bC ⟨l,y,h⟩;exact⟨E,by rw [a0.z,if_neg (by omega),if_pos X],.inr (.inr ⟨by rw [l]; rfl,by rw [y]; rfl,bne_iff_ne.2 X,rfl⟩)⟩
          · exact⟨1,by rw [a0.z,if_pos (.inr y)],.inr (.inl ⟨by rw [l]; rfl,bne_iff_ne.2 (by omega),rfl⟩)⟩
        · exact⟨1,by rw [a0.z,if_pos (.inl l)],.inl ⟨bne_iff_ne.2 (by omega),rfl⟩⟩
       obtain⟨E',bw,aD⟩:=hX;have cG:=ω (aW.z _ bw (by show bf.closed (upd _ _ _ _)=true; rw [bL]; rfl));have HR:=ω (rO E' U H5.z J (by have:=ar.z k J; omega));clear bC bw a0 aW;rcases aD with ⟨p0,rfl⟩ | ⟨p0,p1,rfl⟩ | ⟨p0,p1,p2,rfl⟩
       all_goals
        go_wp2_with fail
        refine HR.mono ?_;rintro O w6 ⟨rfl,x6,h6,g6⟩;have z1:κ w6 g (21+k):=h6.blk.thaw _;have y1:w6.cell? ⟨g,21+k,none⟩=some (.bool _):=aQ.closed h6 J;have dw:=h6.blk.lt;have G:=ω (aQ.close h6 J);have FT:=ω (aP aY.z (aP g6 (aR w6 g (21+k) (.bool true))));clear h6 g6 HR H5 aS aY;go_wp2
        go_meet
        exact⟨x6,by rw [cG.z]; exact G.z,FT⟩
   · obtain rfl:j=n:=by omega
     have G:=ω hA;rw [List.take_of_length_le (by rw [ba.z]; omega)] at G;have FT:=ω hT;clear hA S hT;go_wp2
     go_meet
     exact⟨x',G,FT⟩
end Go.Proofs.YtimglglgcgpjgaaGreatDoor
