/- Of the proof of a statement: SdE, WFrame, DEncR, PlHubS, PlPlay. -/
import Derived.Test.YtimglglgcgpjgabGreatDoorPGrant
import Derived.Test.YtimglglgcgpjgabGreatDoorPHubMem
set_option linter.unusedVariables false
set_option linter.unusedSimpArgs false
set_option maxRecDepth 100000
set_option maxHeartbeats 8000000
namespace Go.Proofs.YtimglglgcgpjgabGreatDoor
open Go.RowKit
abbrev zD:aY:=⟨0,0,[],[],[],[],[],[]⟩
abbrev zA:eG:=⟨none,0,0,none,0,0,none,0,0,none,0,0,none,0,0,none,0,0⟩
theorem oS {l:List ByteArray} {n:Nat} (h:l.length=n) (b:0<n):∃ s,(au kQ l)[0]? = some (.string s):=by
 match l,h with
 | [],h=>simp at h; omega
 | a :: l,_=>exact⟨a,rfl⟩
theorem qY (d:aY) (x:eG):gJ (dC d x):=nR (by
 intro v a s;simp only [dC,List.mem_toArray,List.mem_cons,List.not_mem_nil,or_false] at a;rcases a with rfl | rfl | rfl | rfl | rfl | rfl | rfl | rfl <;> simp)
theorem dB.gy {w w':World} {B g:Nat} {t:TypeId} {cs:Array Value} {d:aY} {x:eG} (h:dB w B d x) (a:Blk w g t cs) (b:gJ cs) (c:w.grownBy w' (some g)):dB w' B d x:=
 ⟨h.j.gy a b (qF h.lj) c,h.n.gy a b (pD h.ln) c,h.l.gy a b (nT h.ll) c,h.gj.gy a b (oS h.lgj) c,h.gn.gy a b (oS h.lgn) c,h.gl.gy a b (oS h.lgl) c,
  h.lj,h.ln,h.ll,h.lgj,h.lgn,h.lgl,h.bj,h.bn,h.bl,h.bgj,h.bgn,h.bgl,h.oj,h.on_,h.ol,h.ogj,h.ogn,h.ogl⟩
theorem dB.pV {w:World} {B V:Nat} {t:TypeId} {cs:Array Value} {d:aY} {x:eG} (h:dB w B d x) (a:Blk w V t cs) (b:gJ cs):zZ V x:=
 ⟨h.j.pV a b (qF h.lj),h.n.pV a b (pD h.ln),h.l.pV a b (nT h.ll),h.gj.pV a b (oS h.lgj),h.gn.pV a b (oS h.lgn),h.gl.pV a b (oS h.lgl)⟩
theorem dB.drew {w:World} {B:Nat} {d:aY} {x:eG} (h:dB w B d x):dB w.drew B d x:=
 ⟨h.j.drew,h.n.drew,h.l.drew,h.gj.drew,h.gn.drew,h.gl.drew,h.lj,h.ln,h.ll,h.lgj,h.lgn,h.lgl,h.bj,h.bn,h.bl,h.bgj,h.bgn,h.bgl,h.oj,h.on_,h.ol,h.ogj,h.ogn,h.ogl⟩
theorem dB.upS {w w':World} {d:aY} {x:eG} (h:dB w w d x) (a:Below w w w'):dB w' w' d x:=(h.below a).more a.size
theorem tP {w0 a b:World} {V g:Nat} (h:w0.grownBy a (some V)) (c:a.grownBy b (some g)) (f:w0.heap.size<=g):w0.grownBy b (some V):=
 ⟨c.os.trans h.os,c.tape.trans h.tape,c.output.trans h.output,v6 h.size c.size,fun k d e=>(c.block k (uI d h.size) (by simp; omega)).trans (h.block k d e)⟩
theorem grown_of {w0 a:World} (V:Nat) (h:Below w0 w0 a):w0.grownBy a (some V):=
 ⟨h.os,h.tape,h.output,h.size,fun k b _=>h.block k b⟩
structure SdE (tl:List Value) (T:TypeId) (w0:World) (V DD:Nat) (st1:ah) (x1:StA) (Aa:Int) (D:aY) (dx:eG) (rc dc:Array Value) (w:World):Prop where
 v:Blk w V T (DJ tl st1 x1 Aa)
 at_:StAt w w st1 x1
 del:dB w w D dx
 db:Blk w DD 95 (dC D dx)
 r:Blk w (w0.heap.size+1) 93 rc
 d:Blk w (w0.heap.size+2) 95 dc
 gr:w0.grownBy w (some V)
 lt:V<w0.heap.size
 dd:w0.heap.size+3<=DD
 far:Far V x1
 fd:zZ V dx
section
variable {tl:List Value} {T:TypeId} {w0 w w':World} {V DD:Nat} {st1:ah} {x1:StA} {Aa:Int} {D:aY} {dx:eG} {rc dc rc' dc':Array Value}
theorem SdE.drew (h:SdE tl T w0 V DD st1 x1 Aa D dx rc dc w):SdE tl T w0 V DD st1 x1 Aa D dx rc dc w.drew:=
 ⟨h.v,h.at_.drew,h.del.drew,h.db,h.r,h.d,⟨h.gr.os,h.gr.tape,h.gr.output,h.gr.size,h.gr.block⟩,h.lt,h.dd,h.far,h.fd⟩
theorem SdE.BI (h:SdE tl T w0 V DD st1 x1 Aa D dx rc dc w) (b:gJ rc) (a:w.grownBy w' (some (w0.heap.size+1))) (c:Blk w' (w0.heap.size+1) 93 rc'):SdE tl T w0 V DD st1 x1 Aa D dx rc' dc w':=by
 have e:=h.lt;have f:=h.dd;exact⟨ay a h.v (by omega),(h.at_.gy h.r b a).more a.size,(h.del.gy h.r b a).more a.size,ay a h.db (by omega),c,ay a h.d (by omega),tP h.gr a (by omega),h.lt,h.dd,h.far,h.fd⟩
theorem SdE.ML (h:SdE tl T w0 V DD st1 x1 Aa D dx rc dc w) (b:gJ dc) (a:w.grownBy w' (some (w0.heap.size+2))) (c:Blk w' (w0.heap.size+2) 95 dc'):SdE tl T w0 V DD st1 x1 Aa D dx rc dc' w':=by
 have e:=h.lt;have f:=h.dd;exact⟨ay a h.v (by omega),(h.at_.gy h.d b a).more a.size,(h.del.gy h.d b a).more a.size,ay a h.db (by omega),ay a h.r (by omega),c,tP h.gr a (by omega),h.lt,h.dd,h.far,h.fd⟩
theorem SdE.Ox (h:SdE tl T w0 V DD st1 x1 Aa D dx rc dc w) (m:Int):SdE tl T w0 V DD st1 x1 m D dx rc dc (sQ w V 4 (.int .i64 m)):=by
 have b:=h.lt;have c:=h.dd;have a:=aQ w V 4 (.int .i64 m);exact⟨Blk.eq (h.v.set 4 _) rfl,(h.at_.qZ h.far a).more a.size,(h.del.qZ h.fd a).more a.size,ay a h.db (by omega),ay a h.r (by omega),ay a h.d (by omega),aP h.gr a,h.lt,h.dd,h.far,h.fd⟩
theorem SdE.end_ (h:SdE tl T w0 V DD st1 x1 Aa D dx rc dc w) {st:ah} {R:mF} (a:R.st=st1) (b:R.now=Aa) (c:D=if R.ch=true then eE st R.st else zD):nU tl T V st R w0 (.returned (.tuple #[.agg #[R.e,R.st.rev],.agg (dC D dx),.bool R.ch])) w:=
 ⟨D,dx,x1,rfl,c,h.del,h.fd,by rw [a,b]; exact h.v,by rw [a]; exact h.at_,h.far,h.gr⟩
end
theorem kR {st:ah} (i:aE st=0):oC st.jobs/\mB st.nodes/\lB st.leases:=by
 obtain⟨_,_,e,f,k,_⟩:=cV.1 i;refine⟨fun j b=>?_,fun n c=>?_,fun l o=>?_⟩
 · have a:=oT (fB e b);have:=eU a.1;have:=mZ a.2.1;omega
 · have a:=pE (fB f c);have:=eU a.1;have:=mZ a.2.1;omega
 · have a:=fB k o;unfold dN at a
   split at a
   · rename_i d
     simp only [Bool.and_eq_true] at d;obtain⟨j,b⟩:=Option.isSome_iff_exists.1 d.1;obtain⟨n,c⟩:=Option.isSome_iff_exists.1 d.2;have g:j.name=l.job:=by simpa using List.find?_some b
     have h:n.name=l.node:=by simpa using List.find?_some c
     have m:=eU (oT (fB e (List.mem_of_find?_eq_some b))).1;have p:=eU (pE (fB f (List.mem_of_find?_eq_some c))).1;rw [g] at m;rw [h] at p;omega
   · omega
theorem Ab {q:aL} (h:cN q=0):1<=q.kind/\q.kind<=9/\(q.kind=7->0<=q.n/\q.n<=1099511627776):=by
 unfold cN at h
 split at h
 · cases h
 rename_i b
 split at h
 · cases h
 have a:1<=q.kind/\q.kind<=9:=by
  cases c:ranged q.kind 1 9 with
  | false=>exact absurd c b
  | true=>exact aM.1 c
 refine⟨a.1,a.2,fun a=>?_⟩;unfold eL at h;rw [a] at h;simp only [show ¬ (7:Int)=1 from by decide,show ¬ (7:Int)=2 from by decide,show ¬ (7:Int)=3 from by decide,show ¬ (7:Int)=4 from by decide,show ¬ (7:Int)=5 from by decide,show ¬ (7:Int)=6 from by decide,or_false,if_false,if_true] at h;by_cases b:ranged q.n 0 1099511627776=true
 · exact aM.1 b
 · rw [if_neg b] at h; cases h
def rcP (E rev:Int):Nat->Array Value
 | 0=>#[.int .i64 0,.int .i64 0]
 | _=>#[.int .i64 E,.int .i64 rev]
def dcP (D:aY) (dx:eG):Nat->Array Value
 | 0=>#[.int .i64 0,.int .i64 0,.slice none 0 0,.slice none 0 0,.slice none 0 0,.slice none 0 0,.slice none 0 0,.slice none 0 0]
 | 1=>#[.int .i64 0,.int .i64 0,.slice none 0 0,.slice none 0 0,.slice none 0 0,.slice none 0 0,.slice none 0 0,.slice none 0 0]
 | _=>dC D dx
def DK (V:Nat) (st1:ah) (E:Int) (D:aY) (dx:eG) (a:Bool):Nat->Value->Prop
 | 0,u=>u = .int .i64 E
 | 1,u=>u = π V 0
 | 2,u=>u = π V 0
 | 3,u=>u = π V 0
 | 4,u=>u = π V 0
 | 5,u=>u = .int .i64 st1.rev
 | 6,u=>u = .agg #[.int .i64 E,.int .i64 st1.rev]
 | 7,u=>u = .agg #[.int .i64 D.from_,.int .i64 D.to_,.slice dx.aj dx.nj dx.cj,.slice dx.an dx.nn dx.cn,.slice dx.al dx.nl dx.cl,.slice dx.agj dx.ngj dx.cgj,.slice dx.agn dx.ngn dx.cgn,.slice dx.agl dx.ngl dx.cgl]
 | 8,u=>u = .bool a
 | 11,u=>u = .bool a
 | _,_=>True
def lg (st:ah) (v:Int):ByteArray × Int:=if (jW st v).2≠0 then (⟨#[]⟩,(jW st v).2) else (uQ v 1 (jW st v).1)
def q8 (st:ah) (v:Int) (w:World) (e:Ending) (w':World):Prop:=e = .returned (.tuple #[.string (lg st v).1,.int .i64 (lg st v).2])/\Below w w w'
theorem q8.mk' {st:ah} {v E:Int} {s:ByteArray} {w w':World} (h:lg st v=(s,E)) (a:Below w w w'):q8 st v w (.returned (.tuple #[s,E])) w':=⟨by rw [h],a⟩
theorem vV :
 (∀ (st:ah) (x:StA) (v:Int) (w:World) (d:StAt w w st x) (o:Tabs w),ψ 82 #[.agg (stC st x),v] w (q8 st v w)) /\
 (∀ (st:ah) (x:StA) (v:Int) (w:World) (d:StAt w w st x),ψ 57 #[.agg (stC st x),v] w (q8 st v w)):=by
 refine⟨@fun st x v w d o=>(fun(i:Unit)=>?_) (),@fun st x v w d=>(fun(y:Unit)=>?_) ()⟩<;>(
 first|(guard_hyp i;have z:=@G9)|(have z:=@DL)
 have g:Below w w (χ w (stC st x) 26):=(θ).alloc lQ _
 first
  |(
   guard_hyp i
   have e:=DM st x v _ (d.up g) (o.below g))
  |(
   guard_hyp y
   have e:=DN st x v _ (d.up g))
 have u:=ω (fun H E (F:lg st v=(H,E)) w'=>q8.mk' (w:=w) (w':=w') F);have j:=ω (show lg st v=if (jW st v).2≠0 then (⟨#[]⟩,(jW st v).2) else (uQ v 1 (jW st v).1) from rfl);have s:=ω g;unfold uR at e;obtain⟨T,p⟩:∃ T,(jW st v).1=T:=⟨_,rfl⟩;obtain⟨E,m⟩:∃ E,(jW st v).2=E:=⟨_,rfl⟩;rw [p,m] at e j;have r:=ω e
 first
  |(
   guard_hyp i
   clear g d e p m o)
  |(
   guard_hyp y
   clear g d e p m)
 obtain⟨rev,jobs,nodes,leases⟩:=st;obtain⟨J,Q,M,L,S,O,K,R,N⟩:=x;unfold stC at *;dsimp only at *
 first|(guard_hyp i;go_enter Tryz.func82,Tryz.ntmps82)|go_enter Tryz.func57,Tryz.ntmps57
 go_wp2_with fail
 refine r.mono ?_;rintro C I ⟨rfl,c⟩;have k:=ω (s.trans (c.mono s.size));clear c r;by_cases l:E=0;rotate_left
 · have P:(E != 0)=true:=bne_iff_ne.2 l;have q:=ω (u.z _ _ (by rw [j.z,if_pos l]) _ k.z);go_wp2;go_ret2;exact q
 subst l;have n:=j.z;rw [if_neg (by simp)] at n;have h:=z v 1 T I;unfold gY at h;obtain⟨a,ha⟩:∃ a,(uQ v 1 T).1=a:=⟨_,rfl⟩;obtain⟨b,c⟩:∃ b,(uQ v 1 T).2=b:=⟨_,rfl⟩;rw [ha,c] at h;have B:=ω h;have q:=ω (u.z a b (by rw [n,<- ha,<- c]));clear h ha c n
 go_wp2_with fail
 refine B.mono ?_;rintro C U ⟨rfl,c⟩;have G:=ω (q.z _ (k.trans (c.mono k.size)));clear c;go_wp2;go_ret2;exact G)
theorem uS {α:Type} {enc:α->List UInt8} {xs:List α} (h:∀ x,(enc x).length<=85) (c:xs.length<=40):(fY enc xs).length<=4000:=by
 have a:=iT h xs;have b:=bT xs.length;unfold fY;rw [List.length_append]; omega
theorem FA (x:ByteArray):(dU x).length<=85:=by have:=dw x; omega
def ROut (P:List UInt8) (a:List (List ByteArray)) (S:Nat) (b:Array Value) (w:World) (s i:Value) (wr:World):Prop:=
 ∃ (k:Nat) (T:ByteArray),k<=3/\i = .int .i64 k/\s = .string T/\T=bs (P ++ (a.take k).flatMap (fY dU))/\T.size<=100000+4000*k/\Below w w wr/\Blk wr S 28 b
def RIn (N:Nat) (P:List UInt8) (xs:List ByteArray) (n:Nat) (S:Nat) (a:Array Value) (w:World) (s i:Value) (wr:World):Prop:=
 ∃ (k:Nat) (T:ByteArray),k<=n/\i = .int .i64 k/\s = .string T/\T=bs (P ++ (xs.take k).flatMap dU)/\T.size<=N+85*k/\Below w w wr/\Blk wr S 28 a
theorem CL (d:aY) (x:eG) (w:World) (hD:dB w w d x) :
 ψ 31 #[.agg (dC d x)] w (lq d w):=by
 have af:Below w w (χ w (dC d x) 95):=(θ).alloc lQ _;have ay:Blk (χ w (dC d x) 95) w 95 (dC d x):=n5 w _;have Z:=DO d x _ (hD.up af);obtain⟨E,K⟩:∃ E,gD d=E:=⟨_,rfl⟩;unfold sN at Z;rw [K] at Z;have HC:=ω Z;have HE:=ω K;have g:=ω hD;have ao:=ω af;have al:=ω ay;have Oy:=ω (fun (J:E≠0) w'=>lq.bad (w:=w) (w':=w') K J);have FB:=ω (fun (J:E=0) w'=>lq.large (w:=w) (w':=w') (K.trans J));have aF:=ω (fun (J:E=0) w' s=>lq.ok (w:=w) (w':=w') (s:=s) (K.trans J));have Kp:=ω (fun (J:E=0)=>N6 (K.trans J));clear Z K hD af ay;obtain⟨c,h,jobs,nodes,leases,y,B,z⟩:=d;obtain⟨ar,nj,cj,an,nn,cn,av,nl,cl,o,F,r,q,I,v,p,H,u⟩:=x;unfold dC at *;dsimp only at *;go_enter Tryz.func31,Tryz.ntmps31
 go_wp2_with fail
 refine HC.mono ?_;rintro ax b ⟨rfl,ab⟩;have ac:=ao.trans (ab.mono ao.size);by_cases h0:E=0;rotate_left
 · have bh:(E != 0)=true:=bne_iff_ne.2 h0;have N:=ω (Oy.z h0 b ac);clear ab ac;go_wp2;go_ret2;exact N
 subst h0;have G:=ω (Kp.z rfl);have aM:=G.t0;have aN:=G.t1;have aO:=G.t2;dsimp only at aM aN aO;have m:=ω (show Blk b w 95 _ from al.below ab al.lt);have a8:w.heap.size<b.heap.size:=m.lt;have i:=ω ac;have b0:=fun d a=>cell_regrown (show ζ b w 0 (.int .i64 c) from m.cell 0) d a;have b1:=fun d a=>cell_regrown (show ζ b w 1 (.int .i64 h) from m.cell 1) d a;have b2:=fun d a=>cell_regrown (show ζ b w 2 (.slice ar nj cj) from m.cell 2) d a;have b3:=fun d a=>cell_regrown (show ζ b w 3 (.slice an nn cn) from m.cell 3) d a;have b4:=fun d a=>cell_regrown (show ζ b w 4 (.slice av nl cl) from m.cell 4) d a;have b5:=fun d a=>cell_regrown (show ζ b w 5 (.slice o F r) from m.cell 5) d a;have b6:=fun d a=>cell_regrown (show ζ b w 6 (.slice q I v) from m.cell 6) d a;have b7:=fun d a=>cell_regrown (show ζ b w 7 (.slice p H u) from m.cell 7) d a;have ai:=g.lj;have aj:=g.ln;have ak:=g.ll;have a1:=G.nj;have a2:=G.nn;have a3:=G.nl;dsimp only at ai aj ak a1 a2 a3;have R:=fun d a=>jG c (Sort.grow (redrawn b d) a) (by omega);have S:=fun d a=>jG (h - c) (Sort.grow (redrawn b d) a) (by omega)
 have U:=fun d a=>BX jobs nodes leases ar nj cj an nn cn av nl cl 3 (Sort.grow (redrawn b d) a)
  ((g.j.below (i.trans ((below_regrown b d a).mono i.size))).more (v6 i.size (below_regrown b d a).size)) ai (by omega) G.jobs
  ((g.n.below (i.trans ((below_regrown b d a).mono i.size))).more (v6 i.size (below_regrown b d a).size)) aj (by omega) G.nodes
  ((g.l.below (i.trans ((below_regrown b d a).mono i.size))).more (v6 i.size (below_regrown b d a).size)) ak (by omega) G.leases
 have s1:(bs (bf c.toNat)).size<=17:=by rw [dz]; exact bT _
 have s2:(bs (bf (h - c).toNat)).size<=17:=by rw [dz]; exact bT _
 have s3:(bs (mG jobs nodes leases 3)).size<=12000:=by
  rw [dz];have q1:=uS (enc:=fun x=>eP x 3) (xs:=jobs) (fun x=>mH x 3) (by omega);have q2:=uS (enc:=fun x=>cW x 3) (xs:=nodes) (fun x=>kS x 3) (by omega);have q3:=uS (enc:=eH) (xs:=leases) ku (by omega);unfold mG;simp only [List.length_append]; omega
 have Q:bs (bf c.toNat) ++ bs (bf (h - c).toNat) ++ bs (mG jobs nodes leases 3)=bs (bf c.toNat ++ bf (h - c).toNat ++ mG jobs nodes leases 3):=by simp only [fC]
 unfold fZ at R S U;generalize bs (bf c.toNat)=S1 at R s1 Q;generalize bs (bf (h - c).toNat)=S2 at S s2 Q;generalize bs (mG jobs nodes leases 3)=S3 at U s3 Q;have bG:=ω Q;have H1:=ω R;have H2:=ω S;have H3:=ω U;clear Q R S U ab ac ai aj ak a1 a2 a3
 go_wp2_with fail
 refine wp_region_quiet_below (by kernel_rfl) (by kernel_rfl) ?_
 go_big_quiet_step ((fail))
 go_big_quiet_step ((fail))
 go_big_quiet_step ((go_at_call 59; exact Calls.regrown_of (H1.z _ _)))
 go_big_quiet_step ((fail))
 go_big_quiet_step ((fail))
 go_big_quiet_step ((fail))
 go_big_quiet_step ((fail))
 go_big_quiet_step ((fail))
 go_big_quiet_step ((go_at_call 59; exact Calls.regrown_of (H2.z _ _)))
 go_big_quiet_step ((fail))
 go_big_quiet_step ((fail))
 go_big_quiet_step ((fail))
 go_big_quiet_step ((fail))
 go_big_quiet_step ((fail))
 go_big_quiet_step ((fail))
 go_big_quiet_step ((fail))
 go_big_quiet_step ((go_at_call 60; exact Calls.regrown_of (H3.z _ _)))
 go_big_quiet_step ((fail))
 go_big_quiet_step ((fail))
 refine wpQuiet_nil ?_;intro _ aU;obtain⟨⟨nq,osq⟩,hw''⟩:=aU;subst hw'';have C:=i.trans ((below_regrown b nq osq).mono i.size);have y5:=b5 nq osq;have y6:=b6 nq osq;have y7:=b7 nq osq;have aT:w.heap.size<(Sort.grow (redrawn b nq) osq).heap.size:=uI a8 (below_regrown b nq osq).size;clear b0 b1 b2 b3 b4 b5 b6 b7 H1 H2 H3 a8;dsimp only;generalize Sort.grow (redrawn b nq) osq=w2 at C y5 y6 y7 aT |-;have HT:=ω (show (S1 ++ S2 ++ S3).size<=100000 by simp only [ByteArray.size_append]; omega);generalize S1 ++ S2 ++ S3=T0 at bG HT |-;have HS:=ω (show Blk (χ w2 #[.slice o F r,.slice q I v,.slice p H u] 28) w2 28 #[.slice o F r,.slice q I v,.slice p H u] from n5 w2 _);have aD:=ω (C.alloc C.size (.cells #[.slice o F r,.slice q I v,.slice p H u] 28));clear C s1 s2 s3;go_wp2;generalize hS:w2.heap.size=X at HS;clear y5 y6 y7
 go_loopw [5,7,9,41,52] (fun s _ _ L _ wr=>ROut (bf c.toNat ++ bf (h - c).toNat ++ mG jobs nodes leases 3) [y,B,z] X #[.slice o F r,.slice q I v,.slice p H u] w s L wr) (fun _ _ _ L _ _=>3 - (intOf L).toNat)
 case atStart=>exact⟨0,_,by omega,rfl,rfl,by rw [bG.z]; simp,by have:=HT.z; omega,aD,HS⟩
 case round=>
  clear hS;obtain⟨k,T,hk,rfl,rfl,hT,ba,hb,O⟩:=hrel;have am:=ω hT;have Hb:=ω hb;have HB:=ω O;have aP:X<wr.heap.size:=O.lt;have aW:=hb.size;clear hT;by_cases hlt:k<3
  · obtain⟨M,Y,e,cA,a0,a4,a7,a5,hn,a6⟩:∃ (M:List ByteArray) (Y:Option Addr) (e cA:Nat),(#[.slice o F r,.slice q I v,.slice p H u]:Array Value)[k]? = some (.slice Y e cA)/\[y,B,z][k]? = some M/\bg w w 1 Y e (au kQ M)/\M.length=e/\e<=40/\nL M:=by
     have q1:=G.ngj;have q2:=G.ngn;have q3:=G.ngl;have p1:=g.lgj;have p2:=g.lgn;have p3:=g.lgl;dsimp only at q1 q2 q3 p1 p2 p3;rcases (show k=0\/k=1\/k=2 by omega) with rfl | rfl | rfl
     · exact⟨y,o,F,r,rfl,rfl,g.gj,p1,by omega,g.ogj⟩
     · exact⟨B,q,I,v,rfl,rfl,g.gn,p2,by omega,g.ogn⟩
     · exact⟨z,p,H,u,rfl,rfl,g.gl,p3,by omega,g.ogl⟩
    have yS:ζ wr X k (.slice Y e cA):=(O.cell k).trans a0;have HN:=ω (jG (e:Int) wr (by omega));have aI:=ω (iU (fY dU) a4);have aH:=ω a7;have W:=ω a5;have aG:=ω a6;have aR:(bs (bf e)).size<=17:=by rw [dz]; exact bT _
    generalize hX:bs (bf e)=aZ at aR;have HX:=ω hX;clear hX a7 a5 a6 a0 a4 hb O
    go_wp2_with fail
    refine HN.mono ?_;rintro ax w3 ⟨rfl,C⟩;rw [show ((e:Int)).toNat=e from by omega,HX.z];have aC:=ω (Hb.trans (C.mono aW));have a9:=ω (HB.below C aP);clear C yS;go_wp2
    go_loopw [5,9,52] (fun s _ L wr=>RIn (T.size+17) (bf c.toNat ++ bf (h - c).toNat ++ mG jobs nodes leases 3 ++ ([y,B,z].take k).flatMap (fY dU) ++ bf e) M e X #[.slice o F r,.slice q I v,.slice p H u] w s L wr) (fun _ _ L _=>e - (intOf L).toNat)
    case atStart=>exact⟨0,_,Nat.zero_le _,rfl,rfl,by rw [am.z,<- HX.z,fC]; simp,by simp only [ByteArray.size_append]; omega,aC,a9⟩
    case round=>
     obtain⟨j,aq,hj,rfl,rfl,hU,bb,P,ae⟩:=hrel;have HU:=ω hU;have ap:=ω P;have ad:=ω ae;have aV:=P.size;clear hU;by_cases aQ:j<e
     · obtain⟨s,hf⟩:∃ s,M[j]? = some s:=⟨_,δ (by rw [W.z]; exact aQ)⟩;obtain⟨aw,aX,rfl,bc,hc⟩:=(aH.below P).dL gE W.z hf;have c0:ζ wr aw (aX+j*1) (.string s):=hc 0 _ rfl;rw [Nat.mul_one] at c0;have be:aw<wr.heap.size:=by omega
       have aB:=ω (lN s wr (aG.z s (m8 hf)));have aJ:=ω (iU dU hf);have aS:(bs (dU s)).size<=85:=by rw [dz]; exact FA s
       generalize hZ:bs (dU s)=aK at aS;have HZ:=ω hZ;clear hZ hc hf P ae
       go_wp2_with fail
       refine aB.mono ?_;rintro ax w4 ⟨rfl,ag⟩;rw [HZ.z];have aE:=ω (ap.trans (ag.mono aV));have aA:=ω (ad.below ag ad.lt);clear ag c0;go_wp2
       go_roundw
       case rel=>exact⟨j+1,aq ++ aK,by omega,by go_num,rfl,by rw [HU.z,<- HZ.z,fC,aJ.z,List.append_assoc],by simp only [ByteArray.size_append]; omega,aE,aA⟩
       case measure=>simp [intOf]; omega
     · obtain rfl:e=j:=by omega
       clear P ae;go_wp2
       go_roundw
       case rel=>exact⟨k+1,aq,by omega,by go_num,rfl,by rw [HU.z,aI.z]; unfold fY; rw [W.z,<- W.z,List.take_length]; simp only [List.append_assoc],by omega,ap,ad⟩
       case measure=>simp [intOf]; omega
  · obtain rfl:k=3:=by omega
    have hL:bf c.toNat ++ bf (h - c).toNat ++ mG jobs nodes leases 3 ++ ([y,B,z].take 3).flatMap (fY dU)=oD ⟨c,h,jobs,nodes,leases,y,B,z⟩:=by simp [oD,mG]
    have aa:T=bs (oD ⟨c,h,jobs,nodes,leases,y,B,z⟩):=by rw [am.z,hL]
    have az:T.size=(oD ⟨c,h,jobs,nodes,leases,y,B,z⟩).length:=by rw [aa,dz]
    clear hb O;by_cases bd:6000<T.size
    · have N:=ω (FB.z trivial wr (by omega) Hb.z);have hd:decide ((6000:Int)<(T.size:Int))=true:=t7 (by omega);clear aa az hL;go_wp2;go_ret2;exact N
    · have N:=ω (aF.z trivial wr T (by omega) aa Hb.z);have hd:decide ((6000:Int)<(T.size:Int))=false:=fQ (by omega);clear aa az hL;go_wp2;go_ret2;exact N
section
variable {tl:ah->List UInt8} {rq:ByteArray->aL × Int}
theorem ru {k:Nat} {f:cL}:∀ {a:List cL} {n:Nat} {H:cX},a[n]? = some f->cC tl rq k H (a.take (n+1))=(if ((cC tl rq k H (a.take n)).cs k).closed=true then cC tl rq k H (a.take n) else jq tl rq (cC tl rq k H (a.take n)) k f)
 | [],_,_,h=>by simp at h
 | b :: a,0,H,h=>by
  have e:b=f:=by simpa using h
  subst e;rfl
 | b :: a,n+1,H,h=>by
  have c:a[n]? = some f:=by simpa using h
  show cC tl rq k _ (a.take (n+1))=_
  rw [ru c];rfl
theorem DP (st:ah) (b:ByteArray) (e:Int) (c:bE):(mI tl st b e c).aG=c.aG:=by
 unfold mI
 split
 · rfl
 · split <;> rfl
theorem Ac (H:cX) (D:aY) (i:Nat):((mJ tl H D).cs i).aG=(H.cs i).aG:=by
 show (jH tl H.st (l9 D).1 (l9 D).2 H.cs 8 i).aG=_
 unfold jH
 split
 · exact DP _ _ _ _
 · rfl
theorem tQ {cs:Nat->bE} {k i:Nat} {c:bE} (h:c.aG=(cs k).aG):(upd cs k c i).aG=(cs i).aG:=by
 by_cases e:i=k
 · subst e; rw [bI]; exact h
 · rw [upd_ne _ _ e]
theorem CM {H:cX} {k:Nat} {f:cL} (a:¬ oE (rq f.pay).1) (i:Nat):((jq tl rq H k f).cs i).aG=(H.cs i).aG:=by
 unfold jq
 split
 · exact tQ rfl
 · split
   · exact tQ rfl
   · unfold lU
     have ha:(jr tl (rq f.pay).1 (lO H.st H.now (lD H.st H.now (rq f.pay).1)) (H.cs k)).aG=(H.cs k).aG:=by
      unfold jr;rw [if_neg (fun h=>a h.2)];rfl
     dsimp only
     split
     · exact (Ac _ _ i).trans (tQ ha)
     · exact tQ ha
theorem ng (e r:Int) (c:bE):(iV e r c).waits.length<=c.waits.length+6020:=by
 show (c.waits ++ pR 3 4 _).length<=_
 have a:=pW 3 4 (gP e r).1.data.toList (by have:=nV e r; simp; omega);rw [List.length_append]; omega
theorem Ad (a:∀ st,(tl st).length<=7000) (st:ah) (c:bE):(uw (tl st) c).waits.length<=c.waits.length+7000:=by
 show (c.waits ++ tl st).length<=_
 have:=a st;rw [List.length_append]; omega
theorem IQ (a:∀ st,(tl st).length<=7000) (st:ah) (D:aY) (c:bE):(mI tl st (l9 D).1 (l9 D).2 c).waits.length<=c.waits.length+7000:=by
 unfold mI
 split
 · omega
 · split
   · show (c.waits ++ pR 3 2 _).length<=_
     have b:=pW 3 2 (l9 D).1.data.toList (by have:=xF D; simpa using this);rw [List.length_append]; omega
   · exact Ad a _ _
theorem vW {cs:Nat->bE} {k:Nat} {c:bE} {n:Nat} (h:c.waits.length<=(cs k).waits.length+n) (i:Nat):(upd cs k c i).waits.length<=(cs i).waits.length+n:=by
 by_cases e:i=k
 · subst e; rw [bI]; exact h
 · rw [upd_ne _ _ e]; omega
theorem FC (b:∀ st,(tl st).length<=7000) (H:cX) (k:Nat) (f:cL) (i:Nat):((jq tl rq H k f).cs i).waits.length<=(H.cs i).waits.length+21000:=by
 have a:∀ e,((jQ H k e).cs i).waits.length<=(H.cs i).waits.length+21000:=fun e=>vW (c:=Ae e H.st.rev (H.cs k)) (n:=21000) (v6 (ng e H.st.rev (H.cs k)) (by omega)) i;unfold jq
 split
 · exact a _
 · split
   · exact a _
   · unfold lU
     have ha:(jr tl (rq f.pay).1 (lO H.st H.now (lD H.st H.now (rq f.pay).1)) (H.cs k)).waits.length<=(H.cs k).waits.length+14000:=by
      unfold jr
      split
      · refine v6 (Ad b _ _) ?_;have:=ng (lO H.st H.now (lD H.st H.now (rq f.pay).1)).e (lO H.st H.now (lD H.st H.now (rq f.pay).1)).st.rev (H.cs k);omega
      · refine v6 (ng _ _ _) ?_; omega
     dsimp only
     split
     · have d:∀ (G:cX) (D:aY),((mJ tl G D).cs i).waits.length<=(G.cs i).waits.length+7000:=fun G D=>by
        show (jH tl G.st (l9 D).1 (l9 D).2 G.cs 8 i).waits.length<=_
        unfold jH
        split
        · exact IQ b _ _ _
        · omega
       refine v6 (d _ _) ?_;have:=vW (cs:=H.cs) (k:=k) ha i;dsimp only at this |-;omega
     · refine v6 (vW (cs:=H.cs) (k:=k) ha i) ?_;omega
theorem nW {k:Nat} (c:∀ st,(tl st).length<=7000):∀ (a:List cL) (H:cX),(∀ i,((cC tl rq k H a).cs i).waits.length<=(H.cs i).waits.length+a.length*21000)/\((∀ f ∈ a,¬ oE (rq f.pay).1)->∀ i,((cC tl rq k H a).cs i).aG=(H.cs i).aG)
 | [],H=>⟨fun _=>Nat.le_add_right _ _,fun _ _=>rfl⟩
 | f :: a,H=>by
  obtain⟨d,e⟩:=nW (k:=k) c a (if (H.cs k).closed=true then H else jq tl rq H k f);refine⟨fun i=>?_,fun b i=>?_⟩
  · refine v6 (d i) ?_;rw [List.length_cons]
    split
    · omega
    · have:=FC (rq:=rq) c H k f i; omega
  · refine (e (fun g h=>b g (List.mem_cons_of_mem _ h)) i).trans ?_
    split
    · rfl
    · exact CM (b f List.mem_cons_self) i
end
theorem IR (s:ByteArray):(jF s).1.pay.size<=s.size:=by
 unfold jF
 split
 · split
   split
   · split
     · exact Nat.zero_le _
     · split
       · exact Nat.zero_le _
       · split
         · simp only [ByteArray.size_extract]; omega
         · exact Nat.zero_le _
   · exact Nat.zero_le _
 · exact Nat.zero_le _
theorem Frs.pays {s:ByteArray} {a:List cL} {m e:Nat} (h:Frs s a m e):∀ f ∈ a,f.pay.size<=s.size:=by
 induction h with
 | stop _ _=>intro f d; cases d
 | @step s f n a m e c _ _ _ i=>
  intro g b;rcases List.mem_cons.1 b with rfl | b
  · have:=IR s;rw [c] at this; exact this
  · have:=i g b;rw [ByteArray.size_extract] at this; omega
structure lP where
 conn:Int
 text:ByteArray
structure mK where
 H:cX
 O:Nat->List UInt8
noncomputable def kA (s:ByteArray):List cL × Nat × Nat:=Classical.choose (show ∃ r:List cL × Nat × Nat,Frs s r.1 r.2.1 r.2.2 from by obtain⟨a,m,e,h⟩:=Frs.all s; exact⟨(a,m,e),h⟩)
theorem xG (s:ByteArray):Frs s (kA s).1 (kA s).2.1 (kA s).2.2:=Classical.choose_spec (show ∃ r:List cL × Nat × Nat,Frs s r.1 r.2.1 r.2.2 from by obtain⟨a,m,e,h⟩:=Frs.all s; exact⟨(a,m,e),h⟩)
section
variable (tl:ah->List UInt8) (rq:ByteArray->aL × Int)
noncomputable def BY (H:cX) (k:Nat) (p:ByteArray):cX:=
 je tl rq H k ((H.cs k).rest ++ p) (kA ((H.cs k).rest ++ p)).1 (kA ((H.cs k).rest ++ p)).2.1 (kA ((H.cs k).rest ++ p)).2.2
noncomputable def stepT (S:mK) (a:lP):mK:=
 if (0<=a.conn/\a.conn<=7)/\(S.H.cs a.conn.toNat).closed=false then
  ⟨oF (BY tl rq S.H a.conn.toNat a.text) a.conn.toNat,upd S.O a.conn.toNat (S.O a.conn.toNat ++ ((BY tl rq S.H a.conn.toNat a.text).cs a.conn.toNat).waits)⟩
 else S
noncomputable def oJ (S:mK) (l:List lP):mK:=l.foldl (stepT tl rq) S
end
section
variable {tl:ah->List UInt8} {rq:ByteArray->aL × Int}
theorem Af (S:mK) (l:List lP) (a:lP):oJ tl rq S (l ++ [a])=stepT tl rq (oJ tl rq S l) a:=by unfold oJ; rw [List.foldl_append]; rfl
theorem IS (st:ah) (b:ByteArray) (e:Int) (c:bE):(mI tl st b e c).closed=c.closed/\(mI tl st b e c).stuck=c.stuck/\(mI tl st b e c).rest=c.rest/\(mI tl st b e c).far=c.far:=by
 unfold mI
 split
 · exact⟨rfl,rfl,rfl,rfl⟩
 · split <;> exact⟨rfl,rfl,rfl,rfl⟩
theorem Ag (q:aL) (R:mF) (c:bE):(jr tl q R c).closed=c.closed/\(jr tl q R c).stuck=c.stuck/\(jr tl q R c).rest=c.rest/\(jr tl q R c).far=c.far:=by
 unfold jr
 split <;> exact⟨rfl,rfl,rfl,rfl⟩
theorem kT (H:cX) (D:aY) (i:Nat):((mJ tl H D).cs i).closed=(H.cs i).closed/\((mJ tl H D).cs i).stuck=(H.cs i).stuck/\((mJ tl H D).cs i).rest=(H.cs i).rest/\((mJ tl H D).cs i).far=(H.cs i).far:=by
 show (jH tl H.st (l9 D).1 (l9 D).2 H.cs 8 i).closed=_/\(jH tl H.st (l9 D).1 (l9 D).2 H.cs 8 i).stuck=_/\(jH tl H.st (l9 D).1 (l9 D).2 H.cs 8 i).rest=_/\(jH tl H.st (l9 D).1 (l9 D).2 H.cs 8 i).far=_
 unfold jH
 split
 · exact IS _ _ _ _
 · exact⟨rfl,rfl,rfl,rfl⟩
structure Feeds (k:Nat) (H H':cX):Prop where
 stuck:∀ i,(H'.cs i).stuck=(H.cs i).stuck
 rest:∀ i,(H'.cs i).rest=(H.cs i).rest
 far:∀ i,(H'.cs i).far=(H.cs i).far
 other:∀ i,i≠k->(H'.cs i).closed=(H.cs i).closed
 closed:∀ i,(H'.cs i).closed=false->(H.cs i).closed=false
theorem Feeds.refl (k:Nat) (H:cX):Feeds k H H:=⟨fun _=>rfl,fun _=>rfl,fun _=>rfl,fun _ _=>rfl,fun _ h=>h⟩
theorem Feeds.trans {k:Nat} {H H' c:cX} (h:Feeds k H H') (a:Feeds k H' c):Feeds k H c:=
 ⟨fun i=>(a.stuck i).trans (h.stuck i),fun i=>(a.rest i).trans (h.rest i),fun i=>(a.far i).trans (h.far i),fun i b=>(a.other i b).trans (h.other i b),fun i b=>h.closed i (a.closed i b)⟩
theorem xH {k:Nat} {H:cX} {st:ah} {now:Int} {c:bE} (d:c.stuck=(H.cs k).stuck) (g:c.rest=(H.cs k).rest) (j:c.far=(H.cs k).far) (l:c.closed=false->(H.cs k).closed=false):Feeds k H ⟨st,now,upd H.cs k c⟩:=by
 have b:∀ {m:Type} (f:bE->m),f c=f (H.cs k)->∀ i,f (upd H.cs k c i)=f (H.cs i):=fun f h i=>by
  by_cases e:i=k
  · subst e; rw [bI]; exact h
  · rw [upd_ne _ _ e]
 refine⟨b bE.stuck d,b bE.rest g,b bE.far j,fun i a=>?_,fun i a=>?_⟩
 · show (upd H.cs k c i).closed=_
   rw [upd_ne _ _ a]
 · have a:(upd H.cs k c i).closed=false:=a;by_cases e:i=k
   · subst e; rw [bI] at a; exact l a
   · rwa [upd_ne _ _ e] at a
theorem DQ (H:cX) (k:Nat) (f:cL):Feeds k H (jq tl rq H k f):=by
 have a:∀ e,Feeds k H (jQ H k e):=fun e=>xH rfl rfl rfl (fun h=>by cases h);unfold jq
 split
 · exact a _
 · split
   · exact a _
   · unfold lU;obtain⟨c,d,g,j⟩:=Ag (tl:=tl) (rq f.pay).1 (lO H.st H.now (lD H.st H.now (rq f.pay).1)) (H.cs k);have b:=xH (H:=H) (k:=k) (st:=(lO H.st H.now (lD H.st H.now (rq f.pay).1)).st) (now:=(lO H.st H.now (lD H.st H.now (rq f.pay).1)).now) d g j (fun h=>by rw [<- c]; exact h);dsimp only
     split
     · refine b.trans ⟨fun i=>(kT _ _ i).2.1,fun i=>(kT _ _ i).2.2.1,fun i=>(kT _ _ i).2.2.2,fun i _=>(kT _ _ i).1,fun i h=>?_⟩;rw [<- (kT (tl:=tl) _ _ i).1]; exact h
     · exact b
theorem vX {k:Nat}:∀ (a:List cL) (H:cX),Feeds k H (cC tl rq k H a)
 | [],H=>.refl k H
 | f :: a,H=>by
  rw [cC];refine Feeds.trans ?_ (vX a _)
  split
  · exact .refl k H
  · exact DQ H k f
theorem Ah (H:cX) (k:Nat) (s:ByteArray) (a:List cL) (m e:Nat):Feeds k ⟨H.st,H.now,upd H.cs k (nX (H.cs k) s m e)⟩ (je tl rq H k s a m e)/\(((je tl rq H k s a m e).cs k).closed=false->e=3):=by
 unfold je;have c:=vX (tl:=tl) (rq:=rq) (k:=k) a ⟨H.st,H.now,upd H.cs k (nX (H.cs k) s m e)⟩;dsimp only
 split
 · refine⟨c.trans (xH rfl rfl rfl (fun h=>by cases h)),fun h=>?_⟩;have h:bE.closed (upd _ k (Ae _ _ _) k)=false:=h;rw [bI] at h;cases h
 · rename_i d
   exact⟨c,fun h=>by
    by_cases b:e=3
    · exact b
    · exact absurd ⟨b,h⟩ d⟩
theorem Kq (g:∀ st,(tl st).length<=7000) (H:cX) (k:Nat) (s:ByteArray) (a:List cL) (m e:Nat) (i:Nat):((je tl rq H k s a m e).cs i).waits.length<=(H.cs i).waits.length+a.length*21000+6020:=by
 have b:=(nW (tl:=tl) (rq:=rq) (k:=k) g a ⟨H.st,H.now,upd H.cs k (nX (H.cs k) s m e)⟩).1 i
 have d:(upd H.cs k (nX (H.cs k) s m e) i).waits=(H.cs i).waits:=by
  by_cases h:i=k
  · subst h; rw [bI]; rfl
  · rw [upd_ne _ _ h]
 dsimp only at b;rw [d] at b;unfold je;dsimp only
 split
 · obtain⟨G,f⟩:∃ G,cC tl rq k ⟨H.st,H.now,upd H.cs k (nX (H.cs k) s m e)⟩ a=G:=⟨_,rfl⟩;rw [f] at b |-;exact v6 (vW (c:=Ae e G.st.rev (G.cs k)) (n:=6020) (ng e G.st.rev (G.cs k)) i) (by omega)
 · omega
structure yR (N b n:Nat) (S:mK):Prop where
 op:∀ k,(S.H.cs k).closed=false->(S.H.cs k).stuck=0/\(S.H.cs k).far+(S.H.cs k).rest.size<=b
 len:∀ k,(S.O k).length+(S.H.cs k).waits.length<=n*(21000*N+6020)
theorem IT (N:Nat) (st:ah):yR N 0 0 ⟨qG st,fun _=>[]⟩:=⟨fun _ _=>⟨rfl,lQ⟩,fun _=>by rw [Nat.zero_mul]; exact lQ⟩
theorem Ai (H:cX) (k i:Nat):((oF H k).cs i).closed=(H.cs i).closed/\((oF H k).cs i).stuck=(H.cs i).stuck/\((oF H k).cs i).rest=(H.cs i).rest/\((oF H k).cs i).far=(H.cs i).far:=by
 show (upd H.cs k _ i).closed=_/\(upd H.cs k _ i).stuck=_/\(upd H.cs k _ i).rest=_/\(upd H.cs k _ i).far=_
 by_cases e:i=k
 · subst e; rw [bI]; exact⟨rfl,rfl,rfl,rfl⟩
 · rw [upd_ne _ _ e]; exact⟨rfl,rfl,rfl,rfl⟩
theorem FD (C:∀ st,(tl st).length<=7000) {N b n:Nat} {S:mK} (g:yR N b n S) (a:lP) (Q:b+a.text.size<=N):yR N (b+a.text.size) (n+1) (stepT tl rq S a):=by
 have t:∀ k,(S.O k).length+(S.H.cs k).waits.length+(21000*N+6020)<=(n+1)*(21000*N+6020):=fun k=>by
  have:=g.len k;rw [Nat.add_mul,Nat.one_mul];omega
 unfold stepT
 split
 · rename_i x
   obtain⟨_,q⟩:=x;obtain⟨c,y⟩:∃ c,a.conn.toNat=c:=⟨_,rfl⟩;rw [y] at q |-;obtain⟨U,W⟩:=g.op c q;obtain⟨s,u⟩:∃ s,(S.H.cs c).rest ++ a.text=s:=⟨_,rfl⟩;have R:s.size=(S.H.cs c).rest.size+a.text.size:=by rw [<- u,ByteArray.size_append]
   have B:BY tl rq S.H c a.text=je tl rq S.H c s (kA s).1 (kA s).2.1 (kA s).2.2:=by unfold BY; rw [u]
   rw [B];obtain⟨l,o,p⟩:=(xG s).facts;generalize kA s=J at l o p |-;obtain⟨h,m,f⟩:=J;dsimp only at l o p |-;obtain⟨i,z⟩:=Ah (tl:=tl) (rq:=rq) S.H c s h m f;refine⟨fun k e=>?_,fun k=>?_⟩
   · obtain⟨E,F,G,I⟩:=Ai (je tl rq S.H c s h m f) c k;dsimp only at e |-;rw [E] at e;rw [F,G,I,i.stuck k,i.rest k,i.far k];by_cases d:k=c
     · subst d;have v:=z e;subst v
       show (upd S.H.cs k _ k).stuck=0/\(upd S.H.cs k _ k).far+(upd S.H.cs k _ k).rest.size<=_
       rw [bI];refine⟨rfl,?_⟩
       show (S.H.cs k).far+m+(s.extract m s.size).size<=_
       rw [ByteArray.size_extract];omega
     · have A:=i.closed k e
       show (upd S.H.cs c _ k).stuck=0/\(upd S.H.cs c _ k).far+(upd S.H.cs c _ k).rest.size<=_
       rw [upd_ne _ _ d];have r:(upd S.H.cs c (nX (S.H.cs c) s m f) k).closed=false:=A;rw [upd_ne _ _ d] at r;obtain⟨j,K⟩:=g.op k r;exact⟨j,by omega⟩
   · have L:=Kq (tl:=tl) (rq:=rq) C S.H c s h m f k;have M:=t k
     have P:h.length*21000<=21000*N:=by
      rw [Nat.mul_comm];exact Nat.mul_le_mul_left _ (by omega)
     dsimp only
     show (upd S.O c _ k).length+(upd (je tl rq S.H c s h m f).cs c (xI _) k).waits.length<=_
     by_cases d:k=c
     · subst d;rw [bI,bI,List.length_append]
       show _+([]:List UInt8).length<=_
       rw [List.length_nil];omega
     · rw [upd_ne _ _ d,upd_ne _ _ d];omega
 · exact⟨fun k e=>by
    obtain⟨j,K⟩:=g.op k e;exact⟨j,by omega⟩,fun k=>by have:=t k; omega⟩
def iA (l:List lP):Nat:=(l.map fun a=>a.text.size).sum
theorem pX {b:List lP} {k:Nat} {a:lP} (h:b[k]? = some a):iA (b.take (k+1))=iA (b.take k)+a.text.size/\iA (b.take k)+a.text.size<=iA b:=by
 obtain⟨hlt,e⟩:=List.getElem?_eq_some_iff.1 h
 have c:iA (b.take (k+1))=iA (b.take k)+a.text.size:=by
  unfold iA;rw [List.take_succ_eq_append_getElem hlt,List.map_append,List.sum_append,e];simp
 refine⟨c,?_⟩;rw [<- c];unfold iA
 conv=>rhs; rw [<- List.take_append_drop (k+1) b]
 rw [List.map_append,List.sum_append];exact Nat.le_add_right _ _
theorem uT (b:∀ st,(tl st).length<=7000) {N:Nat} (st:ah) (a:List lP) (d:iA a<=N):∀ n,n<=a.length->yR N (iA (a.take n)) n (oJ tl rq ⟨qG st,fun _=>[]⟩ (a.take n))
 | 0,_=>by rw [List.take_zero]; exact IT N st
 | n+1,h=>by
  have e:=uT b st a d n (by omega);have hlt:n<a.length:=by omega
  obtain⟨c,f⟩:=pX (δ hlt);rw [c,List.take_succ_eq_append_getElem hlt,Af];exact FD (rq:=rq) b e a[n] (by omega)
end
end Go.Proofs.YtimglglgcgpjgabGreatDoor
