/- Of the proof of a statement: NxA, NxB. -/
import Derived.Test.YtimglglgcgpjgabGreatDoorPGrant
set_option linter.unusedVariables false
set_option linter.unusedSimpArgs false
set_option maxRecDepth 100000
set_option maxHeartbeats 8000000
namespace Go.Proofs.YtimglglgcgpjgabGreatDoor
open List (foldl_cons foldl_nil setIfInBounds_toArray set_cons_succ set_cons_zero)
open Go.RowKit
def Gp (B:Nat) (a:Option Addr) (n:Nat) (c:Option Addr) (d:Nat):Prop:=(c=a/\d=n)\/∀ b e,c=some ⟨b,e,none⟩->B<=b
structure AW (B:Nat) (x y:StA):Prop where
 j:Gp B x.aj x.nj y.aj y.nj
 n:Gp B x.an x.nn y.an y.nn
 l:Gp B x.al x.nl y.al y.nl
theorem AW.refl (B:Nat) (x:StA):AW B x x:=⟨.inl ⟨rfl,rfl⟩,.inl ⟨rfl,rfl⟩,.inl ⟨rfl,rfl⟩⟩
theorem Gp.own {w:World} {base B sz n c m:Nat} {a A:Option Addr} {e:TypeId} {xs:List Value} (f:w.ownsRow base e sz (.slice A n c) n xs) (d:B<=base):Gp B a m A n:=
 .inr (by rintro b g rfl; exact v6 d (f.lt b rfl).1)
theorem Gp.far {B V n d:Nat} {a b:Option Addr} (h:Gp B a n b d) (g:nF V a n) (j:V<B):nF V b d:=fun i c f e=>by
 rcases h with ⟨rfl,rfl⟩ | h
 · exact g i c f e
 · have:=h c f e; omega
theorem AW.far {B V:Nat} {x y:StA} (h:AW B x y) (b:Far V x) (a:V<B):Far V y:=⟨h.j.far b.j a,h.n.far b.n a,h.l.far b.l a⟩
def iO (x:StA) (R:Int × ah × Int) (w:World) (e:Ending) (w':World):Prop:=
 ∃ a,e = .returned (.tuple #[.agg (stC R.2.1 a),R.2.2,R.1])/\StAt w' w' R.2.1 a/\AW w x a/\Below w w w'
structure cJ (w0 w:World) (O N:Nat) (st:ah) (x:StA) (now nw:Int) (q:aL) (so:ah) (xo:StA):Prop where
 below:Below w0 w0 w
 s:Blk w w0 46 (jw st x now)
 q:Blk w (w0.heap.size+1) 88 (aT q)
 r:Blk w (w0.heap.size+2) 26 lI
 o:Blk w O 26 (stC so xo)
 n:Blk w N 3 #[nw]
 at_:StAt w w st x
 ao:StAt w w so xo
 os:w0.heap.size+3<=O
 ns:w0.heap.size+3<=N
 ne:O≠N
 new:AW w0 x xo
section
variable {w0 w w':World} {O N:Nat} {st:ah} {x:StA} {now nw:Int} {q:aL} {so:ah} {xo:StA}
theorem cJ.kept (h:cJ w0 w O N st x now nw q so xo) (a:Below w w w'):cJ w0 w' O N st x now nw q so xo:=
 ⟨h.below.trans (a.mono h.below.size),h.s.below a h.s.lt,h.q.below a h.q.lt,h.r.below a h.r.lt,h.o.below a h.o.lt,h.n.below a h.n.lt,h.at_.upS a,h.ao.upS a,h.os,h.ns,h.ne,h.new⟩
theorem cJ.zy (h:cJ w0 w O N st x now nw q so xo) (i:Nat) (v:Value) {c:ah} {b:StA} (f:(stC so xo).setIfInBounds i v=stC c b) (ha:StAt w w c b) (g:AW w0 x b):cJ w0 (sQ w O i v) O N st x now nw q c b:=by
 have a:=aQ w O i v;have j:=h.os;have d:=h.ne;refine⟨cR h.below a (by omega),ay a h.s (by omega),ay a h.q (by omega),ay a h.r (by omega),Blk.eq (h.o.set i v) f,ay a h.n (fun e=>d e.symm),(h.at_.gy h.o (jL _ _) a).more a.size,(ha.gy h.o (jL _ _) a).more a.size,h.os,h.ns,h.ne,g⟩
theorem cJ.JA (h:cJ w0 w O N st x now nw q so xo) (m:Int):cJ w0 (sQ w N 0 (.int .i64 m)) O N st x now m q so xo:=by
 have a:=aQ w N 0 (.int .i64 m);have c:=h.ns;have b:=h.ne;refine⟨cR h.below a (by omega),ay a h.s (by omega),ay a h.q (by omega),ay a h.r (by omega),ay a h.o b,Blk.eq (h.n.set 0 _) rfl,(h.at_.gy h.n (yt _) a).more a.size,(h.ao.gy h.n (yt _) a).more a.size,h.os,h.ns,h.ne,h.new⟩
theorem cJ.end_ (h:cJ w0 w O N st x now nw q so xo) (a:w.grownBy w' (some (w0.heap.size+2))) (E:Int):iO x (E,so,nw) w0 (.returned (.tuple #[.agg (stC so xo),nw,E])) w':=
 ⟨xo,rfl,(h.ao.gy h.r (jL ⟨0,[],[],[]⟩ ⟨none,0,0,none,0,0,none,0,0⟩) a).more a.size,h.new,cR h.below a (by omega)⟩
end
theorem Pb (Q:Nat) (q:aL) (xs:List aC) (w:World) (b:Blk w Q 88 (aT q)):jX (fun l=>decide (l.name=q.name)) 101 #[π Q 0] aS xs w:=by
 intro W c x _;have a:Blk W Q 88 (aT q):=b.below c b.lt;have k:ζ W Q 12 (.string q.name):=a.cell 12;have m:=a.lt;have d:=ω (oO x.name q.name);obtain⟨e,h,g,j,i⟩:=x
 show ψ 101 #[.agg #[e,h,g,j,i],π Q 0] W _
 clear b c a;go_enter Tryz.func101,Tryz.ntmps101;go_wp2;go_ret;exact⟨bA d.z,(θ).alloc lQ _⟩
def Cg (a:FuncId):Prop:=
 ∀ (Q:Nat) (q:aL) (xs:List ak) (w:World) (b:Blk w Q 88 (aT q)),jX (fun l=>decide (l.job=q.name)) a #[π Q 0] aB xs w
theorem Ch:Cg 102 /\ Cg 109:=by
 refine⟨@fun Q q i w a=>(fun(d:Unit)=>?_) (),@fun Q q i w a=>?_⟩<;>(
 first|(guard_hyp d;have e:Tg 57:=⟨⟩)|(have e:Tg 59:=⟨⟩)
 intro W c x _;have b:Blk W Q 88 (aT q):=a.below c a.lt;have j:ζ W Q 12 (.string q.name):=b.cell 12;have k:=b.lt;have g:=ω (oO x.job q.name);obtain⟨job,node,h⟩:=x
 show ψ e #[.agg #[job,node,h],π Q 0] W _
 clear a c b
 first|(guard_hyp d;go_enter Tryz.func102,Tryz.ntmps102)|go_enter Tryz.func109,Tryz.ntmps109
 go_wp2;go_ret;exact⟨bA g.z,(θ).alloc lQ _⟩)
theorem Pc (Q:Nat) (q:aL) (xs:List av) (w:World) (b:Blk w Q 88 (aT q)):jX (fun l=>decide (l.name=q.name)) 104 #[π Q 0] aH xs w:=by
 intro W c x _;have a:Blk W Q 88 (aT q):=b.below c b.lt;have i:ζ W Q 12 (.string q.name):=a.cell 12;have j:=a.lt;have d:=ω (oO x.name q.name);obtain⟨e,g,h⟩:=x
 show ψ 104 #[.agg #[e,g,h],π Q 0] W _
 clear b c a;go_enter Tryz.func104,Tryz.ntmps104;go_wp2;go_ret;exact⟨bA d.z,(θ).alloc lQ _⟩
theorem Ni (Q:Nat) (q:aL) (xs:List ak) (w:World) (b:Blk w Q 88 (aT q)):jX (fun l=>decide (l.node=q.name)) 105 #[π Q 0] aB xs w:=by
 intro W c x _;have a:Blk W Q 88 (aT q):=b.below c b.lt;have g:ζ W Q 12 (.string q.name):=a.cell 12;have h:=a.lt;have d:=ω (oO x.node q.name);obtain⟨job,node,e⟩:=x
 show ψ 105 #[.agg #[job,node,e],π Q 0] W _
 clear b c a;go_enter Tryz.func105,Tryz.ntmps105;go_wp2;go_ret;exact⟨bA d.z,(θ).alloc lQ _⟩
theorem Pd (N:Nat) (t:Int) (xs:List ak) (w:World) (b:Blk w N 3 #[t]):jX (fun l=>decide (l.till<=t)) 110 #[π N 0] aB xs w:=by
 intro W c x _;have a:Blk W N 3 #[t]:=b.below c b.lt;have e:ζ W N 0 (.int .i64 t):=a.cell 0;have g:=a.lt;obtain⟨job,node,d⟩:=x
 show ψ 110 #[.agg #[job,node,d],π N 0] W _
 clear b c a;go_enter Tryz.func110,Tryz.ntmps110;go_wp2;go_ret;exact⟨rfl,(θ).alloc lQ _⟩
def Io (w0:World) (O N:Nat) (st:ah) (x:StA) (now nw:Int) (q:aL) (so:ah) (a:List ak) (w:World) (e:Ending) (w':World):Prop:=
 e = .returned (.tuple #[])/\∃ b,cJ w0 w' O N st x now nw q ⟨so.rev,so.jobs,so.nodes,a⟩ b
theorem wL (p:ak->Bool) (F:FuncId) (b:Array Value) (w0 w:World) (O N:Nat) (st:ah) (x:StA) (now nw:Int) (q:aL) (so:ah) (xo:StA) (h:cJ w0 w O N st x now nw q so xo) (c:x.nl<=1000) (t:∀ args w,(callFunc F args).run Tryz.prog w = .ok (.enter F args) w) (m:jX p F b aB st.leases w) :
 ψ 94 #[.func (.func F) #[] b,π w0 0,π O 0] w (Io w0 O N st x now nw q so (st.leases.filter fun l=>!p l) w):=by
 have y:ζ w w0 3 (.slice x.al x.nl x.cl):=h.s.cell 3;have v:=h.s.lt;have u:=h.o.lt;have g:=ω (xU.2.2 p F b st.leases x.al x.nl x.cl w t h.at_.l h.at_.ll c m);have H:=ω h;clear h m;go_enter Tryz.func94,Tryz.ntmps94
 go_wp2_with fail
 refine g.mono ?_;rintro z e ⟨A,i,rfl,d,k⟩;have a:=H.kept k;have C:ζ e O 3 (.slice xo.al xo.nl xo.cl):=a.o.cell 3;have D:κ e O 3:=a.o.thaw 3;have B:=a.o.lt;have r:=ω (show Io w0 O N st x now nw q so (st.leases.filter fun l=>!p l) w (.returned (.tuple #[])) (sQ e O 3 (.slice A (st.leases.filter fun l=>!p l).length i)) from ⟨rfl,_,a.zy 3 _ rfl (a.ao.Od i (cS d) rfl (by have:=List.length_filter_le (fun l=>!p l) st.leases; have:=H.at_.ll; omega) (fun l c=>a.at_.ol l (List.mem_filter.1 c).1)) ⟨a.new.j,a.new.n,.own d (by have:=H.below.size; omega)⟩⟩);clear a d k g y v u;go_wp2;go_end0;exact r
structure NxG where
 O:Option Nat
 N:Option Nat
def nxV (S:Nat) (st:ah) (x:StA) (now:Int) (a:NxG):Nat->Value->Prop
 | 0,u=>u = π S 0
 | 1,u=>u = .agg #[.int .i64 st.rev,.slice x.aj x.nj x.cj,.slice x.an x.nn x.cn,.slice x.al x.nl x.cl]
 | 2,u=>u = π S 4
 | 3,u=>u = .int .i64 now
 | 4,u=>∃ O,a.O=some O/\u = π O 0
 | 5,u=>∃ N,a.N=some N/\u = π N 0
 | _,_=>True
theorem Ip {S:Nat} {st:ah} {x:StA} {now:Int} {b:NxG} (O:Option Nat):∀ j v,j≠4->nxV S st x now b j v->nxV S st x now ⟨O,b.N⟩ j v:=fun j v a h=>
 match j,a,h with
 | 0,_,h=>h | 1,_,h=>h | 2,_,h=>h | 3,_,h=>h | 4,a,_=>absurd rfl a | 5,_,h=>h | _+6,_,_=>trivial
theorem Iq {S:Nat} {st:ah} {x:StA} {now:Int} {b:NxG} (N:Option Nat):∀ j v,j≠5->nxV S st x now b j v->nxV S st x now ⟨b.O,N⟩ j v:=fun j v a h=>
 match j,a,h with
 | 0,_,h=>h | 1,_,h=>h | 2,_,h=>h | 3,_,h=>h | 4,_,h=>h | 5,a,_=>absurd rfl a | _+6,_,_=>trivial
structure NxP (w0:World) (st:ah) (x:StA) (now:Int) (q:aL) (k:Nat) (γ:NxG) (w:World):Prop where
 below:Below w0 w0 w
 s:Blk w w0 46 (jw st x now)
 q:Blk w (w0.heap.size+1) 88 (aT q)
 r:Blk w (w0.heap.size+2) 26 lI
 at_:StAt w w st x
 o:∀ O,γ.O=some O->w0.heap.size+3<=O/\Blk w O 26 (if k=0 then lI else stC st x)
 n:∀ N,γ.N=some N->w0.heap.size+3<=N/\Blk w N 3 (if k<2 then #[(0:Int)] else #[now])
 ne:∀ O N,γ.O=some O->γ.N=some N->O≠N
theorem NxP.C8 {w0 w:World} {st:ah} {x:StA} {now:Int} {q:aL} {d:NxG} (h:NxP w0 st x now q 0 d w):NxP w0 st x now q 0 ⟨some w,d.N⟩ (χ w lI 26):=by
 have b:Below w w (χ w lI 26):=(θ).alloc lQ _;have e:=h.r.lt;refine⟨h.below.trans (b.mono h.below.size),h.s.below b h.s.lt,h.q.below b h.q.lt,h.r.below b h.r.lt,h.at_.upS b,fun O a=>?_,fun N c=>⟨(h.n N c).1,(h.n N c).2.below b (h.n N c).2.lt⟩,fun O N a c=>?_⟩
 · injection a with a;subst a;exact⟨by omega,n5 w _⟩
 · injection a with a;have:=(h.n N c).2.lt;omega
theorem NxP.C9 {w0 w:World} {st:ah} {x:StA} {now:Int} {q:aL} {d:NxG} (h:NxP w0 st x now q 0 d w):NxP w0 st x now q 0 ⟨d.O,some w⟩ (χ w #[(0:Int)] 3):=by
 have b:Below w w (χ w #[(0:Int)] 3):=(θ).alloc lQ _;have e:=h.r.lt;refine⟨h.below.trans (b.mono h.below.size),h.s.below b h.s.lt,h.q.below b h.q.lt,h.r.below b h.r.lt,h.at_.upS b,fun O c=>⟨(h.o O c).1,(h.o O c).2.below b (h.o O c).2.lt⟩,fun N a=>?_,fun O N c a=>?_⟩
 · injection a with a;subst a;exact⟨by omega,n5 w _⟩
 · injection a with a;have:=(h.o O c).2.lt;omega
theorem NxP.zy {w0 w w':World} {st:ah} {x:StA} {now:Int} {q:aL} {e:NxG} {O:Nat} (h:NxP w0 st x now q 0 e w) (d:e.O=some O) (a:w.grownBy w' (some O)) (j:Blk w' O 26 (stC st x)):NxP w0 st x now q 1 e w':=by
 obtain⟨g,i⟩:=h.o O d;refine⟨cR h.below a (by omega),ay a h.s (by omega),ay a h.q (by omega),ay a h.r (by omega),(h.at_.gy i (jL ⟨0,[],[],[]⟩ ⟨none,0,0,none,0,0,none,0,0⟩) a).more a.size,fun k b=>?_,fun N c=>⟨(h.n N c).1,ay a (h.n N c).2 (fun f=>h.ne O N d c f.symm)⟩,h.ne⟩;rw [d] at b;injection b with b;subst b;exact⟨g,j⟩
theorem NxP.JA {w0 w w':World} {st:ah} {x:StA} {now:Int} {q:aL} {e:NxG} {N:Nat} (h:NxP w0 st x now q 1 e w) (c:e.N=some N) (a:w.grownBy w' (some N)) (i:Blk w' N 3 #[now]):NxP w0 st x now q 2 e w':=by
 obtain⟨f,g⟩:=h.n N c;refine⟨cR h.below a (by omega),ay a h.s (by omega),ay a h.q (by omega),ay a h.r (by omega),(h.at_.gy g (yt 0) a).more a.size,fun O d=>⟨(h.o O d).1,ay a (h.o O d).2 (h.ne O N d c)⟩,fun j b=>?_,h.ne⟩;rw [c] at b;injection b with b;subst b;exact⟨f,i⟩
def nxE (w0:World) (O N:Nat) (st:ah) (x:StA) (now nw:Int) (q:aL) (so:ah) (xo:StA) (p:Nat) (w:World):Prop:=
 if p<2 then cJ w0 w O N st x now nw q so xo else ∃ a,cJ w0 a O N st x now nw q so xo/\a.grownBy w (some (w0.heap.size+2))/\Blk w (w0.heap.size+2) 26 (stC so xo)
theorem qP {w0 w:World} {O N:Nat} {st:ah} {x:StA} {now nw:Int} {q:aL} {so:ah} {xo:StA} {p:Nat} (h:nxE w0 O N st x now nw q so xo p w):Blk w N 3 #[nw]:=by
 unfold nxE at h
 split at h
 · exact h.n
 · obtain⟨c,a,b,_⟩:=h;have:=a.ns;exact ay b a.n (by omega)
theorem jS {w0 w:World} {O N:Nat} {st:ah} {x:StA} {now nw:Int} {q:aL} {so:ah} {xo:StA} {p:Nat} (a:p<2) (h:nxE w0 O N st x now nw q so xo p w):cJ w0 w O N st x now nw q so xo:=by
 unfold nxE at h; rw [if_pos a] at h; exact h
theorem jT {w0 w:World} {O N:Nat} {st:ah} {x:StA} {now nw:Int} {q:aL} {so:ah} {xo:StA} {p:Nat} (a:p<2) (h:cJ w0 w O N st x now nw q so xo):nxE w0 O N st x now nw q so xo p w:=by
 unfold nxE; rw [if_pos a]; exact h
def Lw (so:ah) (xo:StA) (nw E:Int):Nat->Value->Prop
 | 0,u=>u = .agg #[.int .i64 so.rev,.slice xo.aj xo.nj xo.cj,.slice xo.an xo.nn xo.cn,.slice xo.al xo.nl xo.cl]
 | 1,u=>u = .int .i64 nw
 | 2,u=>u = .agg #[.int .i64 so.rev,.slice xo.aj xo.nj xo.cj,.slice xo.an xo.nn xo.cn,.slice xo.al xo.nl xo.cl]
 | 3,u=>u = .int .i64 E
 | 5,u=>u = .int .i64 nw
 | 6,u=>u = .int .i64 E
 | _,_=>True
theorem cJ.drewN {w0 w:World} {O N:Nat} {st:ah} {x:StA} {now nw:Int} {q:aL} {so:ah} {xo:StA} (h:cJ w0 w O N st x now nw q so xo):cJ w0 w.drew O N st x now nw q so xo:=
 ⟨h.below.drew,h.s,h.q,h.r,h.o,h.n,h.at_.drew,h.ao.drew,h.os,h.ns,h.ne,h.new⟩
theorem Ci :
 (∀ (q:aL) (st:ah) (x:StA) (now:Int) (w:World) (hS:StAt w w st x) (d:x.nj<=1000) (B:x.nn<=1000) (h3:x.nl<=1000) (S:ROk q) (H:∀ Y,ψ 52 #[bO q] Y (bH 0 Y)) (hq:q.kind=1),ψ 54 #[.agg (jw st x now),bO q] w (iO x (aE (mL st q.job),mL st q.job,now) w)) /\
 (∀ (q:aL) (st:ah) (x:StA) (now:Int) (w:World) (hS:StAt w w st x) (d:x.nj<=1000) (B:x.nn<=1000) (h3:x.nl<=1000) (S:ROk q) (H:∀ Y,ψ 52 #[bO q] Y (bH 0 Y)) (hq:q.kind=2),ψ 54 #[.agg (jw st x now),bO q] w (iO x (aE (mM st q.node),mM st q.node,now) w)):=by
 refine⟨@fun q st x now w hS d B h3 S H hq=>(fun(u:Unit)=>?_) (),@fun q st x now w hS d B h3 S H hq=>(fun(ap:Unit)=>?_) ()⟩<;>(
 first|(guard_hyp u;have aq:Tg 20:=⟨⟩)|(have aq:Tg 21:=⟨⟩)
 obtain⟨q1,q2,q3,q4⟩:=oY w (jw st x now) (aT q) lI (ta:=46) (tb:=88) (tc:=26);obtain⟨W0,ag⟩:∃ W0,((w.alloc (.cells (jw st x now) 46)).alloc (.cells (aT q) 88)).alloc (.cells lI 26)=W0:=⟨_,rfl⟩;rw [ag] at q1 q2 q3 q4;have H0:NxP w st x now q 0 ⟨none,none⟩ W0.drew:=⟨q4.drew,q1,q2,q3,(hS.upS q4).drew,fun O i=>(by cases i),fun N i=>(by cases i),fun O N i=>(by cases i)⟩;have H:=ω H;have Hq:=ω hq;clear hq;have af:=ω ag;clear q1 q2 q3 q4 hS ag;unfold bO;unfold jw aT at af |-;go_enter Tryz.func54,Tryz.ntmps54
 go_wp2_with fail
 rw [af.z];clear af;refine rq 184 (nxV w st x now) [6,7] (NxP w st x now q) ⟨none,none⟩ H0 ?_ ?_
 · clear H0;refine⟨?_,?_,?_,?_,?_,?_,?_,?_,trivial⟩
   · exact ok0 0 2 2 rfl fun _=>rfl
   · refine okQ 0 2 fun F h C c _ _ a e=>?_;obtain⟨u1,d,rfl⟩:=e.g 0 13 rfl rfl;obtain⟨M,aa,ab,ac⟩:=Blk.c4 (a.s);simp [go_sem,Oper.wp,execOp,Act.eval,d,M,aa,ab,ac];exact⟨_,rfl,h,fun _ _ _ i=>i,rfl,a⟩
   · exact ok0 0 2 2 rfl fun _=>rfl
   · refine okQ 0 2 fun F h C c _ _ a e=>?_;obtain⟨u1,d,rfl⟩:=e.g 2 15 rfl rfl;have a5:ζ c w 4 (.int .i64 now):=a.s.cell 4;simp [go_sem,Oper.wp,execOp,Act.eval,d,a5];exact⟨_,rfl,h,fun _ _ _ i=>i,rfl,a⟩
   · refine okQ 0 0 fun F h C c _ _ a e=>?_;obtain rfl:F=0:=by omega
     simp [go_sem,Oper.wp,execOp,Act.eval];exact⟨_,rfl,⟨some c,h.N⟩,Ip _,⟨_,rfl,rfl⟩,a.C8⟩
   · refine okQ 0 0 fun F h C c _ _ a e=>?_;obtain rfl:F=0:=by omega
     simp [go_sem,Oper.wp,execOp,Act.eval];exact⟨_,rfl,⟨h.O,some c⟩,Iq _,⟨_,rfl,rfl⟩,a.C9⟩
   · refine .inl ⟨0,rfl,fun h C c a e=>aJ rfl ?_⟩;obtain⟨u1,d,U⟩:=e.g 4 7 rfl rfl;obtain⟨u2,B,rfl⟩:=e.g 1 14 rfl rfl;obtain⟨O,L,U⟩:=(show ∃ O,h.O=some O/\u1 = .pointer (some ⟨O,0,none⟩) from U);subst U;have z:Blk c O 26 lI:=(a.o O L).2;obtain⟨z0,z1,z2,z3⟩:=Blk.z4 (z);obtain⟨c0,I,c2,J⟩:=Blk.c4 (z);obtain⟨ak,am⟩:=Blk.S4 z (.int .i64 st.rev) (.slice x.aj x.nj x.cj) (.slice x.an x.nn x.cn) (.slice x.al x.nl x.cl);have ad:=a.zy L am ak;clear z a;simp [go_sem,Oper.wp,execOp,Act.eval,d,B,c0,I,c2,J,z0,z1,z2,z3];exact⟨.int .i64 0,h,fun _ _ _ i=>i,trivial,ad⟩
   · refine .inl ⟨1,rfl,fun h C c a e=>aJ rfl ?_⟩;obtain⟨u1,d,U⟩:=e.g 5 8 rfl rfl;obtain⟨u2,B,rfl⟩:=e.g 3 16 rfl rfl;obtain⟨N,K,U⟩:=(show ∃ N,h.N=some N/\u1 = .pointer (some ⟨N,0,none⟩) from U);subst U;have z:Blk c N 3 #[(0:Int)]:=(a.n N K).2;have z0:κ c N 0:=z.thaw 0;have c0:ζ c N 0 (.int .i64 0):=z.cell 0;have ad:=a.JA K (aQ c N 0 (.int .i64 now)) (Blk.eq (z.set 0 (.int .i64 now)) rfl);clear z a;simp [go_sem,Oper.wp,execOp,Act.eval,d,B,c0,z0];exact⟨.int .i64 0,h,fun _ _ _ i=>i,trivial,ad⟩
 intro h a0 c P;have a:=P.ph;obtain⟨Z,rfl,Q⟩:=P.frame [13,14,15,16,7,8] rfl;obtain⟨O,L,f7⟩:=(show ∃ O,h.O=some O/\Z 7 = .pointer (some ⟨O,0,none⟩) from Q 4 _ 7 rfl rfl);obtain⟨N,K,f8⟩:=(show ∃ N,h.N=some N/\Z 8 = .pointer (some ⟨N,0,none⟩) from Q 5 _ 8 rfl rfl);have b:=ω (show cJ w c O N st x now now q st x from ⟨a.below,a.s,a.q,a.r,(a.o O L).2,(a.n N K).2,a.at_,a.at_,(a.o O L).1,(a.n N K).1,a.ne O N L K,AW.refl _ _⟩);clear P Q a H0 L K;simp only [foldl_cons,foldl_nil,setIfInBounds_toArray,set_cons_succ,set_cons_zero,f7,f8];clear f7 f8;obtain⟨c0,I,c2,J,c4,c5,c6,c7,c8,c9,a1,a2,a3,a4⟩:=Blk.c14 (b.q);have HC:=ω (show ψ 52 #[.agg (nY q)] c (bH 0 c) from H.z c);have a7:=b.q.lt;clear H
 go_wp2_with fail
 refine HC.mono ?_;rintro au y ⟨rfl,aw⟩;have b:=ω (b.kept aw);have a7:=b.q.lt;have a9:=b.s.lt;have a6:=b.o.lt;have a8:=b.n.lt;clear aw HC c0 I c2 J c4 c5 c6 c7 c8 c9 a1 a2 a3 a4;have c0:ζ y (w.heap.size+1) 0 (.int .i64 aq):=by rw [b.z.q.cell 0]; exact congrArg (fun k=>some (Value.int .i64 k)) Hq.z
 first|(guard_hyp u;have I:ζ y (w.heap.size+1) 1 (.string q.job.name):=b.q.cell 1)|have c6:ζ y (w.heap.size+1) 6 (.string q.node.name):=b.q.cell 6
 first|(guard_hyp u;have c2:ζ y (w.heap.size+1) 2 (.int .i64 q.job.prio):=b.q.cell 2)|have c7:ζ y (w.heap.size+1) 7 (.int .i64 q.node.room):=b.q.cell 7
 first
  |(
   guard_hyp u
   have J:ζ y (w.heap.size+1) 3 (.int .i64 q.job.need):=b.q.cell 3;have c4:ζ y (w.heap.size+1) 4 (.int .i64 q.job.tries):=b.q.cell 4)
  |skip
 first|(guard_hyp u;have c5:ζ y (w.heap.size+1) 5 (.string q.job.tag):=b.q.cell 5)|have c8:ζ y (w.heap.size+1) 8 (.string q.node.zone):=b.q.cell 8
 first|(guard_hyp u;have s1:ζ y w 1 (.slice x.aj x.nj x.cj):=b.s.cell 1)|have s2:ζ y w 2 (.slice x.an x.nn x.cn):=b.s.cell 2
 first
  |(
   guard_hyp u
   have HP:=ω (show ψ 96 #[.slice x.aj x.nj x.cj,.agg #[q.job.name,q.job.prio,q.job.need,q.job.tries,q.job.tag],.func (.func 97) #[] #[]] y _ from rM.1 q.job st.jobs x.aj x.nj x.cj y b.at_.j b.at_.lj d))
  |(
   guard_hyp ap
   have HP:=ω (show ψ 98 #[.slice x.an x.nn x.cn,.agg #[q.node.name,q.node.room,q.node.zone],.func (.func 99) #[] #[]] y _ from rM.2.1 q.node st.nodes x.an x.nn x.cn y b.at_.n b.at_.ln B))
 go_wp2_with fail
 refine HP.mono ?_;rintro au V ⟨A,G,rfl,R,ai⟩
 first|(guard_hyp u;obtain⟨so,X⟩:∃ so,mL st q.job=so:=⟨_,rfl⟩)|obtain⟨so,X⟩:∃ so,mM st q.node=so:=⟨_,rfl⟩
 first|(guard_hyp u;obtain⟨m,D⟩:∃ m,(jE aC.name st.jobs q.job).length=m:=⟨_,rfl⟩)|obtain⟨m,D⟩:∃ m,(jE av.name st.nodes q.node).length=m:=⟨_,rfl⟩
 have aA:m<=1001:=by
  first|(guard_hyp u;have i:=lY aC.name q.job st.jobs false)|have i:=lY av.name q.node st.nodes false
  first|(guard_hyp u;have B:=b.at_.lj)|have B:=b.at_.ln
  rw [<- D];unfold jE;simp only [Bool.false_eq_true,if_false] at i;omega
 have p:=b.kept ai;rw [D] at R |-
 first
  |(
   guard_hyp u
   have W:=ω (show cJ w (sQ V O 1 (.slice A m G)) O N st x now now q so ⟨A,m,G,x.an,x.nn,x.cn,x.al,x.nl,x.cl⟩ from by
    rw [<- X]
    exact p.zy 1 _ rfl (p.ao.Lz G (cS R) D (by omega) (fun ar T=>by
     rcases nZ T with rfl | T
     · exact⟨S.j1,S.j2⟩
     · exact p.at_.oj ar T)) ⟨.own R b.below.size,p.new.n,p.new.l⟩))
  |(
   guard_hyp ap
   have W:=ω (show cJ w (sQ V O 2 (.slice A m G)) O N st x now now q so ⟨x.aj,x.nj,x.cj,A,m,G,x.al,x.nl,x.cl⟩ from by
    rw [<- X]
    exact p.zy 2 _ rfl (p.ao.Oe G (cS R) D (by omega) (fun ar T=>by
     rcases nZ T with rfl | T
     · exact⟨S.n1,S.n2⟩
     · exact p.at_.on_ ar T)) ⟨p.new.j,.own R b.below.size,p.new.l⟩))
 first|(guard_hyp u;have o1:ζ V O 1 (.slice x.aj x.nj x.cj):=p.o.cell 1)|have o2:ζ V O 2 (.slice x.an x.nn x.cn):=p.o.cell 2
 first|(guard_hyp u;have z1:κ V O 1:=p.o.thaw 1)|have z2:κ V O 2:=p.o.thaw 2
 have a6:=p.o.lt
 first|(guard_hyp u;obtain⟨xo,ae⟩:∃ xo:StA,⟨A,m,G,x.an,x.nn,x.cn,x.al,x.nl,x.cl⟩=xo:=⟨_,rfl⟩)|obtain⟨xo,ae⟩:∃ xo:StA,⟨x.aj,x.nj,x.cj,A,m,G,x.al,x.nl,x.cl⟩=xo:=⟨_,rfl⟩
 rw [ae] at W;have az:=ω X
 first
  |(
   guard_hyp u
   clear ae X D R ai p HP b c0 I c2 J c4 c5 s1)
  |(
   guard_hyp ap
   clear ae X D R ai p HP b c0 c6 c7 c8 s2)
 go_wp2_with fail
 obtain⟨w3,ax⟩:∃ w3,V.setCell ⟨O,aq,none⟩ (.slice A m G)=w3:=⟨_,rfl⟩;rw [ax] at W |-;clear ax;obtain⟨E,hE⟩:∃ E,aE so=E:=⟨_,rfl⟩;have HE:=ω (show Value.int .i64 (aE so)=Value.int .i64 E from by rw [hE]);have ay:=ω hE;clear hE;refine rq (Γ:=Unit) 184 (fun _=>Lw so xo now E) [3,4] (fun F _=>nxE w O N st x now now q so xo F) () (show cJ w (w3).drew O N st x now now q so xo from W.drewN) ?_ ?_
 · clear W;refine⟨?_,?_,?_,?_,?_,?_,?_,trivial⟩
   · refine okQ 0 1 fun F h C c _ _ a e=>?_;have d:=e.k 7 rfl;have a:=(show cJ w c O N st x now now q so xo from jS (by omega) a);obtain⟨M,aa,ab,ac⟩:=Blk.c4 (a.o);simp [go_sem,Oper.wp,execOp,Act.eval,d,M,aa,ab,ac];exact⟨_,rfl,rfl,jT (by omega) a⟩
   · refine okQ 0 2 fun F h C c _ _ a e=>?_;have d:=e.k 8 rfl;have M:ζ c N 0 (.int .i64 now):=(qP a).cell 0;simp [go_sem,Oper.wp,execOp,Act.eval,d,M];exact⟨_,rfl,rfl,a⟩
   · refine okQ 0 0 fun F h C c _ _ a e=>?_;have d:=e.k 7 rfl;have a:=(show cJ w c O N st x now now q so xo from jS (by omega) a);obtain⟨M,aa,ab,ac⟩:=Blk.c4 (a.o);simp [go_sem,Oper.wp,execOp,Act.eval,d,M,aa,ab,ac];exact⟨_,rfl,rfl,jT (by omega) a⟩
   · refine .inl ⟨0,rfl,fun h C c a e=>aJ rfl ?_⟩;obtain⟨u1,d,rfl⟩:=e.g 2 182 rfl rfl;simp [go_sem,Oper.wp,execOp,Act.eval,d];have a:=(show cJ w c O N st x now now q so xo from a);refine (lR so xo c a.ao).mono ?_;rintro au w' ⟨rfl,hb⟩;exact⟨_,rfl,HE,a.kept hb⟩
   · refine .inl ⟨1,rfl,fun h C c a e=>aJ rfl ?_⟩;have d:=e.k 4 rfl;obtain⟨u2,B,rfl⟩:=e.g 0 180 rfl rfl;have a:=(show cJ w c O N st x now now q so xo from a);have z:=a.r;obtain⟨z0,z1,z2,z3⟩:=Blk.z4 (z);obtain⟨c0,I,c2,J⟩:=Blk.c4 (z);obtain⟨ak,am⟩:=Blk.S4 z (.int .i64 so.rev) (.slice xo.aj xo.nj xo.cj) (.slice xo.an xo.nn xo.cn) (.slice xo.al xo.nl xo.cl);have ad:nxE w O N st x now now q so xo 2 _:=⟨c,a,am,ak⟩;clear z a;simp [go_sem,Oper.wp,execOp,Act.eval,d,B,c0,I,c2,J,z0,z1,z2,z3];exact⟨⟨.int .i64 0,trivial⟩,ad⟩
   · exact ok1 2 2 1 181 rfl rfl (fun _ _ i=>i) fun _=>rfl
   · exact ok1 2 2 3 183 rfl rfl (fun _ _ i=>i) fun _=>rfl
 intro h a0 wz P;obtain⟨wm,D,hg,hr⟩:=(show ∃ wm,cJ w wm O N st x now now q so xo/\wm.grownBy wz (some (w.heap.size+2))/\Blk wz (w.heap.size+2) 26 (stC so xo) from P.ph);obtain⟨Z,rfl,Q⟩:=P.frame [180,181,182,183,5,6] rfl;have f5:Z 5 = .int .i64 now:=Q 5 _ 5 rfl rfl;have f6:Z 6 = .int .i64 E:=Q 6 _ 6 rfl rfl;obtain⟨y0,y1,y2,y3⟩:=Blk.c4 (hr);have aW:=ω (D.end_ hg E);clear P Q D hg hr W;simp only [foldl_cons,foldl_nil,setIfInBounds_toArray,set_cons_succ,set_cons_zero,f5,f6];clear f5 f6;go_wp2;refine bodyPost_ret (v:=.tuple #[.agg (stC so xo),.int .i64 now,.int .i64 E]) (by simp [results,Tryz.results54,go_sem,stC, *]) rfl ?_;rw [az.z,ay.z];exact aW)
end Go.Proofs.YtimglglgcgpjgabGreatDoor
