/- Of the proof of a statement: RcC, RcD, RcE, RcF, RcG, TextRR. -/
import Derived.Test.YtimglglgcgpjgaaGreatDoorQDoB
set_option linter.unusedVariables false
set_option linter.unusedSimpArgs false
set_option maxRecDepth 100000
set_option maxHeartbeats 8000000
namespace Go.Proofs.YtimglglgcgpjgaaGreatDoor
open List (foldl_cons foldl_nil setIfInBounds_toArray set_cons_succ set_cons_zero)
open Go.RowKit
open Go.Lib (validD)
def bG (E:Int) (w:World) (e:Ending) (w':World):Prop:=e = .returned (.int .i64 E)/\Below w w w'
theorem Be (n:Int) (w:World):ψ 199 #[n] w fun g h=>g = .returned (.bool (ranged n 0 1099511627776))/\Below w w h:=by
 by_cases b:0<=n
 · by_cases c:n<=1099511627776
   · have a:ranged n 0 1099511627776=true:=aM.2 ⟨b,c⟩;have d:decide (0<=n)=true:=t8 b;have e:decide (n<=1099511627776)=true:=t8 c;rw [a];go_enter Tryz.func199,Tryz.ntmps199;go_wp2;go_ret;exact⟨rfl,θ⟩
   · have a:ranged n 0 1099511627776=false:=fT.2 (by omega);have d:decide (0<=n)=true:=t8 b;have e:decide (n<=1099511627776)=false:=fK c;rw [a];go_enter Tryz.func199,Tryz.ntmps199;go_wp2;go_ret;exact⟨rfl,θ⟩
 · have a:ranged n 0 1099511627776=false:=fT.2 (by omega);have d:decide (0<=n)=false:=fK b;rw [a];go_enter Tryz.func199,Tryz.ntmps199;go_wp2;go_ret;exact⟨rfl,θ⟩
theorem GA (j:aC) (P:Nat) (w:World) (b:Blk w P 207 #[j.name,j.prio,j.need,j.tries,j.tag]) (g:j.name.size<=9223372036854775807) (h:j.tag.size<=9223372036854775807) (i:Tabs w):ψ 262 #[π P 0] w (bG (fS j) w):=by
 obtain⟨m,n,o,p,q⟩:=Blk.c5 (b);have l:=b.lt;have a:=ω (show Calls Tryz.prog _ #[.agg #[j.name,j.prio,j.need,j.tries,j.tag]] w _ from vV j w g h i);obtain⟨E,c⟩:∃ E,fS j=E:=⟨_,rfl⟩;rw [c] at a |-;clear b c;go_enter Tryz.func262,Tryz.ntmps262
 go_wp2_with fail
 refine a.mono ?_;rintro k r ⟨rfl,d⟩;have e:=ω d;clear d a;go_wp2;go_ret;exact⟨rfl,e⟩
theorem EW (j:av) (P:Nat) (w:World) (a:Blk w P 210 #[j.name,j.room,j.zone]) (g:j.name.size<=9223372036854775807) (h:j.zone.size<=9223372036854775807) (i:Tabs w):ψ 271 #[π P 0] w (bG (dP j) w):=by
 have m:ζ w P 0 (.string j.name):=a.cell 0;have n:ζ w P 1 (.int .i64 j.room):=a.cell 1;have o:ζ w P 2 (.string j.zone):=a.cell 2;have l:=a.lt;have b:=ω (show Calls Tryz.prog _ #[.agg #[j.name,j.room,j.zone]] w _ from uH j w g h i);obtain⟨E,c⟩:∃ E,dP j=E:=⟨_,rfl⟩;rw [c] at b |-;clear a c;go_enter Tryz.func271,Tryz.ntmps271
 go_wp2_with fail
 refine b.mono ?_;rintro k p ⟨rfl,d⟩;have e:=ω d;clear d b;go_wp2;go_ret;exact⟨rfl,e⟩
theorem EX (s:ByteArray) (P:Nat) (w:World) (d:Blk w P 214 #[s]) (k:s.size<=9223372036854775807) (j:Tabs w):ψ 281 #[π P 0] w (bG (if cP s then 0 else 4) w):=by
 have n:ζ w P 0 (.string s):=d.cell 0;have m:=d.lt;have a:=ω (kr s w k j);obtain⟨b,h⟩:∃ b,cP s=b:=⟨_,rfl⟩;rw [h] at a |-;obtain⟨E,c⟩:∃ E:Int,(if b=true then (0:Int) else 4)=E:=⟨_,rfl⟩;rw [c];have g:=ω c;clear d h c;go_enter Tryz.func281,Tryz.ntmps281
 go_wp2_with fail
 refine a.mono ?_;rintro l o ⟨rfl,i⟩;have e:=ω i;clear i a;cases b
 · obtain rfl:(4:Int)=E:=g.z;go_wp2;go_ret;exact⟨rfl,e⟩
 · obtain rfl:(0:Int)=E:=g.z;go_wp2;go_ret;exact⟨rfl,e⟩
theorem Di (s:Int) (P:Nat) (w:World) (d:Blk w P 216 #[s]):ψ 285 #[π P 0] w (bG (if ranged s 0 1099511627776 then 0 else 1) w):=by
 have l:ζ w P 0 (.int .i64 s):=d.cell 0;have k:=d.lt;have a:=ω (Be s w);obtain⟨b,h⟩:∃ b,ranged s 0 1099511627776=b:=⟨_,rfl⟩;rw [h] at a |-;obtain⟨E,c⟩:∃ E:Int,(if b=true then (0:Int) else 1)=E:=⟨_,rfl⟩;rw [c];have g:=ω c;clear d h c;go_enter Tryz.func285,Tryz.ntmps285
 go_wp2_with fail
 refine a.mono ?_;rintro j m ⟨rfl,i⟩;have e:=ω i;clear i a;cases b
 · obtain rfl:(1:Int)=E:=g.z;go_wp2;go_ret;exact⟨rfl,e⟩
 · obtain rfl:(0:Int)=E:=g.z;go_wp2;go_ret;exact⟨rfl,e⟩
theorem Dj (l:ak) (P:Nat) (w:World) (j:Blk w P 213 #[l.job,l.node,l.till]) (I:l.job.size<=9223372036854775807) (J:l.node.size<=9223372036854775807) (p:Tabs w):ψ 276 #[π P 0] w (bG (lsE l) w):=by
 have K:ζ w P 0 (.string l.job):=j.cell 0;have e:=j.lt;have x:=ω j;have F:=ω p;have m:=ω (kr l.job w I p);obtain⟨a,ha⟩:∃ a,cP l.job=a:=⟨_,rfl⟩;obtain⟨b,q⟩:∃ b,cP l.node=b:=⟨_,rfl⟩;obtain⟨c,u⟩:∃ c,ranged l.till 0 1099511627776=c:=⟨_,rfl⟩;obtain⟨E,d⟩:∃ E,lsE l=E:=⟨_,rfl⟩;rw [d];unfold lsE at d;rw [ha,q,u] at d;rw [ha] at m;have h:=ω d;have G:=ω q;have H:=ω u;clear j p ha q u d;go_enter Tryz.func276,Tryz.ntmps276
 go_wp2_with fail
 refine m.mono ?_;rintro z C ⟨rfl,r⟩;have g:=ω r;have i:=ω (x.below r x.lt);clear r m K e;cases a
 · obtain rfl:(4:Int)=E:=h.z;go_wp2;go_ret;exact⟨rfl,g⟩
 have L:ζ C P 1 (.string l.node):=i.cell 1;have e:=i.lt;have n:=ω (kr l.node C J (F.below g.z));rw [G.z] at n
 go_wp2_with fail
 refine n.mono ?_;rintro z D ⟨rfl,s⟩;have k:=ω (g.trans (s.mono g.size));have y:=ω (i.below s i.lt);clear s n L e;cases b
 · obtain rfl:(4:Int)=E:=h.z;go_wp2;go_ret;exact⟨rfl,k⟩
 have M:ζ D P 2 (.int .i64 l.till):=y.cell 2;have e:=y.lt;have o:=ω (Be l.till D);rw [H.z] at o
 go_wp2_with fail
 refine o.mono ?_;rintro z N ⟨rfl,B⟩;have v:=ω (k.trans (B.mono k.size));clear B o M e;cases c
 · obtain rfl:(1:Int)=E:=h.z;go_wp2;go_ret;exact⟨rfl,v⟩
 · obtain rfl:(0:Int)=E:=h.z;go_wp2;go_ret;exact⟨rfl,v⟩
theorem JD (s I:Int) (p F:ByteArray) (q G:Int) (n D:Int) (r H:Int) (o E:ByteArray) (z O:ByteArray) (B P:Int) (C Q:ByteArray) (u J:ByteArray) (v K:ByteArray) (w L:Int) (y N:ByteArray) (x M:Int) (S:(⟨s,⟨p,q,n,r,o⟩,⟨z,B,C⟩,⟨u,v,w⟩,y,x⟩:aK)≠(⟨I,⟨F,G,D,H,E⟩,⟨O,P,Q⟩,⟨J,K,L⟩,N,M⟩:aK)) (W:World):(binOp .neq 87 (.agg #[s,p,q,n,r,o,z,B,C,u,v,w,y,x]) (.agg #[I,F,G,D,H,E,O,P,Q,J,K,L,N,M])).run Tryz.prog W = .ok (.bool true) W:=by
 by_cases b:s=I;rotate_left
 · simp [go_sem,b]
 by_cases a:p.toList=F.toList;rotate_left
 · simp [go_sem,b,a]
 by_cases c:q=G;rotate_left
 · simp [go_sem,b,a,c]
 by_cases d:n=D;rotate_left
 · simp [go_sem,b,a,c,d]
 by_cases f:r=H;rotate_left
 · simp [go_sem,b,a,c,d,f]
 by_cases e:o.toList=E.toList;rotate_left
 · simp [go_sem,b,a,c,d,f,e]
 by_cases g:z.toList=O.toList;rotate_left
 · simp [go_sem,b,a,c,d,f,e,g]
 by_cases i:B=P;rotate_left
 · simp [go_sem,b,a,c,d,f,e,g,i]
 by_cases h:C.toList=Q.toList;rotate_left
 · simp [go_sem,b,a,c,d,f,e,g,i,h]
 by_cases j:u.toList=J.toList;rotate_left
 · simp [go_sem,b,a,c,d,f,e,g,i,h,j]
 by_cases k:v.toList=K.toList;rotate_left
 · simp [go_sem,b,a,c,d,f,e,g,i,h,j,k]
 by_cases m:w=L;rotate_left
 · simp [go_sem,b,a,c,d,f,e,g,i,h,j,k,m]
 by_cases l:y.toList=N.toList;rotate_left
 · simp [go_sem,b,a,c,d,f,e,g,i,h,j,k,m,l]
 by_cases R:x=M;rotate_left
 · simp [go_sem,b,a,c,d,f,e,g,i,h,j,k,m,l,R]
 refine absurd ?_ S;subst b;have a:=dJ a; subst a;subst c;subst d;subst f;have e:=dJ e; subst e;have g:=dJ g; subst g;subst i;have h:=dJ h; subst h;have j:=dJ j; subst j;have k:=dJ k; subst k;subst m;have l:=dJ l; subst l;subst R;rfl
theorem pR (a b:aK):∃ t:Bool,(t=true↔a=b)/\∀ W,(binOp .neq 87 (bP a) (bP b)).run Tryz.prog W = .ok (.bool (!t)) W:=by
 by_cases h:a=b
 · subst h;exact⟨true,⟨fun _=>rfl,fun _=>rfl⟩,fun W=>by simp [go_sem,bP,aV]⟩
 · exact⟨false,⟨fun c=>(by cases c),fun c=>absurd c h⟩,fun W=>JD _ _ _ _ _ _ _ _ _ _ _ _ _ _ _ _ _ _ _ _ _ _ _ _ _ _ _ _ h W⟩
structure Is (w:World) (q:aK) (J:Value->World->Prop) (v:Value) (wx:World):Prop where
 qb:Blk wx w 87 (aV q)
 pb:J v wx
 below:Below w w wx
structure ROk (q:aK):Prop where
 j1:q.job.name.size<=9223372036854775807
 j2:q.job.tag.size<=9223372036854775807
 n1:q.node.name.size<=9223372036854775807
 n2:q.node.zone.size<=9223372036854775807
 l1:q.lease.job.size<=9223372036854775807
 l2:q.lease.node.size<=9223372036854775807
 s:q.name.size<=9223372036854775807
def ckV (B:Nat) (T:TypeId) (v:Value) (q h:aK) (t:Bool):Nat->Value->Prop
 | 0,u=>u = π B 0
 | 1,u=>u = .int .i64 q.kind
 | 2,u=>u = .iface T v
 | 3,u=>u = .agg #[.int .i64 h.kind,.string h.job.name,.int .i64 h.job.prio,.int .i64 h.job.need,.int .i64 h.job.tries,.string h.job.tag,.string h.node.name,.int .i64 h.node.room,.string h.node.zone,.string h.lease.job,.string h.lease.node,.int .i64 h.lease.till,.string h.name,.int .i64 h.n]
 | 4,u=>u = .agg #[.int .i64 q.kind,.string q.job.name,.int .i64 q.job.prio,.int .i64 q.job.need,.int .i64 q.job.tries,.string q.job.tag,.string q.node.name,.int .i64 q.node.room,.string q.node.zone,.string q.lease.job,.string q.lease.node,.int .i64 q.lease.till,.string q.name,.int .i64 q.n]
 | 5,u=>u = .bool (!t)
 | 6,u=>u = .bool (!t)
 | _,_=>False
theorem nI (q h:aK) (w:World) (T:TypeId) (F:FuncId) (K:Int) (J:Value->World->Prop) (hJ:∀ v w w',J v w->Below w.heap.size w w'->J v w')
 (hn:∀ v (w:World),(binOp .eql 154 (.iface T v) .nilIface).run Tryz.prog w = .ok (.bool false) w)
 (ae:(h≠q->cO q=4)/\(h=q->cO q=K))
 (m:∀ w,ψ 77 #[bP q] w fun o w'=>∃ v,o = .returned (.iface T v)/\J v w'/\Below w w w')
 (r:∀ v w,J v w->ψ 79 #[q.kind,.iface T v] w fun o w'=>o = .returned (bP h)/\Below w w w')
 (X : ∀ v w, J v w -> ∀ w', (method 415 T v "bracken/req.check").run Tryz.prog w' = .ok (F, v) w')
 (hc:∀ a (w:World),(callFunc F a).run Tryz.prog w = .ok (.enter F a) w)
 (p:∀ v i,J v i->Below w w i->ψ F #[v] i (bG K i)) :
 ψ 80 #[bP q] w (bG (cO q) w):=by
 obtain⟨W,C⟩:∃ W,w.alloc (.cells (aV q) 87)=W:=⟨_,rfl⟩;have c:Blk W w 87 (aV q):=by rw [<- C]; exact n5 w _
 have ab:Below w w W:=by rw [<- C]; exact (θ).alloc lJ _
 have m:=ω (m W);have V:=ω p;have Y:=ω X;have B:=ω r;have E:=ω (show ∀ v b w',Below b.heap.size b w'->Is w q J v b->Is w q J v w' from fun v _ _ c h=>⟨h.qb.below c h.qb.lt,hJ v _ _ h.pb c,h.below.trans (c.mono h.below.size)⟩);obtain⟨t,ht,oA⟩:=pR h q;have u:∀ W,(binOp .neq 87 (.agg #[h.kind,h.job.name,h.job.prio,h.job.need,h.job.tries,h.job.tag,h.node.name,h.node.room,h.node.zone,h.lease.job,h.lease.node,h.lease.till,h.name,h.n]) (.agg (oL q))).run Tryz.prog W = .ok (.bool (!t)) W:=oA;clear oA;obtain⟨c0,c1,c2,c3,c4,c5,c6,c7,c8,c9,af,ag,ah,ai⟩:=Blk.c14 (c);have hlt:=c.lt;have Hq:=ω c;have Z:=ω ab;have z:=ω ae;have H:=ω ht;have yH:=ω u;have G:=ω C;clear c ab ae ht u C p X r hJ;obtain⟨x,N⟩:∃ x,cO q=x:=⟨_,rfl⟩;rw [N];have y:=ω N;clear N;unfold bP at m B |-;unfold aV at m |-;unfold aV at G B;go_enter Tryz.func80,Tryz.ntmps80
 go_wp2_with fail
 try simp only [G.z]
 clear G;refine m.mono ?_;rintro o w1 ⟨v,rfl,ad,O⟩;have S:Is w q J v w1:=⟨Hq.below O Hq.lt,ad,Z.trans (O.mono Z.size)⟩;have r:=ω (B.z v);clear ad O m B c0 c1 c2 c3 c4 c5 c6 c7 c8 c9 af ag ah ai hlt
 go_wp2_with fail
 have u:=yH.z;refine rq (Γ:=Unit) 18 (fun _=>ckV w T v q h t) [] (fun _ _ b=>Is w q J v b) () (E.z v _ _ (θ).drew S) ?_ ?_
 · refine⟨?_,?_,?_,?_,?_,?_,?_,trivial⟩
   · exact ok0 0 0 1 rfl fun _=>rfl
   · refine okQ 0 0 fun R D a b _ _ d e=>?_;obtain⟨u1,l,rfl⟩:=e.g 0 10 rfl rfl;have P:ζ b w 0 (.int .i64 q.kind):=d.qb.cell 0;simp [go_sem,Oper.wp,execOp,Act.eval,l,P];exact⟨_,rfl,rfl,d⟩
   · exact ok0 0 0 3 rfl fun _=>rfl
   · refine okQ 0 0 fun R D a b _ _ d e=>?_;obtain⟨u1,l,rfl⟩:=e.g 1 11 rfl rfl;obtain⟨u2,L,rfl⟩:=e.g 2 12 rfl rfl;simp [go_sem,Oper.wp,execOp,Act.eval,l,L];refine (r.z b d.pb).mono ?_;rintro o w' ⟨rfl,c⟩;exact⟨_,rfl,rfl,E.z v b w' c d⟩
   · refine okQ 0 0 fun R D a b _ _ d e=>?_;have l:=e.k 1 rfl;obtain⟨P,aj,ak,al,am,ao,ap,aq,ar,au,F8,F9,Ga,Gb⟩:=Blk.c14 (d.qb);simp [go_sem,Oper.wp,execOp,Act.eval,l,P,aj,ak,al,am,ao,ap,aq,ar,au,F8,F9,Ga,Gb];exact⟨_,rfl,rfl,d⟩
   · refine okQ 0 0 fun R D a b _ _ d e=>?_;obtain⟨u1,l,rfl⟩:=e.g 3 13 rfl rfl;obtain⟨u2,L,rfl⟩:=e.g 4 14 rfl rfl;simp [go_sem,Oper.wp,execOp,Act.eval,l,L,u];exact⟨_,rfl,rfl,d⟩
   · exact ok1 0 0 5 15 rfl rfl (fun _ _ h=>h) fun _=>rfl
 intro D a i Q;have j:=ω Q.ph;obtain⟨fv,rfl,ac⟩:=Q.frame [10,11,12,13,14,15,9] rfl;have h9:fv 9 = .bool (!t):=ac 6 _ 9 rfl rfl;clear Q ac S r u yH;simp only [foldl_cons,foldl_nil,setIfInBounds_toArray,set_cons_succ,set_cons_zero,h9];clear h9;cases t
 · have s:cO q=4:=z.z.1 (fun h=>by have:=H.z.2 h; cases this);obtain rfl:(4:Int)=x:=s.symm.trans y.z;have I:=ω (show bG 4 w (.returned (.int .i64 4)) i from ⟨rfl,j.below⟩);clear s z H y;go_wp2;go_ret;exact I
 · have s:cO q=K:=z.z.2 (H.z.1 rfl);obtain rfl:K=x:=s.symm.trans y.z;have p:=ω (V.z v i j.pb j.below);clear s z y;have hm:=Y.z v i j.pb;clear Y V E
   go_wp2_with fail
   refine p.mono ?_;rintro o w5 ⟨rfl,aa⟩;have U:=ω (j.below.trans (aa.mono j.below.size));have I:=ω (show bG K w (.returned (.int .i64 K)) w5 from ⟨rfl,U⟩);clear aa p j U hm;go_wp2;go_ret;exact I
def PtJ (T:TypeId) (cs:Array Value) (v:Value) (w:World):Prop:=∃ P,v = .pointer (some ⟨P,0,none⟩)/\Blk w P T cs
theorem PtJ.kept {T:TypeId} {cs:Array Value} (v:Value) (w w':World) (h:PtJ T cs v w) (a:Below w w w'):PtJ T cs v w':=by
 obtain⟨P,rfl,h⟩:=h;exact⟨P,rfl,h.below a h.lt⟩
theorem yJ {q h:aK} {K:Int} (b:ranged q.kind 1 9=true) (c:qO q=h) (d:eQ q=K):(h≠q->cO q=4)/\(h=q->cO q=K):=by
 subst c d;unfold cO;rw [if_neg (by simp [b])];exact⟨fun h=>if_pos h,fun h=>if_neg (fun a=>a h)⟩
theorem LW (q:aK) (w:World) (a:q.kind=1) (c:ROk q) (e:Tabs w):ψ 80 #[bP q] w (bG (cO q) w):=by
 refine nI q ⟨q.kind,q.job,aU,aN,⟨#[]⟩,0⟩ w 205 262 (eQ q) (PtJ 207 #[q.job.name,q.job.prio,q.job.need,q.job.tries,q.job.tag]) PtJ.kept ?_ (yJ (by rw [a]; rfl) (by unfold qO; simp [a]) rfl) (fun w=>(gX.1 q w a).mono fun k i h=>?_) ?_ ?_ ?_ ?_
 · exact fun _ _=>rfl
 · obtain⟨P,rfl,-,h,b⟩:=h;exact⟨_,rfl,⟨P,rfl,h⟩,b⟩
 · rintro v d ⟨P,rfl,h⟩;exact B2 q P d h
 · rintro v d ⟨P,rfl,h⟩ i;kernel_rfl
 · exact fun _ _=>by kernel_rfl
 · rintro v j ⟨P,rfl,h⟩ b;have g:eQ q=fS q.job:=by unfold eQ; simp [a]
   rw [g];exact GA q.job P j h c.j1 c.j2 (e.below b)
theorem LX (q:aK) (w:World) (a:q.kind=2) (c:ROk q) (e:Tabs w):ψ 80 #[bP q] w (bG (cO q) w):=by
 refine nI q ⟨q.kind,bJ,q.node,aN,⟨#[]⟩,0⟩ w 208 271 (eQ q) (PtJ 210 #[q.node.name,q.node.room,q.node.zone]) PtJ.kept ?_ (yJ (by rw [a]; rfl) (by unfold qO; simp [a]) rfl) (fun w=>(gX.2.1 q w a).mono fun k i h=>?_) ?_ ?_ ?_ ?_
 · exact fun _ _=>rfl
 · obtain⟨P,rfl,-,h,b⟩:=h;exact⟨_,rfl,⟨P,rfl,h⟩,b⟩
 · rintro v d ⟨P,rfl,h⟩;exact Aj q P d h
 · rintro v d ⟨P,rfl,h⟩ i;kernel_rfl
 · exact fun _ _=>by kernel_rfl
 · rintro v j ⟨P,rfl,h⟩ b;have g:eQ q=dP q.node:=by unfold eQ; simp [a]
   rw [g];exact EW q.node P j h c.n1 c.n2 (e.below b)
theorem LY (q:aK) (w:World) (a:q.kind=5) (c:ROk q) (e:Tabs w):ψ 80 #[bP q] w (bG (cO q) w):=by
 refine nI q ⟨q.kind,bJ,aU,q.lease,⟨#[]⟩,0⟩ w 211 276 (eQ q) (PtJ 213 #[q.lease.job,q.lease.node,q.lease.till]) PtJ.kept ?_ (yJ (by rw [a]; rfl) (by unfold qO; simp [a]) rfl) (fun w=>(gX.2.2.1 q w a).mono fun k i h=>?_) ?_ ?_ ?_ ?_
 · exact fun _ _=>rfl
 · obtain⟨P,rfl,-,h,b⟩:=h;exact⟨_,rfl,⟨P,rfl,h⟩,b⟩
 · rintro v d ⟨P,rfl,h⟩;exact za q P d h
 · rintro v d ⟨P,rfl,h⟩ i;kernel_rfl
 · exact fun _ _=>by kernel_rfl
 · rintro v j ⟨P,rfl,h⟩ b;have g:eQ q=lsE q.lease:=by unfold eQ; simp [a]
   rw [g];exact Dj q.lease P j h c.l1 c.l2 (e.below b)
def vN (a:Nat):Prop:=
 ∀ (q:aK) (w:World) (d:q.kind=a) (c:ROk q) (b:Tabs w),ψ 80 #[bP q] w (bG (cO q) w)
theorem vO:vN 3/\vN 4/\vN 6:=by
 refine⟨@fun q w a d b=>(fun(j:Unit)=>?_) (),@fun q w a d b=>(fun(k:Unit)=>?_) (),@fun q w a d b=>?_⟩<;>(
 first|(guard_hyp j;have e:=@gX.2.2.2.1)|(guard_hyp k;have e:=@gX.2.2.2.2.1)|(have e:=@gX.2.2.2.2.2.1)
 refine nI q ⟨q.kind,bJ,aU,aN,q.name,0⟩ w 215 281 (eQ q) (PtJ 214 #[q.name]) PtJ.kept ?_ (yJ (by rw [a]; rfl) (by unfold qO; simp [a]) rfl) (fun w=>(e q w a).mono fun n l h=>?_) ?_ ?_ ?_ ?_
 · exact fun _ _=>rfl
 · obtain⟨P,rfl,-,h,c⟩:=h;exact⟨_,rfl,⟨P,rfl,h⟩,c⟩
 · rintro v g ⟨P,rfl,h⟩;exact Ak q P g h
 · rintro v g ⟨P,rfl,h⟩ l;kernel_rfl
 · exact fun _ _=>by kernel_rfl
 · rintro v m ⟨P,rfl,h⟩ c;have i:eQ q=if cP q.name=true then 0 else 4:=by unfold eQ; simp [a]
   rw [i];exact EX q.name P m h d.s (b.below c))
theorem LZ (q:aK) (w:World) (a:q.kind=7) (k:ROk q) (j:Tabs w):ψ 80 #[bP q] w (bG (cO q) w):=by
 refine nI q ⟨q.kind,bJ,aU,aN,⟨#[]⟩,q.n⟩ w 217 285 (eQ q) (PtJ 216 #[q.n]) PtJ.kept ?_ (yJ (by rw [a]; rfl) (by unfold qO; simp [a]) rfl) (fun w=>(gX.2.2.2.2.2.2 q w a).mono fun i e h=>?_) ?_ ?_ ?_ ?_
 · exact fun _ _=>rfl
 · obtain⟨P,rfl,-,h,b⟩:=h;exact⟨_,rfl,⟨P,rfl,h⟩,b⟩
 · rintro v c ⟨P,rfl,h⟩;exact ze q P c h
 · rintro v c ⟨P,rfl,h⟩ e;kernel_rfl
 · exact fun _ _=>by kernel_rfl
 · rintro v g ⟨P,rfl,h⟩ b;have d:eQ q=if ranged q.n 0 1099511627776=true then 0 else 1:=by unfold eQ; simp [a]
   rw [d];exact Di q.n P g h
def E5 (a:Nat):Prop:=
 ∀ (q:aK) (w:World) (c:q.kind=a),ψ 77 #[bP q] w fun e b=>e = .returned (.iface 219 (.agg #[]))/\Below w w b
theorem wA:E5 8/\E5 9:=by
 refine⟨@fun q w b=>(fun(h:Unit)=>?_) (),@fun q w b=>?_⟩<;>(
 first|(guard_hyp h;have e:Tg 86:=⟨⟩)|(have e:Tg 87:=⟨⟩)
 obtain⟨W,a⟩:∃ W,w.alloc (.cells (aV q) 87)=W:=⟨_,rfl⟩;have c:Blk W w 87 (aV q):=by rw [<- a]; exact n5 w _
 have d:Below w w W:=by rw [<- a]; exact (θ).alloc lJ _
 have i:ζ W w 0 (.int .i64 e):=by rw [c.cell 0]; exact congrArg (fun k=>some (Value.int .i64 k)) b
 have g:=ω d;unfold bP;unfold aV at a |-;clear b c d;go_enter Tryz.func77,Tryz.ntmps77;go_wp2
 try rw [a]
 clear a;go_ret;exact⟨rfl,g⟩)
theorem L0 (q:aK) (w:World) (d:ranged q.kind 1 9=false):ψ 77 #[bP q] w fun g i=>g = .returned .nilIface/\Below w w i:=by
 obtain⟨W,a⟩:∃ W,w.alloc (.cells (aV q) 87)=W:=⟨_,rfl⟩;have b:Blk W w 87 (aV q):=by rw [<- a]; exact n5 w _
 have c:Below w w W:=by rw [<- a]; exact (θ).alloc lJ _
 have u:ζ W w 0 (.int .i64 q.kind):=b.cell 0;have h:=fT.1 d;have j:(q.kind == 1)=false:=eY (by omega);have k:(q.kind == 2)=false:=eY (by omega);have l:(q.kind == 3)=false:=eY (by omega);have m:(q.kind == 4)=false:=eY (by omega);have n:(q.kind == 5)=false:=eY (by omega);have o:(q.kind == 6)=false:=eY (by omega);have p:(q.kind == 7)=false:=eY (by omega);have r:(q.kind == 8)=false:=eY (by omega);have s:(q.kind == 9)=false:=eY (by omega);have e:=ω c;unfold bP;unfold aV at a |-;clear d b c h;go_enter Tryz.func77,Tryz.ntmps77;go_wp2
 try rw [a]
 clear a;go_ret;exact⟨rfl,e⟩
theorem JE (p:Value) (w:World):ψ 290 #[.agg #[],p] w fun e a=>e = .returned (.tuple #[])/\Below w w a:=by
 go_enter Tryz.func290,Tryz.ntmps290;go_wp2;go_end0;exact⟨rfl,(θ).alloc lJ _⟩
theorem E6 (w:World):ψ 289 #[.agg #[]] w (bG 0 w):=by
 go_enter Tryz.func289,Tryz.ntmps289;go_wp2;go_ret;exact⟨rfl,(θ).alloc lJ _⟩
theorem Ai (q:aK) (w:World):ψ 79 #[q.kind,.iface 219 (.agg #[])] w fun e b=>e = .returned (bP (dH q.kind))/\Below w w b:=
 oU q.kind _ _ 290 _ w (fun _=>by kernel_rfl) (fun _ _=>by kernel_rfl) (fun W S i d a=>(JE _ W).mono fun e b h=>⟨h.1,a.below h.2 a.lt,fun g c _=>h.2.block g c,h.2.mono (Nat.le_of_lt a.lt)⟩)
def Bh (a:Nat):Prop:=
 ∀ (q:aK) (w:World) (b:q.kind=a),ψ 80 #[bP q] w (bG (cO q) w)
theorem Bi:Bh 8/\Bh 9:=by
 refine⟨@fun q w a=>(fun(d:Unit)=>?_) (),@fun q w a=>?_⟩<;>(
 first|(guard_hyp d;have b:=@wA.1)|(have b:=@wA.2)
 refine nI q (dH q.kind) w 219 289 0 (fun v _=>v = .agg #[]) (fun _ _ _ h _=>h) ?_ (yJ (by rw [a]; rfl) (by unfold qO; simp [a,dH]) (by unfold eQ; simp [a])) (fun w=>(b q w a).mono fun i e h=>⟨_,h.1,rfl,h.2⟩) ?_ ?_ ?_ ?_
 · exact fun _ _=>rfl
 · rintro v c rfl;exact Ai q c
 · rintro v c rfl e;kernel_rfl
 · exact fun _ _=>by kernel_rfl
 · rintro v g rfl j;exact E6 g)
theorem L1 (q:aK) (w:World) (e:ranged q.kind 1 9=false):ψ 80 #[bP q] w (bG (cO q) w):=by
 obtain⟨W,b⟩:∃ W,w.alloc (.cells (aV q) 87)=W:=⟨_,rfl⟩;have d:Blk W w 87 (aV q):=by rw [<- b]; exact n5 w _
 have i:Below w w W:=by rw [<- b]; exact (θ).alloc lJ _
 have a:=ω (L0 q W e);have j:cO q=1:=by unfold cO; rw [if_pos e]
 rw [j];obtain⟨c0,l,c2,r,c4,c5,s,u,c8,v,m,n,o,p⟩:=Blk.c14 (d);have hlt:=d.lt;have g:=ω i;have c:=ω b;clear d i j b e;unfold bP at a |-;unfold aV at a |-;unfold aV at c;have z:∀ (w:World),(binOp .eql 154 .nilIface .nilIface).run Tryz.prog w = .ok (.bool true) w:=fun _=>rfl;go_enter Tryz.func80,Tryz.ntmps80
 go_wp2_with fail
 try simp only [c.z]
 clear c;refine a.mono ?_;rintro y x ⟨rfl,h⟩;have k:=ω (show bG 1 w (.returned (.int .i64 1)) x from ⟨rfl,g.trans (h.mono g.size)⟩);clear h a c0 l c2 r c4 c5 s u c8 v m n o p hlt;go_wp2;go_ret;exact k
theorem zn (q:aK) (w:World) (b:ROk q) (a:Tabs w):ψ 80 #[bP q] w (bG (cO q) w):=by
 cases c:ranged q.kind 1 9 with
 | false=>exact L1 q w c
 | true=>
  obtain⟨d,e⟩:=aM.1 c;have:q.kind=1\/q.kind=2\/q.kind=3\/q.kind=4\/q.kind=5\/q.kind=6\/q.kind=7\/q.kind=8\/q.kind=9:=by omega
  rcases this with h | h | h | h | h | h | h | h | h
  · exact LW q w h b a
  · exact LX q w h b a
  · exact vO.1 q w h b a
  · exact vO.2.1 q w h b a
  · exact LY q w h b a
  · exact vO.2.2 q w h b a
  · exact LZ q w h b a
  · exact Bi.1 q w h
  · exact Bi.2 q w h
def JF (q:aK):Prop:=∀ w,Tabs w->ψ 80 #[bP q] w (bG (cO q) w)
theorem tM {q:aK} (b:ROk q):JF q:=fun w a=>zn q w b a
theorem NB {s:ByteArray} {k n:Nat} (h:¬ s.size<k+n):(s.extract k s.size).extract 0 n=s.extract k (k+n):=by
 rw [ByteArray.extract_extract]
 congr 1
 omega
theorem BR (s:ByteArray) (w:World) (C:s.size<=9223372036854775807):ψ 94 #[s] w (iR s w):=by
 obtain⟨n,k,e,l⟩:∃ n k e,rdNum s=(n,k,e):=⟨_,_,_,rfl⟩;have g:=ω (AE l w C);obtain⟨q,F,z,r⟩:=gW l;have d:=ω l;clear l;by_cases t:e=0
 · subst t;have G:=r rfl;clear r z;by_cases j:16<n
   · have a:=ω (iR.mk' (w:=w) (w':=w) (vH d.z j) θ);go_enter Tryz.func94,Tryz.ntmps94
     go_wp2_with fail
     refine g.mono ?_;rintro x p ⟨rfl,rfl⟩;go_wp2;refine bodyPost_ret (v:=.tuple #[.string ⟨#[]⟩,.int .i64 0,.int .i64 2]) (by simp [results,Tryz.results94,go_sem]) rfl a.z
   · by_cases i:s.size<k+n
     · have a:=ω (iR.mk' (w:=w) (w':=w) (vI d.z j i) θ);clear q;go_enter Tryz.func94,Tryz.ntmps94
       go_wp2_with fail
       refine g.mono ?_;rintro x p ⟨rfl,rfl⟩;go_wp2;refine bodyPost_ret (v:=.tuple #[.string ⟨#[]⟩,.int .i64 0,.int .i64 3]) (by simp [results,Tryz.results94,go_sem]) rfl a.z
     · clear q;have b:=ω (Bj (s.extract k (k+n)) w (by rw [ByteArray.size_extract]; omega));have B:=ω (NB i);obtain⟨o,u⟩:∃ o,s.extract k s.size=o:=⟨_,rfl⟩;have H:o.size=s.size - k:=by rw [<- u,ByteArray.size_extract]; omega
       obtain⟨h,y⟩:∃ h,o.extract 0 n=h:=⟨_,rfl⟩;have D:h.size=n:=by rw [<- y,ByteArray.size_extract]; omega
       have c:=ω (show h=s.extract k (k+n) by rw [<- y,<- u]; exact B);rw [<- c.z] at b;cases m:validD (s.extract k (k+n)).data.toList
       · have a:=ω (iR.mk' (w:=w) (w':=w) (yC d.z j i m) θ);rw [c.z,m] at b;rw [<- c.z] at b;go_enter Tryz.func94,Tryz.ntmps94
         go_wp2_with fail
         refine g.mono ?_;rintro x p ⟨rfl,rfl⟩
         go_wp2_with fail
         refine b.mono ?_;rintro x E ⟨rfl,rfl⟩;go_wp2;refine bodyPost_ret (v:=.tuple #[.string ⟨#[]⟩,.int .i64 0,.int .i64 4]) (by simp [results,Tryz.results94,go_sem]) rfl a.z
       · have a:=ω (iR.mk' (w:=w) (w':=w) (C9 d.z j i m) θ);rw [<- c.z] at a;rw [c.z,m] at b;rw [<- c.z] at b;go_enter Tryz.func94,Tryz.ntmps94
         go_wp2_with fail
         refine g.mono ?_;rintro x p ⟨rfl,rfl⟩
         go_wp2_with fail
         refine b.mono ?_;rintro x E ⟨rfl,rfl⟩;go_wp2;refine bodyPost_ret (v:=.tuple #[.string h,.int .i64 ((k:Int)+n),.int .i64 0]) (by simp [results,Tryz.results94,go_sem,D]) rfl ?_;have:=a.z;rw [Int.natCast_add] at this;exact this
 · have a:=ω (iR.mk' (w:=w) (w':=w) (AQ d.z t) θ);clear r q;go_enter Tryz.func94,Tryz.ntmps94
   go_wp2_with fail
   refine g.mono ?_;rintro x p ⟨rfl,rfl⟩;go_wp2;refine bodyPost_ret (v:=.tuple #[.string ⟨#[]⟩,.int .i64 0,.int .i64 (e:Int)]) (by simp [results,Tryz.results94,go_sem]) rfl a.z
end Go.Proofs.YtimglglgcgpjgaaGreatDoor
