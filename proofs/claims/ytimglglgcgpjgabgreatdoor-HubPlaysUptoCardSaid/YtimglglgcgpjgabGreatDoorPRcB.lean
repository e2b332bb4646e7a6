/- Of the proof of a statement: RcA, RcB, RcC, SvOwn, FrsR, PushFeed. -/
import Derived.Test.YtimglglgcgpjgabGreatDoorPDoA
import Derived.Test.YtimglglgcgpjgabGreatDoorPWPutD
set_option linter.unusedVariables false
set_option linter.unusedSimpArgs false
set_option maxRecDepth 100000
set_option maxHeartbeats 8000000
namespace Go.Proofs.YtimglglgcgpjgabGreatDoor
open Go.RowKit
def oB (T t:TypeId) (cs:Array Value) (w:World) (e:Ending) (w':World):Prop:=
 ∃ P,e = .returned (.iface T (π P 0))/\w.heap.size<=P/\Blk w' P t cs/\Below w w w'
def qT (S:Nat) (q:aL) (w:World) (e:Ending) (w':World):Prop:=
 e = .returned (.tuple #[])/\Blk w' S 88 (aT q)/\(∀ g,g<w.heap.size->g≠S->w'.heap[g]? = w.heap[g]?)/\Below S w w'
def dI (k:Int):aL:=⟨k,bK,aV,aN,⟨#[]⟩,0⟩
theorem gZ :
 (∀ (q:aL) (w:World) (b:q.kind=1),ψ 73 #[bO q] w (oB 206 208 #[q.job.name,q.job.prio,q.job.need,q.job.tries,q.job.tag] w)) /\
 (∀ (q:aL) (w:World) (b:q.kind=2),ψ 73 #[bO q] w (oB 209 211 #[q.node.name,q.node.room,q.node.zone] w)) /\
 (∀ (q:aL) (w:World) (b:q.kind=5),ψ 73 #[bO q] w (oB 212 214 #[q.lease.job,q.lease.node,q.lease.till] w)) /\
 (∀ (q:aL) (w:World) (b:q.kind=3),ψ 73 #[bO q] w (oB 216 215 #[q.name] w)) /\
 (∀ (q:aL) (w:World) (b:q.kind=4),ψ 73 #[bO q] w (oB 216 215 #[q.name] w)) /\
 (∀ (q:aL) (w:World) (b:q.kind=6),ψ 73 #[bO q] w (oB 216 215 #[q.name] w)) /\
 (∀ (q:aL) (w:World) (b:q.kind=7),ψ 73 #[bO q] w (oB 218 217 #[q.n] w)):=by
 refine⟨@fun q w b=>(fun(i:Unit)=>?_) (),@fun q w b=>(fun(j:Unit)=>?_) (),@fun q w b=>(fun(k:Unit)=>?_) (),@fun q w b=>(fun(l g:Unit)=>?_) () (),@fun q w b=>(fun(m g:Unit)=>?_) () (),@fun q w b=>(fun(o g:Unit)=>?_) () (),@fun q w b=>(fun(p:Unit)=>?_) ()⟩<;>(
 first|(guard_hyp i;have c:Tg 20:=⟨⟩)|(guard_hyp j;have c:Tg 21:=⟨⟩)|(guard_hyp k;have c:Tg 9:=⟨⟩)|(guard_hyp l;have c:Tg 10:=⟨⟩)|(guard_hyp m;have c:Tg 33:=⟨⟩)|(guard_hyp o;have c:Tg 43:=⟨⟩)|(have c:Tg 76:=⟨⟩)
 obtain⟨W,d⟩:∃ W,w.alloc (.cells (aT q) 88)=W:=⟨_,rfl⟩;have a:Blk W w 88 (aT q):=by rw [<- d]; exact n5 w _
 have h:Below w w W:=by rw [<- d]; exact (θ).alloc lQ _
 have r:ζ W w 0 (.int .i64 c):=by rw [a.cell 0]; exact congrArg (fun k=>some (Value.int .i64 k)) b
 first
  |(
   guard_hyp i
   have s:ζ W w 1 (.string q.job.name):=a.cell 1;have z:ζ W w 2 (.int .i64 q.job.prio):=a.cell 2;have B:ζ W w 3 (.int .i64 q.job.need):=a.cell 3;have C:ζ W w 4 (.int .i64 q.job.tries):=a.cell 4;have D:ζ W w 5 (.string q.job.tag):=a.cell 5)
  |(
   guard_hyp j
   have E:ζ W w 6 (.string q.node.name):=a.cell 6;have F:ζ W w 7 (.int .i64 q.node.room):=a.cell 7;have G:ζ W w 8 (.string q.node.zone):=a.cell 8)
  |(
   guard_hyp k
   have H:ζ W w 9 (.string q.lease.job):=a.cell 9;have u:ζ W w 10 (.string q.lease.node):=a.cell 10;have v:ζ W w 11 (.int .i64 q.lease.till):=a.cell 11)
  |(
   guard_hyp g
   have x:ζ W w 12 (.string q.name):=a.cell 12)
  |(
   guard_hyp p
   have y:ζ W w 13 (.int .i64 q.n):=a.cell 13)
 have e:=ω h;unfold bO;unfold aT at d |-;clear b a h;go_enter Tryz.func73,Tryz.ntmps73;go_wp2
 try rw [d]
 clear d;go_ret;exact⟨_,rfl,e.size,n5 W _,e.alloc e.size _⟩)
theorem L4 (q:aL) (P S:Nat) (w:World) (c:Blk w P 208 #[q.job.name,q.job.prio,q.job.need,q.job.tries,q.job.tag]) (a:Blk w S 88 (aT (dI q.kind))):ψ 265 #[π P 0,π S 0] w (qT S ⟨q.kind,q.job,aV,aN,⟨#[]⟩,0⟩ w):=by
 obtain⟨j,k,l,m,n⟩:=Blk.c5 (c);have o:ζ w S 1 (.string ⟨#[]⟩):=a.cell 1;have p:ζ w S 2 (.int .i64 0):=a.cell 2;have r:ζ w S 3 (.int .i64 0):=a.cell 3;have s:ζ w S 4 (.int .i64 0):=a.cell 4;have u:ζ w S 5 (.string ⟨#[]⟩):=a.cell 5;have v:κ w S 1:=a.thaw 1;have z2:κ w S 2:=a.thaw 2;have x:κ w S 3:=a.thaw 3;have z4:κ w S 4:=a.thaw 4;have y:κ w S 5:=a.thaw 5;have h:=c.lt;have i:=a.lt;have d:=ω a;clear c a;go_enter Tryz.func265,Tryz.ntmps265;go_wp2;go_end0;exact⟨rfl,Blk.eq (Blk.set (Blk.set (Blk.set (Blk.set (Blk.set d.z 1 _) 2 _) 3 _) 4 _) 5 _) rfl,fun g e b=>(Below.heap_setCell _ ⟨S,5,none⟩ _ g b).trans ((Below.heap_setCell _ ⟨S,4,none⟩ _ g b).trans ((Below.heap_setCell _ ⟨S,3,none⟩ _ g b).trans ((Below.heap_setCell _ ⟨S,2,none⟩ _ g b).trans ((Below.heap_setCell _ ⟨S,1,none⟩ _ g b).trans (rfl))))),aZ (aZ (aZ (aZ (aZ θ lQ) lQ) lQ) lQ) lQ⟩
theorem JP (q:aL) (P S:Nat) (w:World) (b:Blk w P 211 #[q.node.name,q.node.room,q.node.zone]) (a:Blk w S 88 (aT (dI q.kind))):ψ 274 #[π P 0,π S 0] w (qT S ⟨q.kind,bK,q.node,aN,⟨#[]⟩,0⟩ w):=by
 have j:ζ w P 0 (.string q.node.name):=b.cell 0;have k:ζ w P 1 (.int .i64 q.node.room):=b.cell 1;have l:ζ w P 2 (.string q.node.zone):=b.cell 2;have m:ζ w S 6 (.string ⟨#[]⟩):=a.cell 6;have n:ζ w S 7 (.int .i64 0):=a.cell 7;have o:ζ w S 8 (.string ⟨#[]⟩):=a.cell 8;have p:κ w S 6:=a.thaw 6;have r:κ w S 7:=a.thaw 7;have z8:κ w S 8:=a.thaw 8;have h:=b.lt;have i:=a.lt;have d:=ω a;clear b a;go_enter Tryz.func274,Tryz.ntmps274;go_wp2;go_end0;exact⟨rfl,Blk.eq (Blk.set (Blk.set (Blk.set d.z 6 _) 7 _) 8 _) rfl,fun g e c=>(Below.heap_setCell _ ⟨S,8,none⟩ _ g c).trans ((Below.heap_setCell _ ⟨S,7,none⟩ _ g c).trans ((Below.heap_setCell _ ⟨S,6,none⟩ _ g c).trans (rfl))),aZ (aZ (aZ θ lQ) lQ) lQ⟩
theorem GG (q:aL) (P S:Nat) (w:World) (b:Blk w P 214 #[q.lease.job,q.lease.node,q.lease.till]) (a:Blk w S 88 (aT (dI q.kind))):ψ 279 #[π P 0,π S 0] w (qT S ⟨q.kind,bK,aV,q.lease,⟨#[]⟩,0⟩ w):=by
 have j:ζ w P 0 (.string q.lease.job):=b.cell 0;have k:ζ w P 1 (.string q.lease.node):=b.cell 1;have l:ζ w P 2 (.int .i64 q.lease.till):=b.cell 2;have o:ζ w S 9 (.string ⟨#[]⟩):=a.cell 9;have m:ζ w S 10 (.string ⟨#[]⟩):=a.cell 10;have n:ζ w S 11 (.int .i64 0):=a.cell 11;have s:κ w S 9:=a.thaw 9;have p:κ w S 10:=a.thaw 10;have r:κ w S 11:=a.thaw 11;have h:=b.lt;have i:=a.lt;have d:=ω a;clear b a;go_enter Tryz.func279,Tryz.ntmps279;go_wp2;go_end0;exact⟨rfl,Blk.eq (Blk.set (Blk.set (Blk.set d.z 9 _) 10 _) 11 _) rfl,fun g e c=>(Below.heap_setCell _ ⟨S,11,none⟩ _ g c).trans ((Below.heap_setCell _ ⟨S,10,none⟩ _ g c).trans ((Below.heap_setCell _ ⟨S,9,none⟩ _ g c).trans (rfl))),aZ (aZ (aZ θ lQ) lQ) lQ⟩
theorem JQ (q:aL) (P S:Nat) (w:World) (b:Blk w P 215 #[q.name]) (a:Blk w S 88 (aT (dI q.kind))):ψ 284 #[π P 0,π S 0] w (qT S ⟨q.kind,bK,aV,aN,q.name,0⟩ w):=by
 have j:ζ w P 0 (.string q.name):=b.cell 0;have k:ζ w S 12 (.string ⟨#[]⟩):=a.cell 12;have l:κ w S 12:=a.thaw 12;have h:=b.lt;have i:=a.lt;have c:=ω a;clear b a;go_enter Tryz.func284,Tryz.ntmps284;go_wp2;go_end0;exact⟨rfl,Blk.eq (Blk.set c.z 12 _) rfl,fun g e d=>(Below.heap_setCell _ ⟨S,12,none⟩ _ g d).trans (rfl),aZ θ lQ⟩
theorem GH (q:aL) (P S:Nat) (w:World) (b:Blk w P 217 #[q.n]) (a:Blk w S 88 (aT (dI q.kind))):ψ 288 #[π P 0,π S 0] w (qT S ⟨q.kind,bK,aV,aN,⟨#[]⟩,q.n⟩ w):=by
 have j:ζ w P 0 (.int .i64 q.n):=b.cell 0;have k:ζ w S 13 (.int .i64 0):=a.cell 13;have l:κ w S 13:=a.thaw 13;have h:=b.lt;have i:=a.lt;have c:=ω a;clear b a;go_enter Tryz.func288,Tryz.ntmps288;go_wp2;go_end0;exact⟨rfl,Blk.eq (Blk.set c.z 13 _) rfl,fun g e d=>(Below.heap_setCell _ ⟨S,13,none⟩ _ g d).trans (rfl),aZ θ lQ⟩
def mQ (w:World) (S:Nat) (h:aL):World:=World.setCell (World.setCell (World.setCell (World.setCell (World.setCell (World.setCell (World.setCell (World.setCell (World.setCell (World.setCell (World.setCell (World.setCell (World.setCell (World.setCell w ⟨S,0,none⟩ (.int .i64 h.kind)) ⟨S,1,none⟩ (.string h.job.name)) ⟨S,2,none⟩ (.int .i64 h.job.prio)) ⟨S,3,none⟩ (.int .i64 h.job.need)) ⟨S,4,none⟩ (.int .i64 h.job.tries)) ⟨S,5,none⟩ (.string h.job.tag)) ⟨S,6,none⟩ (.string h.node.name)) ⟨S,7,none⟩ (.int .i64 h.node.room)) ⟨S,8,none⟩ (.string h.node.zone)) ⟨S,9,none⟩ (.string h.lease.job)) ⟨S,10,none⟩ (.string h.lease.node)) ⟨S,11,none⟩ (.int .i64 h.lease.till)) ⟨S,12,none⟩ (.string h.name)) ⟨S,13,none⟩ (.int .i64 h.n)
theorem nG {w:World} {S:Nat} {c:aL} (h:aL) (a:Blk w S 88 (aT c)):Blk (mQ w S h) S 88 (aT h):=by
 have b:=Blk.set (Blk.set (Blk.set (Blk.set (Blk.set (Blk.set (Blk.set (Blk.set (Blk.set (Blk.set (Blk.set (Blk.set (Blk.set (Blk.set a 0 (.int .i64 h.kind)) 1 (.string h.job.name)) 2 (.int .i64 h.job.prio)) 3 (.int .i64 h.job.need)) 4 (.int .i64 h.job.tries)) 5 (.string h.job.tag)) 6 (.string h.node.name)) 7 (.int .i64 h.node.room)) 8 (.string h.node.zone)) 9 (.string h.lease.job)) 10 (.string h.lease.node)) 11 (.int .i64 h.lease.till)) 12 (.string h.name)) 13 (.int .i64 h.n);refine Blk.eq b ?_;simp [aT]
theorem kY (w:World) (S:Nat) (h:aL):Below S w (mQ w S h):=aZ (aZ (aZ (aZ (aZ (aZ (aZ (aZ (aZ (aZ (aZ (aZ (aZ (aZ θ lQ) lQ) lQ) lQ) lQ) lQ) lQ) lQ) lQ) lQ) lQ) lQ) lQ) lQ
theorem oV (k:Int) (h:aL) (T:TypeId) (F:FuncId) (v:Value) (w:World)
 (I : ∀ w, (method 417 T v "bracken/req.into").run Tryz.prog w = .ok (F, v) w)
 (E:∀ a (w:World),(callFunc F a).run Tryz.prog w = .ok (.enter F a) w)
 (d:∀ W S,Below w w W->w.heap.size<=S->Blk W S 88 (aT (dI k))->ψ F #[v,π S 0] W (qT S h W)) :
 ψ 75 #[k,.iface T v] w fun s w'=>s = .returned (bO h)/\Below w w w':=by
 obtain⟨W,b⟩:∃ W,(w.alloc (.cells (aT (dI 0)) 88)).alloc (.cells (aT (dI k)) 88)=W:=⟨_,rfl⟩;have j:Below w w W:=by rw [<- b]; exact ((θ).alloc lQ _).alloc (by simp) _
 have y:Blk W w 88 (aT (dI 0)):=by rw [<- b]; exact Blk.alloc (show Blk _ _ _ _ from n5 w _) _
 have z:Blk W (w.heap.size+1) 88 (aT (dI k)):=by
  rw [<- b];have:=n5 (χ w (aT (dI 0)) 88) (.cells (aT (dI k)) 88);rwa [show (w.alloc (.cells (aT (dI 0)) 88)).heap.size=w.heap.size+1 by simp] at this
 have d:=ω (d W (w.heap.size+1) j (Nat.le_succ _) z);have D:=ω j;have p:=ω y;clear j y z;unfold dI aT bK aV aN at b;have o:=ω b;clear b;unfold bO aT;go_enter Tryz.func75,Tryz.ntmps75
 go_wp2_with fail
 rw [o.z];clear o;refine d.mono ?_;rintro s g ⟨rfl,m,x,u⟩;have c:Blk g w 88 (aT (dI 0)):=(x _ p.lt (by omega)).trans p.z;have r:=ω ((D.trans (u.mono (Nat.le_succ _))));obtain⟨Z,s1,s2,s3,s4,s5,s6,s7,s8,s9,aa,ab,ac,ad⟩:=Blk.c14 (m);obtain⟨J,K,Q,R,r4,r5,U,V,X,Y,L,N,O,P⟩:=Blk.c14 (show Blk g (w.heap.size) _ #[(0:Int),.string ⟨#[]⟩,(0:Int),(0:Int),(0:Int),.string ⟨#[]⟩,.string ⟨#[]⟩,(0:Int),.string ⟨#[]⟩,.string ⟨#[]⟩,.string ⟨#[]⟩,(0:Int),.string ⟨#[]⟩,(0:Int)] from c);obtain⟨z0,z1,z2,z3,z4,z5,z6,z7,z8,z9,ae,af,ag,ah⟩:=Blk.z14 (c);have G:=m.lt;have H:=c.lt;have q:=ω c;clear m x u c d;go_wp2;have l:=nG h q.z;have i:=r.trans (kY g w h);obtain⟨B,e⟩:∃ B,mQ g w h=B:=⟨_,rfl⟩;rw [e] at l i;unfold mQ at e;simp only [e];clear e Z J z0 s1 K z1 s2 Q z2 s3 R z3 s4 r4 z4 s5 r5 z5 s6 U z6 s7 V z7 s8 X z8 s9 Y z9 aa L ae ab N af ac O ag ad P ah G H I E q r;obtain⟨f0,f1,f2,f3,f4,f5,f6,f7,f8,f9,ai,aj,ak,al⟩:=Blk.c14 (l);have C:=ω i;clear l i;refine bodyPost_ret (v:=.agg #[.int .i64 h.kind,.string h.job.name,.int .i64 h.job.prio,.int .i64 h.job.need,.int .i64 h.job.tries,.string h.job.tag,.string h.node.name,.int .i64 h.node.room,.string h.node.zone,.string h.lease.job,.string h.lease.node,.int .i64 h.lease.till,.string h.name,.int .i64 h.n]) (by simp [results,Tryz.results75,go_sem, *]) rfl ?_;exact⟨rfl,C⟩
theorem B4 (q:aL) (P:Nat) (w:World) (a:Blk w P 208 #[q.job.name,q.job.prio,q.job.need,q.job.tries,q.job.tag]):ψ 75 #[q.kind,.iface 206 (π P 0)] w fun e d=>e = .returned (bO ⟨q.kind,q.job,aV,aN,⟨#[]⟩,0⟩)/\Below w w d:=
 oV q.kind _ _ 265 _ w (fun _=>by kernel_rfl) (fun _ _=>by kernel_rfl) (fun W S b _ c=>L4 q P S W (a.below b a.lt) c)
theorem AF (q:aL) (P:Nat) (w:World) (a:Blk w P 211 #[q.node.name,q.node.room,q.node.zone]):ψ 75 #[q.kind,.iface 209 (π P 0)] w fun e d=>e = .returned (bO ⟨q.kind,bK,q.node,aN,⟨#[]⟩,0⟩)/\Below w w d:=
 oV q.kind _ _ 274 _ w (fun _=>by kernel_rfl) (fun _ _=>by kernel_rfl) (fun W S b _ c=>JP q P S W (a.below b a.lt) c)
theorem yY (q:aL) (P:Nat) (w:World) (a:Blk w P 214 #[q.lease.job,q.lease.node,q.lease.till]):ψ 75 #[q.kind,.iface 212 (π P 0)] w fun e d=>e = .returned (bO ⟨q.kind,bK,aV,q.lease,⟨#[]⟩,0⟩)/\Below w w d:=
 oV q.kind _ _ 279 _ w (fun _=>by kernel_rfl) (fun _ _=>by kernel_rfl) (fun W S b _ c=>GG q P S W (a.below b a.lt) c)
theorem AG (q:aL) (P:Nat) (w:World) (a:Blk w P 215 #[q.name]):ψ 75 #[q.kind,.iface 216 (π P 0)] w fun e d=>e = .returned (bO ⟨q.kind,bK,aV,aN,q.name,0⟩)/\Below w w d:=
 oV q.kind _ _ 284 _ w (fun _=>by kernel_rfl) (fun _ _=>by kernel_rfl) (fun W S b _ c=>JQ q P S W (a.below b a.lt) c)
theorem yZ (q:aL) (P:Nat) (w:World) (a:Blk w P 217 #[q.n]):ψ 75 #[q.kind,.iface 218 (π P 0)] w fun e d=>e = .returned (bO ⟨q.kind,bK,aV,aN,⟨#[]⟩,q.n⟩)/\Below w w d:=
 oV q.kind _ _ 288 _ w (fun _=>by kernel_rfl) (fun _ _=>by kernel_rfl) (fun W S b _ c=>GH q P S W (a.below b a.lt) c)
def bH (E:Int) (w:World) (e:Ending) (w':World):Prop:=e = .returned (.int .i64 E)/\Below w w w'
theorem Bp (n:Int) (w:World):ψ 200 #[n] w fun g h=>g = .returned (.bool (ranged n 0 1099511627776))/\Below w w h:=by
 by_cases b:0<=n
 · by_cases c:n<=1099511627776
   · have a:ranged n 0 1099511627776=true:=aM.2 ⟨b,c⟩;have d:decide (0<=n)=true:=t7 b;have e:decide (n<=1099511627776)=true:=t7 c;rw [a];go_enter Tryz.func200,Tryz.ntmps200;go_wp2;go_ret;exact⟨rfl,θ⟩
   · have a:ranged n 0 1099511627776=false:=fT.2 (by omega);have d:decide (0<=n)=true:=t7 b;have e:decide (n<=1099511627776)=false:=fQ c;rw [a];go_enter Tryz.func200,Tryz.ntmps200;go_wp2;go_ret;exact⟨rfl,θ⟩
 · have a:ranged n 0 1099511627776=false:=fT.2 (by omega);have d:decide (0<=n)=false:=fQ b;rw [a];go_enter Tryz.func200,Tryz.ntmps200;go_wp2;go_ret;exact⟨rfl,θ⟩
theorem F7 (j:aC) (P:Nat) (w:World) (b:Blk w P 208 #[j.name,j.prio,j.need,j.tries,j.tag]) (g:j.name.size<=9223372036854775807) (h:j.tag.size<=9223372036854775807) (i:Tabs w):ψ 264 #[π P 0] w (bH (fG j) w):=by
 obtain⟨m,n,o,p,q⟩:=Blk.c5 (b);have l:=b.lt;have a:=ω (show Calls Tryz.prog _ #[.agg #[j.name,j.prio,j.need,j.tries,j.tag]] w _ from wO j w g h i);obtain⟨E,c⟩:∃ E,fG j=E:=⟨_,rfl⟩;rw [c] at a |-;clear b c;go_enter Tryz.func264,Tryz.ntmps264
 go_wp2_with fail
 refine a.mono ?_;rintro k r ⟨rfl,d⟩;have e:=ω d;clear d a;go_wp2;go_ret;exact⟨rfl,e⟩
theorem D9 (j:av) (P:Nat) (w:World) (a:Blk w P 211 #[j.name,j.room,j.zone]) (g:j.name.size<=9223372036854775807) (h:j.zone.size<=9223372036854775807) (i:Tabs w):ψ 273 #[π P 0] w (bH (dE j) w):=by
 have m:ζ w P 0 (.string j.name):=a.cell 0;have n:ζ w P 1 (.int .i64 j.room):=a.cell 1;have o:ζ w P 2 (.string j.zone):=a.cell 2;have l:=a.lt;have b:=ω (show Calls Tryz.prog _ #[.agg #[j.name,j.room,j.zone]] w _ from uL j w g h i);obtain⟨E,c⟩:∃ E,dE j=E:=⟨_,rfl⟩;rw [c] at b |-;clear a c;go_enter Tryz.func273,Tryz.ntmps273
 go_wp2_with fail
 refine b.mono ?_;rintro k p ⟨rfl,d⟩;have e:=ω d;clear d b;go_wp2;go_ret;exact⟨rfl,e⟩
theorem Ea (s:ByteArray) (P:Nat) (w:World) (d:Blk w P 215 #[s]) (k:s.size<=9223372036854775807) (j:Tabs w):ψ 283 #[π P 0] w (bH (if cP s then 0 else 4) w):=by
 have n:ζ w P 0 (.string s):=d.cell 0;have m:=d.lt;have a:=ω (kF s w k j);obtain⟨b,h⟩:∃ b,cP s=b:=⟨_,rfl⟩;rw [h] at a |-;obtain⟨E,c⟩:∃ E:Int,(if b=true then (0:Int) else 4)=E:=⟨_,rfl⟩;rw [c];have g:=ω c;clear d h c;go_enter Tryz.func283,Tryz.ntmps283
 go_wp2_with fail
 refine a.mono ?_;rintro l o ⟨rfl,i⟩;have e:=ω i;clear i a;cases b
 · obtain rfl:(4:Int)=E:=g.z;go_wp2;go_ret;exact⟨rfl,e⟩
 · obtain rfl:(0:Int)=E:=g.z;go_wp2;go_ret;exact⟨rfl,e⟩
theorem C5 (s:Int) (P:Nat) (w:World) (d:Blk w P 217 #[s]):ψ 287 #[π P 0] w (bH (if ranged s 0 1099511627776 then 0 else 1) w):=by
 have l:ζ w P 0 (.int .i64 s):=d.cell 0;have k:=d.lt;have a:=ω (Bp s w);obtain⟨b,h⟩:∃ b,ranged s 0 1099511627776=b:=⟨_,rfl⟩;rw [h] at a |-;obtain⟨E,c⟩:∃ E:Int,(if b=true then (0:Int) else 1)=E:=⟨_,rfl⟩;rw [c];have g:=ω c;clear d h c;go_enter Tryz.func287,Tryz.ntmps287
 go_wp2_with fail
 refine a.mono ?_;rintro j m ⟨rfl,i⟩;have e:=ω i;clear i a;cases b
 · obtain rfl:(1:Int)=E:=g.z;go_wp2;go_ret;exact⟨rfl,e⟩
 · obtain rfl:(0:Int)=E:=g.z;go_wp2;go_ret;exact⟨rfl,e⟩
theorem C4 (l:ak) (P:Nat) (w:World) (j:Blk w P 214 #[l.job,l.node,l.till]) (I:l.job.size<=9223372036854775807) (J:l.node.size<=9223372036854775807) (p:Tabs w):ψ 278 #[π P 0] w (bH (lsE l) w):=by
 have K:ζ w P 0 (.string l.job):=j.cell 0;have e:=j.lt;have x:=ω j;have F:=ω p;have m:=ω (kF l.job w I p);obtain⟨a,ha⟩:∃ a,cP l.job=a:=⟨_,rfl⟩;obtain⟨b,q⟩:∃ b,cP l.node=b:=⟨_,rfl⟩;obtain⟨c,u⟩:∃ c,ranged l.till 0 1099511627776=c:=⟨_,rfl⟩;obtain⟨E,d⟩:∃ E,lsE l=E:=⟨_,rfl⟩;rw [d];unfold lsE at d;rw [ha,q,u] at d;rw [ha] at m;have h:=ω d;have G:=ω q;have H:=ω u;clear j p ha q u d;go_enter Tryz.func278,Tryz.ntmps278
 go_wp2_with fail
 refine m.mono ?_;rintro z C ⟨rfl,r⟩;have g:=ω r;have i:=ω (x.below r x.lt);clear r m K e;cases a
 · obtain rfl:(4:Int)=E:=h.z;go_wp2;go_ret;exact⟨rfl,g⟩
 have L:ζ C P 1 (.string l.node):=i.cell 1;have e:=i.lt;have n:=ω (kF l.node C J (F.below g.z));rw [G.z] at n
 go_wp2_with fail
 refine n.mono ?_;rintro z D ⟨rfl,s⟩;have k:=ω (g.trans (s.mono g.size));have y:=ω (i.below s i.lt);clear s n L e;cases b
 · obtain rfl:(4:Int)=E:=h.z;go_wp2;go_ret;exact⟨rfl,k⟩
 have M:ζ D P 2 (.int .i64 l.till):=y.cell 2;have e:=y.lt;have o:=ω (Bp l.till D);rw [H.z] at o
 go_wp2_with fail
 refine o.mono ?_;rintro z N ⟨rfl,B⟩;have v:=ω (k.trans (B.mono k.size));clear B o M e;cases c
 · obtain rfl:(1:Int)=E:=h.z;go_wp2;go_ret;exact⟨rfl,v⟩
 · obtain rfl:(0:Int)=E:=h.z;go_wp2;go_ret;exact⟨rfl,v⟩
def L6 (B:Nat) (x a:StA):Nat->Value->Prop
 | 0,u=>u = π B 1
 | 1,u=>u = .slice x.aj x.nj x.cj
 | 2,u=>u = .slice a.aj x.nj a.cj
 | 3,u=>u = π B 2
 | 4,u=>u = .slice x.an x.nn x.cn
 | 5,u=>u = .slice a.an x.nn a.cn
 | 6,u=>u = π B 3
 | 7,u=>u = .slice x.al x.nl x.cl
 | 8,u=>u = .slice a.al x.nl a.cl
 | 9,u=>u = π B 1
 | 11,u=>u = π B 2
 | 13,u=>u = π B 3
 | _,_=>True
structure GI (w0:World) (st:ah) (x γ:StA) (c k:Nat) (w:World):Prop where
 below:Below w0 w0 w
 blk:Blk w w0 26 #[st.rev,if 0<k then .slice γ.aj x.nj γ.cj else .slice x.aj x.nj x.cj,if 1<k then .slice γ.an x.nn γ.cn else .slice x.an x.nn x.cn,if 2<k then .slice γ.al x.nl γ.cl else .slice x.al x.nl x.cl]
 res:Blk w (w0.heap.size+1) 26 lI
 j:0<c->w.ownsRow (w0.heap.size+2) 86 5 (.slice γ.aj x.nj γ.cj) x.nj (au aS st.jobs)
 n:1<c->w.ownsRow (w0.heap.size+2) 81 3 (.slice γ.an x.nn γ.cn) x.nn (au aH st.nodes)
 l:2<c->w.ownsRow (w0.heap.size+2) 77 3 (.slice γ.al x.nl γ.cl) x.nl (au aB st.leases)
def PD (w0:World) (st:ah) (x:StA) (p:Nat) (a:StA) (w:World):Prop:=GI w0 st x a p (p - 3) w
theorem Bq {B:Nat} {x b c:StA} (d:Nat) (i:d≠2->c.aj=b.aj/\c.cj=b.cj) (k:d≠5->c.an=b.an/\c.cn=b.cn) (l:d≠8->c.al=b.al/\c.cl=b.cl):∀ j v,j≠d->L6 B x b j v->L6 B x c j v:=by
 intro j v a h
 match j,a,h with
 | 0,_,h=>exact h
 | 1,_,h=>exact h
 | 2,a,h=>obtain⟨f,g⟩:=i (fun e=>a e.symm); exact (show v=_ by rw [f,g]; exact h)
 | 3,_,h=>exact h
 | 4,_,h=>exact h
 | 5,a,h=>obtain⟨f,g⟩:=k (fun e=>a e.symm); exact (show v=_ by rw [f,g]; exact h)
 | 6,_,h=>exact h
 | 7,_,h=>exact h
 | 8,a,h=>obtain⟨f,g⟩:=l (fun e=>a e.symm); exact (show v=_ by rw [f,g]; exact h)
 | 9,_,h=>exact h
 | 10,_,_=>trivial
 | 11,_,h=>exact h
 | 12,_,_=>trivial
 | 13,_,h=>exact h
 | _+14,_,_=>trivial
def E7 (st:ah) (x:StA) (w:World) (e:Ending) (w':World):Prop:=
 ∃ a:StA,e = .returned (.agg (stC st a))/\a.nj=x.nj/\a.nn=x.nn/\a.nl=x.nl/\StOwn w' (w.heap.size+2) st a/\Below w w w'
theorem AR (st:ah) (x:StA) (w:World) (N:StAt w w st x) (q:x.nj<=1000) (W:x.nn<=1000) (X:x.nl<=1000) :
 ψ 34 #[.agg (stC st x)] w (E7 st x w):=by
 have I:Below w w (χ w (stC st x) 26):=(θ).alloc lQ _;have O:=I.alloc I.size (.cells lI 26)
 have K:GI w st x x 0 0 (((w.alloc (.cells (stC st x) 26)).alloc (.cells lI 26))).drew:=
  { below:=O.drew
    blk:=Blk.alloc (show Blk _ _ _ _ from n5 w _) _
    res:=by
     have h:=n5 (χ w (stC st x) 26) (.cells lI 26);rw [show (w.alloc (.cells (stC st x) 26)).heap.size=w.heap.size+1 by simp] at h;exact h
    j:=fun h=>absurd h (by omega)
    n:=fun h=>absurd h (by omega)
    l:=fun h=>absurd h (by omega) }
 have p:=ω N;clear I O N;go_enter Tryz.func34,Tryz.ntmps34;unfold stC at *
 go_wp2_with fail
 refine kV (n:=16) (by kernel_rfl) (L6 w x) [2,5,8,10,12,14] (PD w st x) x (by decide +kernel) (by decide +kernel) rfl K ?_ ?_
 · refine⟨?_,?_,?_,?_,?_,?_,?_,?_,?_,?_,?_,?_,?_,?_,?_,trivial⟩
   · refine⟨rfl,.inr ⟨by decide,0,6,by decide +kernel,by decide +kernel,fun z b m c _ y a e=>?_⟩⟩;have q:=e.k 1 rfl;simp [go_sem,Oper.wp,execOp,Act.eval,q];exact⟨_,rfl,rfl,a⟩
   · refine⟨rfl,.inr ⟨by decide,0,0,by decide +kernel,by decide +kernel,fun z b m c _ y a e=>?_⟩⟩;obtain⟨u1,i,d⟩:=e.g 0 3 rfl rfl;replace d:u1=_:=d;subst d
     have r:ζ c w 1 (.slice x.aj x.nj x.cj):=by
      have h:=a.blk.cell 1;simp only [List.getElem?_toArray,List.getElem?_cons_succ,List.getElem?_cons_zero] at h;rw [h,if_neg (by omega)]
     simp [go_sem,Oper.wp,execOp,Act.eval,i,r];exact⟨_,rfl,rfl,a⟩
   · refine⟨rfl,.inl ⟨0,rfl,fun b m c a e=>?_⟩⟩;obtain⟨u1,i,d⟩:=e.g 1 4 rfl rfl;replace d:u1=_:=d;subst d;simp [go_sem,Oper.wp,execOp,Act.eval,i];refine (sM.1 st.jobs x.aj x.nj x.cj c (p.j.below a.below |>.more a.below.size) p.lj (by omega)).mono ?_;rintro L P ⟨B,C,rfl,u,o⟩;rw [p.z.lj] at u |-;exact⟨_,rfl,{ b with aj:=B,cj:=C },Bq 2 (fun h=>absurd rfl h) (fun _=>⟨rfl,rfl⟩) (fun _=>⟨rfl,rfl⟩),rfl,{ below:=a.below.trans (o.mono a.below.size),blk:=Blk.eq (a.blk.below o a.blk.lt) (by simp),res:=a.res.below o a.res.lt,j:=fun _=>cY u (by have:=a.res.lt; omega),n:=fun h=>absurd h (by omega),l:=fun h=>absurd h (by omega) }⟩
   · refine⟨rfl,.inr ⟨by decide,0,6,by decide +kernel,by decide +kernel,fun z b m c _ y a e=>?_⟩⟩;have q:=e.k 1 rfl;simp [go_sem,Oper.wp,execOp,Act.eval,q];exact⟨_,rfl,rfl,a⟩
   · refine⟨rfl,.inr ⟨by decide,0,1,by decide +kernel,by decide +kernel,fun z b m c _ y a e=>?_⟩⟩;obtain⟨u1,i,d⟩:=e.g 3 6 rfl rfl;replace d:u1=_:=d;subst d
     have r:ζ c w 2 (.slice x.an x.nn x.cn):=by
      have h:=a.blk.cell 2;simp only [List.getElem?_toArray,List.getElem?_cons_succ,List.getElem?_cons_zero] at h;rw [h,if_neg (by omega)]
     simp [go_sem,Oper.wp,execOp,Act.eval,i,r];exact⟨_,rfl,rfl,a⟩
   · refine⟨rfl,.inl ⟨1,rfl,fun b m c a e=>?_⟩⟩;obtain⟨u1,i,d⟩:=e.g 4 7 rfl rfl;replace d:u1=_:=d;subst d;simp [go_sem,Oper.wp,execOp,Act.eval,i];refine (sM.2.1 st.nodes x.an x.nn x.cn c (p.n.below a.below |>.more a.below.size) p.ln (by omega)).mono ?_;rintro L P ⟨B,C,rfl,u,o⟩;rw [p.z.ln] at u |-;exact⟨_,rfl,{ b with an:=B,cn:=C },Bq 5 (fun _=>⟨rfl,rfl⟩) (fun h=>absurd rfl h) (fun _=>⟨rfl,rfl⟩),rfl,{ below:=a.below.trans (o.mono a.below.size),blk:=Blk.eq (a.blk.below o a.blk.lt) (by simp),res:=a.res.below o a.res.lt,j:=fun _=>aF (a.j (by omega)) o,n:=fun _=>cY u (by have:=a.res.lt; omega),l:=fun h=>absurd h (by omega) }⟩
   · refine⟨rfl,.inr ⟨by decide,0,6,by decide +kernel,by decide +kernel,fun z b m c _ y a e=>?_⟩⟩;have q:=e.k 1 rfl;simp [go_sem,Oper.wp,execOp,Act.eval,q];exact⟨_,rfl,rfl,a⟩
   · refine⟨rfl,.inr ⟨by decide,0,2,by decide +kernel,by decide +kernel,fun z b m c _ y a e=>?_⟩⟩;obtain⟨u1,i,d⟩:=e.g 6 9 rfl rfl;replace d:u1=_:=d;subst d
     have r:ζ c w 3 (.slice x.al x.nl x.cl):=by
      have h:=a.blk.cell 3;simp only [List.getElem?_toArray,List.getElem?_cons_succ,List.getElem?_cons_zero] at h;rw [h,if_neg (by omega)]
     simp [go_sem,Oper.wp,execOp,Act.eval,i,r];exact⟨_,rfl,rfl,a⟩
   · refine⟨rfl,.inl ⟨2,rfl,fun b m c a e=>?_⟩⟩;obtain⟨u1,i,d⟩:=e.g 7 10 rfl rfl;replace d:u1=_:=d;subst d;simp [go_sem,Oper.wp,execOp,Act.eval,i];refine (sM.2.2 st.leases x.al x.nl x.cl c (p.l.below a.below |>.more a.below.size) p.ll (by omega)).mono ?_;rintro L P ⟨B,C,rfl,u,o⟩;rw [p.z.ll] at u |-;exact⟨_,rfl,{ b with al:=B,cl:=C },Bq 8 (fun _=>⟨rfl,rfl⟩) (fun _=>⟨rfl,rfl⟩) (fun h=>absurd rfl h),rfl,{ below:=a.below.trans (o.mono a.below.size),blk:=Blk.eq (a.blk.below o a.blk.lt) (by simp),res:=a.res.below o a.res.lt,j:=fun _=>aF (a.j (by omega)) o,n:=fun _=>aF (a.n (by omega)) o,l:=fun _=>cY u (by have:=a.res.lt; omega) }⟩
   · refine⟨rfl,.inr ⟨by decide,0,6,by decide +kernel,by decide +kernel,fun z b m c _ y a e=>?_⟩⟩;have q:=e.k 1 rfl;simp [go_sem,Oper.wp,execOp,Act.eval,q];exact⟨_,rfl,rfl,a⟩
   · refine⟨rfl,.inl ⟨3,rfl,fun b m c a e=>?_⟩⟩;obtain⟨u1,i,d⟩:=e.g 9 12 rfl rfl;replace d:u1=_:=d;subst d;obtain⟨u2,F,s⟩:=e.g 2 5 rfl rfl;replace s:u2=_:=s;subst s
     have r:ζ c w 1 (.slice x.aj x.nj x.cj):=by
      have h:=a.blk.cell 1;simp only [List.getElem?_toArray,List.getElem?_cons_succ,List.getElem?_cons_zero] at h;rw [h,if_neg (by omega)]
     have G:κ c w 1:=a.blk.thaw 1;simp [go_sem,Oper.wp,execOp,Act.eval,i,F,r,G];exact⟨.int .i64 0,b,fun _ _ _ h=>h,trivial,{ below:=cR a.below (aQ c w 1 _) lQ,blk:=Blk.eq (a.blk.set 1 _) rfl,res:=ay (aQ c w 1 _) a.res (by omega),j:=fun _=>bZ (a.j (by omega)) (aQ c w 1 _) (by omega),n:=fun _=>bZ (a.n (by omega)) (aQ c w 1 _) (by omega),l:=fun _=>bZ (a.l (by omega)) (aQ c w 1 _) (by omega) }⟩
   · refine⟨rfl,.inr ⟨by decide,0,6,by decide +kernel,by decide +kernel,fun z b m c _ y a e=>?_⟩⟩;have q:=e.k 1 rfl;simp [go_sem,Oper.wp,execOp,Act.eval,q];exact⟨_,rfl,rfl,a⟩
   · refine⟨rfl,.inl ⟨4,rfl,fun b m c a e=>?_⟩⟩;obtain⟨u1,i,d⟩:=e.g 11 13 rfl rfl;replace d:u1=_:=d;subst d;obtain⟨u2,F,s⟩:=e.g 5 8 rfl rfl;replace s:u2=_:=s;subst s
     have r:ζ c w 2 (.slice x.an x.nn x.cn):=by
      have h:=a.blk.cell 2;simp only [List.getElem?_toArray,List.getElem?_cons_succ,List.getElem?_cons_zero] at h;rw [h,if_neg (by omega)]
     have G:κ c w 2:=a.blk.thaw 2;simp [go_sem,Oper.wp,execOp,Act.eval,i,F,r,G];exact⟨.int .i64 0,b,fun _ _ _ h=>h,trivial,{ below:=cR a.below (aQ c w 2 _) lQ,blk:=Blk.eq (a.blk.set 2 _) rfl,res:=ay (aQ c w 2 _) a.res (by omega),j:=fun _=>bZ (a.j (by omega)) (aQ c w 2 _) (by omega),n:=fun _=>bZ (a.n (by omega)) (aQ c w 2 _) (by omega),l:=fun _=>bZ (a.l (by omega)) (aQ c w 2 _) (by omega) }⟩
   · refine⟨rfl,.inr ⟨by decide,0,6,by decide +kernel,by decide +kernel,fun z b m c _ y a e=>?_⟩⟩;have q:=e.k 1 rfl;simp [go_sem,Oper.wp,execOp,Act.eval,q];exact⟨_,rfl,rfl,a⟩
   · refine⟨rfl,.inl ⟨5,rfl,fun b m c a e=>?_⟩⟩;obtain⟨u1,i,d⟩:=e.g 13 14 rfl rfl;replace d:u1=_:=d;subst d;obtain⟨u2,F,s⟩:=e.g 8 11 rfl rfl;replace s:u2=_:=s;subst s
     have r:ζ c w 3 (.slice x.al x.nl x.cl):=by
      have h:=a.blk.cell 3;simp only [List.getElem?_toArray,List.getElem?_cons_succ,List.getElem?_cons_zero] at h;rw [h,if_neg (by omega)]
     have G:κ c w 3:=a.blk.thaw 3;simp [go_sem,Oper.wp,execOp,Act.eval,i,F,r,G];exact⟨.int .i64 0,b,fun _ _ _ h=>h,trivial,{ below:=cR a.below (aQ c w 3 _) lQ,blk:=Blk.eq (a.blk.set 3 _) rfl,res:=ay (aQ c w 3 _) a.res (by omega),j:=fun _=>bZ (a.j (by omega)) (aQ c w 3 _) (by omega),n:=fun _=>bZ (a.n (by omega)) (aQ c w 3 _) (by omega),l:=fun _=>bZ (a.l (by omega)) (aQ c w 3 _) (by omega) }⟩
 · intro b m c J;have a:GI w st x b 6 3 c:=J.ph;obtain⟨V,rfl,-⟩:=J.frame [3,4,5,6,7,8,9,10,11,12,13,14] rfl;have H:Blk c w 26 #[st.rev,.slice b.aj x.nj b.cj,.slice b.an x.nn b.cn,.slice b.al x.nl b.cl]:=a.blk;have E:=a.res;have Y:=H.lt;have Z:=E.lt;obtain⟨R,S,T,U⟩:=Blk.c4 (H);obtain⟨u0,u1,u2,u3⟩:=Blk.z4 (E);obtain⟨s0,s1,s2,s3⟩:=Blk.c4 (E);obtain⟨M,D⟩:=Blk.S4 (E) (.int .i64 st.rev) (.slice b.aj x.nj b.cj) (.slice b.an x.nn b.cn) (.slice b.al x.nl b.cl);obtain⟨q0,q1,q2,q3⟩:=Blk.c4 M;have Q:=ω (show E7 st x w (.returned (.agg (stC st ⟨b.aj,x.nj,b.cj,b.an,x.nn,b.cn,b.al,x.nl,b.cl⟩))) _ from ⟨⟨b.aj,x.nj,b.cj,b.an,x.nn,b.cn,b.al,x.nl,b.cl⟩,rfl,rfl,rfl,rfl,⟨bZ (a.j (by omega)) D (by omega),bZ (a.n (by omega)) D (by omega),bZ (a.l (by omega)) D (by omega),p.lj,p.ln,p.ll⟩,cR a.below D (by omega)⟩);clear J a H E M D K;simp [Exit.then];go_wp2;refine bodyPost_ret (v:=.agg #[.int .i64 st.rev,.slice b.aj x.nj b.cj,.slice b.an x.nn b.cn,.slice b.al x.nl b.cl]) (by simp [results,Tryz.results34,go_sem, *]) rfl ?_;exact Q
def L7:Value:=.agg #[(0:Int),(0:Int),.string ⟨#[]⟩]
theorem Cv:(Tryz.prog.info? 69).map (fun i=>(i.zero,i.size,i.bytes))=some (some L7,3,32):=by kernel_rfl
theorem E8 (f:cL):∀ u ∈ zx f,u.oneCell'=true:=by
 intro u a;simp only [zx,List.mem_cons,List.not_mem_nil,or_false] at a;rcases a with rfl | rfl | rfl <;> rfl
theorem nH {w w':World} {base:Nat} {e:TypeId} {sz n:Nat} {v:Value} {xs:List Value} (h:w.ownsRow base e sz v n xs) (a:Below w w w'):w'.ownsRow base e sz v n xs:=
 h.kept (row:=none) ⟨a.os,a.tape,a.output,a.size,fun k b _=>a.block k b⟩ (by
  by_cases h:v.ownBlock=none
  · exact .inl h
  · exact .inr h)
theorem Ix {s:ByteArray} {f:cL} {n e:Nat} (h:jF s=(f,n,e)) (w:World) (b:s.size<=9223372036854775807) :
 ψ 44 #[s] w fun x c=>x = .returned (.tuple #[.agg #[f.ver,f.kind,f.pay],(n:Int),(e:Int)])/\Below w w c:=by
 have a:=LV s w b;unfold eK MH at a;rw [h] at a;exact a
theorem L8 {s:ByteArray} {f:cL} {n e:Nat} (h:jF s=(f,n,e)) (w:World) (b:s.size<=9223372036854775807) :
 ψ 35 #[s] w fun x c=>x = .returned (.tuple #[.agg #[f.ver,f.kind,f.pay],(n:Int),(e:Int)])/\Below w w c:=by
 have a:=MK s w b;unfold eK MH at a;rw [h] at a;exact a
def PE (a:List cL) (m e:Nat) (w:World) (x:Ending) (w':World):Prop:=
 ∃ A n c,x = .returned (.tuple #[.slice A n c,(m:Int),(e:Int)])/\a.length=n/\w'.ownsRow w 69 3 (.slice A n c) n (au zx a)/\Below w w w'
def FInv (s:ByteArray) (d:List cL) (m e:Nat) (w:World) (out at_:Value) (wr:World):Prop:=
 ∃ (done left:List cL) (A:Option Addr) (n c a b:Nat),d=done ++ left/\m=a+b/\out = .slice A n c/\at_ = .int .i64 (a:Int)/\n<=a/\a<=s.size/\Frs (s.extract a s.size) left b e/\wr.ownsRow w 69 3 (.slice A n c) n (au zx done)/\Below w w wr
theorem EY {s:ByteArray} {h:List cL} {m e:Nat} (D:Frs s h m e) (w:World) (Z:s.size<=2097152) :
 ψ 26 #[s] w (PE h m e w):=by
 have Q:=ω D;clear D;go_enter Tryz.func26,Tryz.ntmps26;go_wp2
 go_loopw [2,3,4,5,6,7,8,9,10] (fun _ _ _ out at_ _ _ _ _ wr=>FInv s h m e w out at_ wr) (fun _ _ _ _ at_ _ _ _ _ _=>s.size - (intOf at_).toNat)
 case atStart=>exact⟨[],h,none,0,0,0,m,rfl,by omega,rfl,rfl,lQ,Nat.zero_le _,by rw [show s.extract 0 s.size=s from by simp]; exact Q.z,World.ownsRow_nil _ _ _ _,θ⟩
 case round=>
  obtain⟨done,left,A,u,C,a,m',p,i,rfl,rfl,Y,ha,o,j,c⟩:=hrel
  have G:∀ W:World,(Instr.slice 9 (.string s) (some (.int .i64 (a:Int))) none none).run Tryz.prog W = .ok (.string (s.extract a s.size)) W:=fun W=>by
   rw [run_slice_string_from_if (P:=Tryz.prog) (w:=W) 9 s .i64 (a:Int) Tryz.underlying9,if_pos ⟨by omega,by omega⟩,show ((a:Int)).toNat=a from by omega]
  have F:=ω (show (s.extract a s.size).size<=9223372036854775807 from by rw [ByteArray.size_extract]; omega)
  cases o with
  | stop d M=>
   have d:=ω d;have V:((e:Int) != 0)=true:=by simp; omega
   have l:=ω (show h=done from by rw [p]; simp);have i:=ω (show m=a from i);clear p M
   go_wp2_with fail
   refine Calls.mono (Ix d.z _ F.z) ?_;rintro U T ⟨rfl,b⟩;have q:=ω ((nH j b).alloc (.cells #[(0:Int),(0:Int),.string ⟨#[]⟩] 69));have n:=ω ((c.trans (b.mono c.size)).alloc (v6 c.size b.size) (.cells #[(0:Int),(0:Int),.string ⟨#[]⟩] 69));have R:=ω (show done.length=u from by have:=j.1; rw [jC qJ] at this; omega);clear j c b G;go_wp2;refine bodyPost_ret (v:=.tuple #[.slice A u C,.int .i64 (a:Int),.int .i64 (e:Int)]) (by simp [results,Tryz.results26,go_sem]) rfl ?_;exact⟨A,u,C,by rw [i.z],by rw [l.z]; exact R.z,by rw [l.z]; exact q.z,n⟩
  | @step _ f k z B _ d X K o=>
   have d:=ω d;rw [ByteArray.size_extract] at K
   have L:=ω (show Frs (s.extract (a+k) s.size) z B e from by
    have J:(s.extract a s.size).extract k (s.extract a s.size).size=s.extract (a+k) s.size:=by
     rw [ByteArray.extract_extract,ByteArray.size_extract]
     congr 1
     omega
    rw [<- J]; exact o)
   have l:=ω (show h=(done ++ [f]) ++ z from by rw [p]; simp);have i:=ω (show m=(a+k)+B from by omega);clear p o;obtain⟨y,r,x⟩:=f
   go_wp2_with fail
   refine Calls.mono (Ix d.z _ F.z) ?_;rintro U T ⟨rfl,b⟩;dsimp only;have q:=(nH j b).alloc (.cells #[(y:Int),(r:Int),x] 69);have n:=ω ((c.trans (b.mono c.size)).alloc (v6 c.size b.size) (.cells #[(y:Int),(r:Int),x] 69));have E:=n.size;have hlt:=q.lt;have I:=ω hlt;clear j c b G hlt
   go_wp2_with (at_builtin; refine cI zx rfl _ _ 65 69 L7 3 32 rfl Tryz.underlying65 Cv rfl (by decide) qJ E8 w _ _ _ done rfl q _ ⟨y,r,x⟩ rfl _ (by simp) rfl (by omega) (by unfold maxLen; omega) E ?_; intro H c2 w2 S O)
   go_roundw
   case rel=>exact⟨done ++ [⟨y,r,x⟩],z,H,u+1,c2,a+k,B,l.z,i.z,rfl,by go_num,by omega,by omega,L,S,n.trans (O.below E (fun g N=>(I.z g N).1))⟩
   case measure=>simp [intOf]; omega
def lS (w:World) (g:Nat) (a:ByteArray) (at_:Int) (stuck:Int):Prop:=Blk w g 105 #[a,at_,stuck]
def Qj (s:ByteArray) (g d:Nat) (f:List cL) (m e:Nat) (w:World) (out:Value) (wr:World) (k:Nat):Prop:=
 ∃ (done left:List cL) (A:Option Addr) (n c a b:Nat),f=done ++ left/\m=a+b/\out = .slice A n c/\n<=a/\a<=s.size/\k=s.size - a/\Frs (s.extract a s.size) left b e/\wr.ownsRow w 69 3 (.slice A n c) n (au zx done)/\w.grownBy wr (some g)/\lS wr g (s.extract a s.size) ((d:Int)+(a:Int)) 0
def ND (s:ByteArray) (g b:Nat) (a:List cL) (m e:Nat) (w:World) (x:Ending) (w':World):Prop:=
 ∃ A n c,x = .returned (.tuple #[.slice A n c,.int .i64 (if e=3 then 0 else (e:Int))])/\a.length=n/\w'.ownsRow w 69 3 (.slice A n c) n (au zx a)/\w.grownBy w' (some g) /\
  lS w' g (if e=3 then s.extract m s.size else ⟨#[]⟩) ((b:Int)+(m:Int)) (if e=3 then 0 else (e:Int))
theorem K8 {D p s:ByteArray} {g o:Nat} {r:List cL} {m e:Nat} (w:World) (hs:D ++ p=s) (u:Frs s r m e) (c:lS w g D o 0) (aq:s.size<=2097152) (am:o<=2097152) :
 ψ 16 #[π g 0,p] w (ND s g o r m e w):=by
 have hh:=ω u;have hlt:=c.lt;have x0:ζ w g 0 (.string D):=Blk.cell c 0;have x2:ζ w g 2 (.int .i64 0):=Blk.cell c 2;have U:=Blk.thaw c 0;have X:=ω (show lS (sQ w g 0 (.string s)) g s (o:Int) 0 from Blk.eq (Blk.set c 0 _) (by simp))
 have aj:¬ 9223372036854775807<D.size+p.size:=by
  have:=congrArg ByteArray.size hs;rw [ByteArray.size_append] at this; omega
 have ak:D.size+p.size<=9223372036854775807:=by omega
 clear u c;go_enter Tryz.func16,Tryz.ntmps16;go_wp2
 go_loopg [4,5,6,7,8,9,27] s.size (fun k _ _ out _ _ _ _ wr=>Qj s g o r m e w out wr k)
 case atStart=>exact⟨[],r,none,0,0,0,m,rfl,by omega,rfl,lQ,Nat.zero_le _,rfl,by rw [show s.extract 0 s.size=s from by simp]; exact hh.z,World.ownsRow_nil _ _ _ _,aK (World.grownBy.refl w _) _ _,by rw [show s.extract 0 s.size=s from by simp]; exact Blk.eq X.z (by simp)⟩
 case round=>
  obtain⟨done,left,A,y,E,b,m',I,x,rfl,ap,ha,rfl,c,n,C,G⟩:=hrel;have N:ζ wr g 0 (.string (s.extract b s.size)):=Blk.cell G 0;have ac:=ω (show (s.extract b s.size).size<=9223372036854775807 from by rw [ByteArray.size_extract]; omega);have l:=G.lt;have h:=ω G;clear x0 x2 U X aj ak hs G
  cases c with
  | stop j he=>
   have j:=ω j;have e1:((e:Int) == 0)=false:=by simp; omega
   have q:=ω (show r=done from by rw [I]; simp);have x:=ω (show m=b from x);clear I
   go_wp2_with fail
   refine Calls.mono (L8 j.z _ ac.z) ?_;rintro al z ⟨rfl,a⟩;have J:=ω ((nH n a).alloc (.cells #[(0:Int),(0:Int),.string ⟨#[]⟩] 69));have i:=a.alloc a.size (.cells #[(0:Int),(0:Int),.string ⟨#[]⟩] 69);have H:=ω (iW C i);have Y:=h.below i l;have z0:ζ z g 0 (.string (s.extract b s.size)):=Blk.cell (Blk.below h.z a l) 0;have z2:ζ z g 2 (.int .i64 0):=Blk.cell (Blk.below h.z a l) 2;have U:=Blk.thaw (Blk.below h.z a l) 0;have t2:=Blk.thaw (Blk.below h.z a l) 2;have ao:g<z.heap.size:=by have:=a.size; omega
   have O:=ω Y;have aa:=ω (show done.length=y from by have:=n.1; rw [jC qJ] at this; omega);have ai:=ω ((nH n a).kept (row:=some g) (aK (aK (World.grownBy.refl z _) 0 (.string ⟨#[]⟩)) 2 (.int .i64 (e:Int))) (.inr (fun u=>by have:=((nH n a).lt g u).1; omega)));have ag:=ω (aK (aK (iW C a) 0 (.string ⟨#[]⟩)) 2 (.int .i64 (e:Int)));have ae:=ω (show lS (sQ (sQ z g 0 (.string ⟨#[]⟩)) g 2 (.int .i64 (e:Int))) g ⟨#[]⟩ ((o:Int)+(b:Int)) (e:Int) from Blk.eq ((Blk.set (Blk.below h.z a l) 0 _).set 2 _) (by simp));clear n a i C Y N;by_cases F:e=3
   · subst F;clear e1 he;go_wp2;refine bodyPost_ret (v:=.tuple #[.slice A y E,.int .i64 0]) (by simp [results,Tryz.results16,go_sem]) rfl ?_;exact⟨A,y,E,rfl,by rw [q.z]; exact aa.z,by rw [q.z]; exact J.z,H,by rw [x.z]; exact O.z⟩
   · have e2:((e:Int) == 3)=false:=by simp; omega
     go_wp2;refine bodyPost_ret (v:=.tuple #[.slice A y E,.int .i64 (e:Int)]) (by simp [results,Tryz.results16,go_sem]) rfl ?_;exact⟨A,y,E,by rw [if_neg F],by rw [q.z]; exact aa.z,by rw [q.z]; exact ai.alloc _,iW ag.z ((θ).alloc lQ _),by rw [x.z,if_neg F,if_neg F]; exact ae.alloc _⟩
  | @step _ f d R T _ j h1 h2 c=>
   have j:=ω j;have ad:=h2;rw [ByteArray.size_extract] at ad
   have Q:(s.extract b s.size).extract d (s.extract b s.size).size=s.extract (b+d) s.size:=by
    rw [ByteArray.extract_extract,ByteArray.size_extract]
    congr 1
    omega
   have af:=ω (show Frs (s.extract (b+d) s.size) R T e from by rw [<- Q]; exact c)
   have q1:∀ W:World,(Instr.slice 9 (.string (s.extract b s.size)) (some (.int .i64 (d:Int))) none none).run Tryz.prog W = .ok (.string (s.extract (b+d) s.size)) W:=fun W=>by
    rw [run_slice_string_from_if (P:=Tryz.prog) (w:=W) 9 (s.extract b s.size) .i64 (d:Int) Tryz.underlying9,if_pos ⟨by omega,by omega⟩,show ((d:Int)).toNat=d from by omega,Q]
   have q:=ω (show r=(done ++ [f]) ++ R from by rw [I]; simp);have x:=ω (show m=(b+d)+T from by omega);clear I c Q;obtain⟨M,K,L⟩:=f
   go_wp2_with fail
   refine Calls.mono (L8 j.z _ ac.z) ?_;rintro al z ⟨rfl,a⟩;dsimp only;have J:=(nH n a).alloc (.cells #[(M:Int),(K:Int),L] 69);have i:=a.alloc a.size (.cells #[(M:Int),(K:Int),L] 69);have H:=ω (iW C i);have ah:=H.size;have O:=ω (h.below i l);have V:=ω J.lt;clear n a i C N
   go_wp2_with (at_builtin; refine cI zx rfl _ _ 65 69 L7 3 32 rfl Tryz.underlying65 Cv rfl (by decide) qJ E8 w _ _ _ done rfl J _ ⟨M,K,L⟩ rfl _ (by simp) rfl (by omega) (by unfold maxLen; omega) ah ?_; intro A2 c2 w2 ab Z; have B:=ω (O.grew Z (fun k S=>by have:=(V.z k S).1; omega)); have N:=Blk.cell B.z 0; have y1:=Blk.cell B.z 1; have U:=Blk.thaw B.z 0; have t1:=Blk.thaw B.z 1; dsimp at N y1)
   go_roundg (s.size - (b+d))
   case rel=>exact⟨done ++ [⟨M,K,L⟩],R,A2,y+1,c2,b+d,T,q.z,x.z,rfl,by omega,by omega,rfl,af,ab.kept (row:=some g) (aK (aK (World.grownBy.refl w2 _) 0 _) 1 _) (.inr (fun u=>by have:=(ab.lt g u).1; omega)),aK (aK (L9 H.z Z (fun k S=>(V.z k S).1)) _ _) _ _,Blk.eq ((B.set 0 _).set 1 _) (by simp; omega)⟩
   case measure=>omega
end Go.Proofs.YtimglglgcgpjgabGreatDoor
