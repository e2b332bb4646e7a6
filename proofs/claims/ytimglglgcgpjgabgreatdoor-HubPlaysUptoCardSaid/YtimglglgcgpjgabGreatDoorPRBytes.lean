/- Of the proof of a statement: WJob, RBytes. -/
import Derived.Lib.QuietBelow
import Derived.Test.YtimglglgcgpjgabGreatDoorPRdRow
set_option linter.unusedVariables false
set_option linter.unusedSimpArgs false
set_option maxRecDepth 100000
set_option maxHeartbeats 8000000
namespace Go.Proofs.YtimglglgcgpjgabGreatDoor
open Go.RowKit
def dU (s:ByteArray):List UInt8:=(vD s).1.data.toList
theorem dw (s:ByteArray):(dU s).length<=17:=by
 have a:(vD s).1.size<=17:=by
  unfold vD
  split
  · show (0:Nat)<=17; omega
  · split
    · rw [ByteArray.size_append]; show 1+s.size<=17; omega
    · show (0:Nat)<=17; omega
 unfold dU;rw [Array.length_toList];exact a
theorem bT (n:Nat):(bf n).length<=17:=by have:=dR n; omega
theorem Tabs.base {w w':World} {B:Nat} (h:Tabs w) (e:ren.g 3<B) (b:ren.g 4<B) (a:Below B w w'):Tabs w':=
 ⟨fun d f=>(a.cell e).trans (h.1 d f),fun i c=>⟨(a.cell b).trans (h.2 i c).1,(a.cell b).trans (h.2 i c).2⟩⟩
structure gA (w:World) (base g:Nat) (l:List UInt8):Prop where
 at_:tC w base g l
 tabs:Tabs w
 g3:ren.g 3<base
 g4:ren.g 4<base
 size:base<=w.heap.size
theorem gA.next {w w':World} {base g:Nat} {l b:List UInt8} (h:gA w base g l) (ha:tC w' base g b) (a:dF base g w w'):gA w' base g b:=
 ⟨ha,h.tabs.base h.g3 h.g4 (a.below ha.1 h.size),h.g3,h.g4,v6 h.size a.size⟩
theorem gA.below {w w':World} {base g:Nat} {l:List UInt8} (h:gA w base g l) (a:Below w w w'):gA w' base g l:=
 h.next (h.at_.below a) (dF.of_below a)
def iJ (base g:Nat) (l:List UInt8) (w:World) (e:Ending) (w':World):Prop:=e = .returned (.tuple #[])/\gA w' base g l/\dF base g w w'
theorem qx (base g:Nat) (l:List UInt8) (s:ByteArray) (w:World) (d:s.size<=9223372036854775807) (h:gA w base g l) (c:l.length<=100000000) :
 ψ 172 #[π g 0,s] w (iJ base g (l ++ dU s) w):=by
 refine Calls.mono (JF base g l s w d h.tabs h.at_ c h.size) ?_;rintro e i ⟨b,ha,a⟩;exact⟨b,h.next ha a,a⟩
theorem p8 (base g:Nat) (l:List UInt8) (n:Int) (w:World) (b:0<=n/\n<=9223372036854775807) (h:gA w base g l) (d:l.length<=100000000) :
 ψ 159 #[π g 0,n] w (iJ base g (l ++ bf n.toNat) w):=by
 refine Calls.mono (AY base g l n w b.1 b.2 h.at_ d) ?_;rintro e i ⟨c,ha,a⟩;exact⟨c,h.next ha a,a⟩
theorem AZ (base g:Nat) (l:List UInt8) (n:Int) (w:World) (b : -9223372036854775808<=n/\n<=9223372036854775807) (h:gA w base g l) (d:l.length<=100000000) :
 ψ 211 #[π g 0,n] w (iJ base g (l ++ bf (mU n).toNat) w):=by
 refine Calls.mono (EQ base g l n w b.1 b.2 h.at_ d h.size) ?_;rintro e i ⟨c,ha,a⟩;exact⟨c,h.next ha a,a⟩
structure WGo (w0 w:World) (base g:Nat) (l:List UInt8) (n:Nat) (t:TypeId) (cs:Array Value) (N:Nat):Prop where
 ok:gA w base g l
 keep:dF base g w0 w
 blk:Blk w n t cs
 ht:t ≠ 5
 ne:n≠g
 len:l.length<=N
theorem WGo.next {w0 w w':World} {base g n N:Nat} {l k:List UInt8} {t:TypeId} {cs:Array Value} (h:WGo w0 w base g l n t cs N) (ha:gA w' base g (l ++ k)) (a:dF base g w w') (b:k.length<=17):WGo w0 w' base g (l ++ k) n t cs (N+17):=
 ⟨ha,h.keep.trans a,a.blk h.blk h.ht h.ne,h.ht,h.ne,by have:=h.len; rw [List.length_append]; omega⟩
theorem WGo.start {w:World} {base g:Nat} {l:List UInt8} (h:gA w base g l) (t:TypeId) (cs:Array Value) (b:t ≠ 5):WGo w (χ w cs t) base g l w t cs l.length:=
 have a:Below w w (χ w cs t):=(θ).alloc lQ _
 ⟨h.below a,dF.of_below a,by show (w.heap.push (.cells cs t))[w.heap.size]? = _; simp,b,Nat.ne_of_gt h.at_.lt,lQ⟩
def eP (j:aC) (v:Int):List UInt8:=dU j.name ++ bf (mU j.prio).toNat ++ bf j.need.toNat ++ (if 1<v then bf j.tries.toNat else []) ++ (if 2<v then dU j.tag else [])
def cW (n:av) (v:Int):List UInt8:=dU n.name ++ bf n.room.toNat ++ (if 1<v then dU n.zone else [])
def eH (l:ak):List UInt8:=dU l.job ++ dU l.node ++ bf l.till.toNat
structure uz (j:aC):Prop where
 name:j.name.size<=9223372036854775807
 prio : -9223372036854775808<=j.prio/\j.prio<=9223372036854775807
 need:0<=j.need/\j.need<=9223372036854775807
 tries:0<=j.tries/\j.tries<=9223372036854775807
 tag:j.tag.size<=9223372036854775807
structure qh (n:av):Prop where
 name:n.name.size<=9223372036854775807
 room:0<=n.room/\n.room<=9223372036854775807
 zone:n.zone.size<=9223372036854775807
structure uZ (l:ak):Prop where
 job:l.job.size<=9223372036854775807
 node:l.node.size<=9223372036854775807
 till:0<=l.till/\l.till<=9223372036854775807
theorem mH (j:aC) (v:Int):(eP j v).length<=85:=by
 have a:=dw j.name;have b:=bT (mU j.prio).toNat;have c:=bT j.need.toNat;have d:=bT j.tries.toNat;have e:=dw j.tag;unfold eP
 split <;> split <;> simp only [List.length_append,List.length_nil] <;> omega
theorem kS (n:av) (v:Int):(cW n v).length<=85:=by
 have a:=dw n.name;have b:=bT n.room.toNat;have c:=dw n.zone;unfold cW
 split <;> simp only [List.length_append,List.length_nil] <;> omega
theorem ku (l:ak):(eH l).length<=85:=by
 have a:=dw l.job;have b:=bT l.till.toNat;have c:=dw l.node;unfold eH;simp only [List.length_append] <;> omega
theorem Pg (base g:Nat) (l:List UInt8) (x:aC) (v:Int) (w:World) (j:¬ 1<v) (k:¬ 2<v) (q:uz x) (p:gA w base g l) (J:l.length<=90000000) :
 ψ 165 #[π g 0,.agg (aS x).toArray,v] w (iJ base g (l ++ eP x v) w):=by
 have H:decide (1<v)=false:=fQ j;have I:decide (2<v)=false:=fQ k;have i:=ω q;obtain⟨h,d,b,C,B⟩:=x;have E:=ω (show l ++ eP ⟨h,d,b,C,B⟩ v=l ++ dU h ++ bf (mU d).toNat ++ bf (b).toNat from by simp [eP,j,k]);unfold aS;have e:=ω (WGo.start p 86 #[h,d,b,C,B] (by decide));clear p q j k;go_enter Tryz.func165,Tryz.ntmps165
 go_wp2_with fail
 refine Calls.mono (qx base g _ h _ i.name e.ok (by have:=e.len; omega)) ?_;rintro o D ⟨rfl,ok1,r⟩;have a:=ω (e.next ok1 r (dw _));have G:ζ D w 1 (.int .i64 d):=a.blk.cell 1;have m:ζ D w 2 (.int .i64 b):=a.blk.cell 2;clear ok1 r e
 go_wp2_with fail
 refine Calls.mono (AZ base g _ d _ i.prio a.ok (by have:=a.len; omega)) ?_;rintro o F ⟨rfl,y,s⟩;have c:=ω (a.next y s (bT _));clear G m;have m:ζ F w 2 (.int .i64 b):=c.blk.cell 2;clear y s a
 go_wp2_with fail
 refine Calls.mono (p8 base g _ b _ i.need c.ok (by have:=c.len; omega)) ?_;rintro o K ⟨rfl,z,u⟩;have n:=ω (c.next z u (bT _));clear m;clear z u c;go_wp2;go_end0;exact⟨rfl,by rw [E.z]; exact n.ok,n.keep⟩
theorem Pi (base g:Nat) (l:List UInt8) (x:aC) (v:Int) (w:World) (o:1<v) (p:¬ 2<v) (y:uz x) (u:gA w base g l) (O:l.length<=90000000) :
 ψ 165 #[π g 0,.agg (aS x).toArray,v] w (iJ base g (l ++ eP x v) w):=by
 have M:decide (1<v)=true:=t7 o;have N:decide (2<v)=false:=fQ p;have k:=ω y;obtain⟨m,h,d,b,H⟩:=x;have J:=ω (show l ++ eP ⟨m,h,d,b,H⟩ v=l ++ dU m ++ bf (mU h).toNat ++ bf (d).toNat ++ bf (b).toNat from by simp [eP,o,p]);unfold aS;have j:=ω (WGo.start u 86 #[m,h,d,b,H] (by decide));clear u y o p;go_enter Tryz.func165,Tryz.ntmps165
 go_wp2_with fail
 refine Calls.mono (qx base g _ m _ k.name j.ok (by have:=j.len; omega)) ?_;rintro n q ⟨rfl,ok1,z⟩;have a:=ω (j.next ok1 z (dw _));have L:ζ q w 1 (.int .i64 h):=a.blk.cell 1;have r:ζ q w 2 (.int .i64 d):=a.blk.cell 2;have i:ζ q w 3 (.int .i64 b):=a.blk.cell 3;clear ok1 z j
 go_wp2_with fail
 refine Calls.mono (AZ base g _ h _ k.prio a.ok (by have:=a.len; omega)) ?_;rintro n I ⟨rfl,E,B⟩;have c:=ω (a.next E B (bT _));clear L r i;have r:ζ I w 2 (.int .i64 d):=c.blk.cell 2;have i:ζ I w 3 (.int .i64 b):=c.blk.cell 3;clear E B a
 go_wp2_with fail
 refine Calls.mono (p8 base g _ d _ k.need c.ok (by have:=c.len; omega)) ?_;rintro n K ⟨rfl,F,C⟩;have e:=ω (c.next F C (bT _));clear r i;have i:ζ K w 3 (.int .i64 b):=e.blk.cell 3;clear F C c
 go_wp2_with fail
 refine Calls.mono (p8 base g _ b _ k.tries e.ok (by have:=e.len; omega)) ?_;rintro n P ⟨rfl,G,D⟩;have s:=ω (e.next G D (bT _));clear i;clear G D e;go_wp2;go_end0;exact⟨rfl,by rw [J.z]; exact s.ok,s.keep⟩
theorem LE (base g:Nat) (l:List UInt8) (x:aC) (v:Int) (w:World) (s:1<v) (u:2<v) (D:uz x) (C:gA w base g l) (T:l.length<=90000000) :
 ψ 165 #[π g 0,.agg (aS x).toArray,v] w (iJ base g (l ++ eP x v) w):=by
 have R:decide (1<v)=true:=t7 s;have S:decide (2<v)=true:=t7 u;have k:=ω D;obtain⟨q,m,i,d,b⟩:=x;have O:=ω (show l ++ eP ⟨q,m,i,d,b⟩ v=l ++ dU q ++ bf (mU m).toNat ++ bf (i).toNat ++ bf (d).toNat ++ dU b from by simp [eP,s,u]);unfold aS;have o:=ω (WGo.start C 86 #[q,m,i,d,b] (by decide));clear C D s u;go_enter Tryz.func165,Tryz.ntmps165
 go_wp2_with fail
 refine Calls.mono (qx base g _ q _ k.name o.ok (by have:=o.len; omega)) ?_;rintro p r ⟨rfl,ok1,E⟩;have a:=ω (o.next ok1 E (dw _));have Q:ζ r w 1 (.int .i64 m):=a.blk.cell 1;have z:ζ r w 2 (.int .i64 i):=a.blk.cell 2;have n:ζ r w 3 (.int .i64 d):=a.blk.cell 3;have e:ζ r w 4 (.string b):=a.blk.cell 4;clear ok1 E o
 go_wp2_with fail
 refine Calls.mono (AZ base g _ m _ k.prio a.ok (by have:=a.len; omega)) ?_;rintro p y ⟨rfl,J,F⟩;have c:=ω (a.next J F (bT _));clear Q z n e;have z:ζ y w 2 (.int .i64 i):=c.blk.cell 2;have n:ζ y w 3 (.int .i64 d):=c.blk.cell 3;have e:ζ y w 4 (.string b):=c.blk.cell 4;clear J F a
 go_wp2_with fail
 refine Calls.mono (p8 base g _ i _ k.need c.ok (by have:=c.len; omega)) ?_;rintro p N ⟨rfl,K,G⟩;have h:=ω (c.next K G (bT _));clear z n e;have n:ζ N w 3 (.int .i64 d):=h.blk.cell 3;have e:ζ N w 4 (.string b):=h.blk.cell 4;clear K G c
 go_wp2_with fail
 refine Calls.mono (p8 base g _ d _ k.tries h.ok (by have:=h.len; omega)) ?_;rintro p P ⟨rfl,L,H⟩;have j:=ω (h.next L H (bT _));clear n e;have e:ζ P w 4 (.string b):=j.blk.cell 4;clear L H h
 go_wp2_with fail
 refine Calls.mono (qx base g _ b _ k.tag j.ok (by have:=j.len; omega)) ?_;rintro p U ⟨rfl,M,I⟩;have B:=ω (j.next M I (dw _));clear e;clear M I j;go_wp2;go_end0;exact⟨rfl,by rw [O.z]; exact B.ok,B.keep⟩
theorem Nn (base g:Nat) (l:List UInt8) (x:av) (v:Int) (w:World) (e:¬ 1<v) (k:qh x) (j:gA w base g l) (z:l.length<=90000000) :
 ψ 168 #[π g 0,.agg (aH x).toArray,v] w (iJ base g (l ++ cW x v) w):=by
 have y:decide (1<v)=false:=fQ e;have i:=ω k;obtain⟨d,b,p⟩:=x;have q:=ω (show l ++ cW ⟨d,b,p⟩ v=l ++ dU d ++ bf (b).toNat from by simp [cW,e]);unfold aH;have c:=ω (WGo.start j 81 #[d,b,p] (by decide));clear j k e;go_enter Tryz.func168,Tryz.ntmps168
 go_wp2_with fail
 refine Calls.mono (qx base g _ d _ i.name c.ok (by have:=c.len; omega)) ?_;rintro r s ⟨rfl,ok1,m⟩;have a:=ω (c.next ok1 m (dw _));have u:ζ s w 1 (.int .i64 b):=a.blk.cell 1;clear ok1 m c
 go_wp2_with fail
 refine Calls.mono (p8 base g _ b _ i.room a.ok (by have:=a.len; omega)) ?_;rintro r B ⟨rfl,o,n⟩;have h:=ω (a.next o n (bT _));clear u;clear o n a;go_wp2;go_end0;exact⟨rfl,by rw [q.z]; exact h.ok,h.keep⟩
theorem It (base g:Nat) (l:List UInt8) (x:av) (v:Int) (w:World) (j:1<v) (p:qh x) (o:gA w base g l) (F:l.length<=90000000) :
 ψ 168 #[π g 0,.agg (aH x).toArray,v] w (iJ base g (l ++ cW x v) w):=by
 have E:decide (1<v)=true:=t7 j;have i:=ω p;obtain⟨h,d,b⟩:=x;have B:=ω (show l ++ cW ⟨h,d,b⟩ v=l ++ dU h ++ bf (d).toNat ++ dU b from by simp [cW,j]);unfold aH;have e:=ω (WGo.start o 81 #[h,d,b] (by decide));clear o p j;go_enter Tryz.func168,Tryz.ntmps168
 go_wp2_with fail
 refine Calls.mono (qx base g _ h _ i.name e.ok (by have:=e.len; omega)) ?_;rintro n z ⟨rfl,ok1,q⟩;have a:=ω (e.next ok1 q (dw _));have D:ζ z w 1 (.int .i64 d):=a.blk.cell 1;have k:ζ z w 2 (.string b):=a.blk.cell 2;clear ok1 q e
 go_wp2_with fail
 refine Calls.mono (p8 base g _ d _ i.room a.ok (by have:=a.len; omega)) ?_;rintro n C ⟨rfl,u,r⟩;have c:=ω (a.next u r (bT _));clear D k;have k:ζ C w 2 (.string b):=c.blk.cell 2;clear u r a
 go_wp2_with fail
 refine Calls.mono (qx base g _ b _ i.zone c.ok (by have:=c.len; omega)) ?_;rintro n G ⟨rfl,y,s⟩;have m:=ω (c.next y s (dw _));clear k;clear y s c;go_wp2;go_end0;exact⟨rfl,by rw [B.z]; exact m.ok,m.keep⟩
theorem FO (base g:Nat) (l:List UInt8) (x:ak) (w:World) (m:uZ x) (k:gA w base g l) (z:l.length<=90000000) :
 ψ 170 #[π g 0,.agg (aB x).toArray] w (iJ base g (l ++ eH x) w):=by
 have e:=ω m;obtain⟨job,node,b⟩:=x;have u:=ω (show l ++ eH ⟨job,node,b⟩=l ++ dU job ++ dU node ++ bf (b).toNat from by simp [eH]);unfold aB;have d:=ω (WGo.start k 77 #[job,node,b] (by decide));clear k m;go_enter Tryz.func170,Tryz.ntmps170
 go_wp2_with fail
 refine Calls.mono (qx base g _ job _ e.job d.ok (by have:=d.len; omega)) ?_;rintro j s ⟨rfl,ok1,n⟩;have a:=ω (d.next ok1 n (dw _));have y:ζ s w 1 (.string node):=a.blk.cell 1;have h:ζ s w 2 (.int .i64 b):=a.blk.cell 2;clear ok1 n d
 go_wp2_with fail
 refine Calls.mono (qx base g _ node _ e.node a.ok (by have:=a.len; omega)) ?_;rintro j v ⟨rfl,q,o⟩;have c:=ω (a.next q o (dw _));clear y h;have h:ζ v w 2 (.int .i64 b):=c.blk.cell 2;clear q o a
 go_wp2_with fail
 refine Calls.mono (p8 base g _ b _ e.till c.ok (by have:=c.len; omega)) ?_;rintro j B ⟨rfl,r,p⟩;have i:=ω (c.next r p (bT _));clear h;clear r p c;go_wp2;go_end0;exact⟨rfl,by rw [u.z]; exact i.ok,i.keep⟩
theorem LF (base g:Nat) (l:List UInt8) (x:aC) (v:Int) (w:World) (c:uz x) (h:gA w base g l) (b:l.length<=90000000) :
 ψ 165 #[π g 0,.agg (aS x).toArray,v] w (iJ base g (l ++ eP x v) w):=by
 by_cases a:1<v
 · by_cases d:2<v
   · exact LE base g l x v w a d c h b
   · exact Pi base g l x v w a d c h b
 · exact Pg base g l x v w a (by omega) c h b
theorem JG (base g:Nat) (l:List UInt8) (x:av) (v:Int) (w:World) (c:qh x) (h:gA w base g l) (b:l.length<=90000000) :
 ψ 168 #[π g 0,.agg (aH x).toArray,v] w (iJ base g (l ++ cW x v) w):=by
 by_cases a:1<v
 · exact It base g l x v w a c h b
 · exact Nn base g l x v w a c h b
def bs (l:List UInt8):ByteArray:=⟨l.toArray⟩
theorem fC (a b:List UInt8):bs a ++ bs b=bs (a ++ b):=by unfold bs; rw [ByteArray.mk_append_mk]; try simp
theorem dz (a:List UInt8):(bs a).size=a.length:=by exact List.size_toArray
theorem Pj (s:ByteArray):(vD s).1=bs (dU s):=by unfold bs dU; try simp
def fZ (l:List UInt8) (w:World) (e:Ending) (w':World):Prop:=e = .returned (.string (bs l))/\Below w w w'
theorem Oh (n:Int) (w:World) (h:0<=n/\n<18446744073709551616):ψ 122 #[.int .u64 n] w (fZ (bf n.toNat) w):=
 qc 10 n w h.1 h.2 (by have:=(by decide:(128:Nat) ^ 10=1180591620717411303424); omega) (by decide)
theorem jG (n:Int) (w:World) (h:0<=n/\n<=9223372036854775807):ψ 59 #[n] w (fZ (bf n.toNat) w):=by
 have H:=ω (Oh n w (by omega));go_enter Tryz.func59,Tryz.ntmps59
 go_wp2_with fail
 refine H.mono ?_;rintro e b ⟨rfl,a⟩;go_wp2;go_ret;exact⟨rfl,a⟩
theorem lN (s:ByteArray) (w:World) (h:s.size<=9223372036854775807):ψ 61 #[s] w (fZ (dU s) w):=by
 have H:=JH s w h;unfold jB at H;rw [Pj] at H;generalize (vD s).2=E at H;have H:=ω H;go_enter Tryz.func61,Tryz.ntmps61
 go_wp2_with fail
 refine H.mono ?_;rintro e b ⟨rfl,a⟩;go_wp2;go_ret;exact⟨rfl,a⟩
theorem A0 :
 (∀ (x:aC) (v:Int) (w:World) (c:¬ 1<v) (i:¬ 2<v) (n:uz x),ψ 123 #[.agg (aS x).toArray,v] w (fZ (eP x v) w)) /\
 (∀ (x:aC) (v:Int) (w:World) (c:1<v) (i:¬ 2<v) (n:uz x),ψ 123 #[.agg (aS x).toArray,v] w (fZ (eP x v) w)) /\
 (∀ (x:aC) (v:Int) (w:World) (c:1<v) (i:2<v) (n:uz x),ψ 123 #[.agg (aS x).toArray,v] w (fZ (eP x v) w)):=by
 refine⟨@fun x v w c i n=>(fun(u:Unit)=>?_) (),@fun x v w c i n=>(fun(o:Unit)=>?_) (),@fun x v w c i n=>(fun(y:Unit)=>?_) ()⟩<;>(
 first|(guard_hyp u;have d1:decide (1<v)=false:=fQ c)|have d1:decide (1<v)=true:=t7 c
 first|(guard_hyp y;have d2:decide (2<v)=true:=t7 i)|have d2:decide (2<v)=false:=fQ i
 have p:=ω n;obtain⟨j,a,g,e,k⟩:=x
 first
  |(
   guard_hyp u
   have b:bs (dU j) ++ bs (bf (mU a).toNat) ++ bs (bf (g).toNat)=bs (eP ⟨j,a,g,e,k⟩ v):=by simp only [fC]; simp [eP,c,i])
  |(
   guard_hyp o
   have b:bs (dU j) ++ bs (bf (mU a).toNat) ++ bs (bf (g).toNat) ++ bs (bf (e).toNat)=bs (eP ⟨j,a,g,e,k⟩ v):=by simp only [fC]; simp [eP,c,i])
  |(
   guard_hyp y
   have b:bs (dU j) ++ bs (bf (mU a).toNat) ++ bs (bf (g).toNat) ++ bs (bf (e).toNat) ++ bs (dU k)=bs (eP ⟨j,a,g,e,k⟩ v):=by simp only [fC]; simp [eP,c,i])
 unfold aS;dsimp only;have G:Below w w (χ w #[j,a,g,e,k] 86):=(θ).alloc lQ _;have F:Blk (χ w #[j,a,g,e,k] 86) w 86 #[j,a,g,e,k]:=n5 w _;generalize L:w.alloc (.cells #[j,a,g,e,k] 86)=h at G F;have I:=ω L;have U:=ω G;obtain⟨b0,b1,b2,P,Z⟩:=Blk.r5 (F);have H:=fun d m=>lN j (Sort.grow (redrawn h d) m) p.name;have M:0<=mU a/\mU a<18446744073709551616:=by have:=p.prio; dsimp only at this; unfold mU; split <;> omega
 have s:∀ d m,ψ 177 #[a] (Sort.grow (redrawn h d) m) fun E w'=>E = .returned (.int .u64 (mU a))/\Below (Sort.grow (redrawn h d) m).heap.size (Sort.grow (redrawn h d) m) w':=fun d m=>(LG a p.prio.1 p.prio.2 _).mono (by rintro E w' ⟨c,rfl⟩; exact⟨c,θ⟩);have z:=fun d m=>Oh (mU a) (Sort.grow (redrawn h d) m) M;generalize mU a=aa at s z b;have B:=fun d m=>jG g (Sort.grow (redrawn h d) m) p.need;have LH:(bs (dU j)).size<=17:=by rw [dz]; exact dw _
 have P9:(bs (bf aa.toNat)).size<=17:=by rw [dz]; exact bT _
 have X:(bs (bf (g).toNat)).size<=17:=by rw [dz]; exact bT _
 first
  |(
   guard_hyp o
   have N:(bs (bf (e).toNat)).size<=17:=by rw [dz]; exact bT _
   have C:=fun W=>jG e W p.tries)
  |(
   guard_hyp y
   have N:(bs (bf (e).toNat)).size<=17:=by rw [dz]; exact bT _
   have C:=fun W=>jG e W p.tries;have ae:(bs (dU k)).size<=17:=by rw [dz]; exact dw _
   have O:=fun W=>lN k W p.tag)
  |skip
 unfold fZ at *;generalize bs (dU j)=Qa at b H LH;generalize bs (bf aa.toNat)=af at b z P9
 first
  |(
   guard_hyp o
   generalize bs (bf (g).toNat)=Qb at b B X)
  |skip
 first|(guard_hyp o;generalize bs (bf (e).toNat)=Pn at b C N)|generalize bs (bf (g).toNat)=Qb at b B X
 first
  |(
   guard_hyp y
   generalize bs (bf (e).toNat)=Pn at b C N;generalize bs (dU k)=ag at b O ae)
  |skip
 have T:=ω H;have Y:=ω z;have yQ:=ω B
 first|(guard_hyp u;have J:=ω s)|have V:=ω C
 first|(guard_hyp u;have D:=ω b)|(guard_hyp o;have J:=ω s)|have ac:=ω O
 first
  |(
   guard_hyp u
   clear G F L n b c i H z B s M)
  |(
   guard_hyp o
   have D:=ω b;clear G F L n b c i H z B C s M)
  |(
   guard_hyp y
   have J:=ω s;have D:=ω b;clear G F L n b c i H z B C O s M)
 go_enter Tryz.func123,Tryz.ntmps123
 go_wp2_with fail
 rw [I.z];refine wp_region_quiet_below (by kernel_rfl) (by kernel_rfl) ?_
 go_big_quiet_step ((fail))
 go_big_quiet_step ((fail))
 go_big_quiet_step ((go_at_call 61; exact Calls.regrown_of (T.z _ _)))
 go_big_quiet_step ((fail))
 go_big_quiet_step ((fail))
 go_big_quiet_step ((go_at_call 177; exact Calls.regrown_of (J.z _ _)))
 go_big_quiet_step ((go_at_call 122; exact Calls.regrown_of (Y.z _ _)))
 go_big_quiet_step ((fail))
 go_big_quiet_step ((fail))
 go_big_quiet_step ((fail))
 go_big_quiet_step ((go_at_call 59; exact Calls.regrown_of (yQ.z _ _)))
 go_big_quiet_step ((fail))
 go_big_quiet_step ((fail))
 refine wpQuiet_nil ?_;intro _ ad;obtain⟨⟨nq,osq⟩,hw''⟩:=ad;subst hw'';have q:=ω (U.trans ((below_regrown h nq osq).mono U.size))
 first
  |(
   guard_hyp o
   have R:=P nq osq;have l:w.heap.size<(Sort.grow (redrawn h nq) osq).heap.size:=uI (by rw [<- I.z]; simp) (below_regrown h nq osq).size)
  |(
   guard_hyp y
   have R:=P nq osq;have S:=Z nq osq;have l:w.heap.size<(Sort.grow (redrawn h nq) osq).heap.size:=uI (by rw [<- I.z]; simp) (below_regrown h nq osq).size)
  |skip
 clear I b0 b1 b2 P Z T Y yQ J;dsimp only
 first
  |(
   guard_hyp u
   generalize Sort.grow (redrawn h nq) osq=w2 at q |-)
  |(
   guard_hyp o
   generalize Sort.grow (redrawn h nq) osq=w2 at q R l |-
   go_wp2_with fail
   refine Calls.mono (V.z _) ?_;rintro E v0 ⟨rfl,r⟩;have K:=ω (q.trans (r.mono q.size));replace l:=uI l r.size;clear r)
  |(
   guard_hyp y
   generalize Sort.grow (redrawn h nq) osq=w2 at q R S l |-
   go_wp2_with fail
   refine Calls.mono (V.z _) ?_;rintro E v0 ⟨rfl,r⟩;have K:=ω (q.trans (r.mono q.size));replace S:=((dP r).1 _ _ l).trans S;replace l:=uI l r.size;clear r
   go_wp2_with fail
   refine Calls.mono (ac.z _) ?_;rintro E v1 ⟨rfl,Q⟩;have ab:=ω (K.trans (Q.mono K.size));replace l:=uI l Q.size;clear Q)
 go_wp2;go_ret
 first|(guard_hyp u;exact⟨kW D.z,q⟩)|(guard_hyp o;exact⟨kW D.z,K⟩)|exact⟨kW D.z,ab⟩)
theorem Cn :
 (∀ (x:av) (v:Int) (w:World) (g:¬ 1<v) (k:qh x),ψ 124 #[.agg (aH x).toArray,v] w (fZ (cW x v) w)) /\
 (∀ (x:av) (v:Int) (w:World) (g:1<v) (k:qh x),ψ 124 #[.agg (aH x).toArray,v] w (fZ (cW x v) w)):=by
 refine⟨@fun x v w g k=>(fun(l:Unit)=>?_) (),@fun x v w g k=>(fun(m:Unit)=>?_) ()⟩<;>(
 first|(guard_hyp l;have O:decide (1<v)=false:=fQ g)|have O:decide (1<v)=true:=t7 g
 have s:=ω k;obtain⟨a,b,c⟩:=x
 first
  |(
   guard_hyp l
   have i:bs (dU a) ++ bs (bf (b).toNat)=bs (cW ⟨a,b,c⟩ v):=by simp only [fC]; simp [cW,g])
  |(
   guard_hyp m
   have i:bs (dU a) ++ bs (bf (b).toNat) ++ bs (dU c)=bs (cW ⟨a,b,c⟩ v):=by simp only [fC]; simp [cW,g])
 unfold aH;dsimp only;have p:Below w w (χ w #[a,b,c] 81):=(θ).alloc lQ _;have j:Blk (χ w #[a,b,c] 81) w 81 #[a,b,c]:=n5 w _;generalize C:w.alloc (.cells #[a,b,c] 81)=d at p j;have r:=ω C;have E:=ω p;have M:=fun e h=>cell_regrown (show ζ d w 0 (.string a) from j.cell 0) e h;have N:=fun e h=>cell_regrown (show ζ d w 1 (.int .i64 b) from j.cell 1) e h;have F:=fun e h=>cell_regrown (show ζ d w 2 (.string c) from j.cell 2) e h;have q:=fun e h=>lN a (Sort.grow (redrawn d e) h) s.name;have o:=fun e h=>jG b (Sort.grow (redrawn d e) h) s.room;have I:(bs (dU a)).size<=17:=by rw [dz]; exact dw _
 have J:(bs (bf (b).toNat)).size<=17:=by rw [dz]; exact bT _
 first
  |(
   guard_hyp m
   have K:(bs (dU c)).size<=17:=by rw [dz]; exact dw _
   have u:=fun W=>lN c W s.zone)
  |skip
 unfold fZ at *;generalize bs (dU a)=S at i q I;generalize bs (bf (b).toNat)=T at i o J
 first
  |(
   guard_hyp m
   generalize bs (dU c)=U at i u K)
  |skip
 have D:=ω q;have G:=ω o
 first|(guard_hyp l;have y:=ω i)|have L:=ω u
 first
  |(
   guard_hyp l
   clear p j C k i g q o)
  |(
   guard_hyp m
   have y:=ω i;clear p j C k i g q o u)
 go_enter Tryz.func124,Tryz.ntmps124
 go_wp2_with fail
 rw [r.z];refine wp_region_quiet_below (by kernel_rfl) (by kernel_rfl) ?_
 go_big_quiet_step ((fail))
 go_big_quiet_step ((fail))
 go_big_quiet_step ((go_at_call 61; exact Calls.regrown_of (D.z _ _)))
 go_big_quiet_step ((fail))
 go_big_quiet_step ((fail))
 go_big_quiet_step ((go_at_call 59; exact Calls.regrown_of (G.z _ _)))
 go_big_quiet_step ((fail))
 go_big_quiet_step ((fail))
 refine wpQuiet_nil ?_;intro _ P;obtain⟨⟨nq,osq⟩,hw''⟩:=P;subst hw'';have n:=ω (E.trans ((below_regrown d nq osq).mono E.size))
 first
  |(
   guard_hyp m
   have R:=F nq osq;have B:w.heap.size<(Sort.grow (redrawn d nq) osq).heap.size:=uI (by rw [<- r.z]; simp) (below_regrown d nq osq).size)
  |skip
 clear r M N F D G;dsimp only
 first
  |(
   guard_hyp l
   generalize Sort.grow (redrawn d nq) osq=Q at n |-)
  |(
   guard_hyp m
   generalize Sort.grow (redrawn d nq) osq=Q at n R B |-
   go_wp2_with fail
   refine Calls.mono (L.z _) ?_;rintro V X ⟨rfl,z⟩;have H:=ω (n.trans (z.mono n.size));replace B:=uI B z.size;clear z)
 go_wp2;go_ret
 first|(guard_hyp l;exact⟨kW y.z,n⟩)|exact⟨kW y.z,H⟩)
theorem Gu (x:ak) (w:World) (u:uZ x) :
 ψ 125 #[.agg (aB x).toArray] w (fZ (eH x) w):=by
 have h:=ω u;obtain⟨job,node,b⟩:=x;have g:bs (dU job) ++ bs (dU node) ++ bs (bf (b).toNat)=bs (eH ⟨job,node,b⟩):=by simp only [fC]; simp [eH]
 unfold aB;dsimp only;have l:Below w w (χ w #[job,node,b] 77):=(θ).alloc lQ _;have e:Blk (χ w #[job,node,b] 77) w 77 #[job,node,b]:=n5 w _;generalize s:w.alloc (.cells #[job,node,b] 77)=c at l e;have m:=ω s;have n:=ω l;have z:=fun d a=>cell_regrown (show ζ c w 0 (.string job) from e.cell 0) d a;have B:=fun d a=>cell_regrown (show ζ c w 1 (.string node) from e.cell 1) d a;have C:=fun d a=>cell_regrown (show ζ c w 2 (.int .i64 b) from e.cell 2) d a;have k:=fun d a=>lN job (Sort.grow (redrawn c d) a) h.job;have i:=fun d a=>lN node (Sort.grow (redrawn c d) a) h.node;have j:=fun d a=>jG b (Sort.grow (redrawn c d) a) h.till;have F:(bs (dU job)).size<=17:=by rw [dz]; exact dw _
 have v:(bs (dU node)).size<=17:=by rw [dz]; exact dw _
 have y:(bs (bf (b).toNat)).size<=17:=by rw [dz]; exact bT _
 unfold fZ at *;generalize bs (dU job)=G at g k F;generalize bs (dU node)=H at g i v;generalize bs (bf (b).toNat)=I at g j y;have o:=ω k;have p:=ω i;have q:=ω j;have D:=ω g;clear l e s u g k i j;go_enter Tryz.func125,Tryz.ntmps125
 go_wp2_with fail
 rw [m.z];refine wp_region_quiet_below (by kernel_rfl) (by kernel_rfl) ?_
 go_big_quiet_step ((fail))
 go_big_quiet_step ((fail))
 go_big_quiet_step ((go_at_call 61; exact Calls.regrown_of (o.z _ _)))
 go_big_quiet_step ((fail))
 go_big_quiet_step ((fail))
 go_big_quiet_step ((go_at_call 61; exact Calls.regrown_of (p.z _ _)))
 go_big_quiet_step ((fail))
 go_big_quiet_step ((fail))
 go_big_quiet_step ((fail))
 go_big_quiet_step ((go_at_call 59; exact Calls.regrown_of (q.z _ _)))
 go_big_quiet_step ((fail))
 go_big_quiet_step ((fail))
 refine wpQuiet_nil ?_;intro _ E;obtain⟨⟨nq,osq⟩,hw''⟩:=E;subst hw'';have r:=ω (n.trans ((below_regrown c nq osq).mono n.size));clear m z B C o p q;dsimp only;generalize Sort.grow (redrawn c nq) osq=J at r |-;go_wp2;go_ret;exact⟨kW D.z,r⟩
theorem LM (x:aC) (v:Int) (w:World) (b:uz x):ψ 123 #[.agg (aS x).toArray,v] w (fZ (eP x v) w):=by
 by_cases a:1<v
 · by_cases c:2<v
   · exact A0.2.2 x v w a c b
   · exact A0.2.1 x v w a c b
 · exact A0.1 x v w a (by omega) b
theorem JI (x:av) (v:Int) (w:World) (b:qh x):ψ 124 #[.agg (aH x).toArray,v] w (fZ (cW x v) w):=by
 by_cases a:1<v
 · exact Cn.2 x v w a b
 · exact Cn.1 x v w a b
end Go.Proofs.YtimglglgcgpjgabGreatDoor
