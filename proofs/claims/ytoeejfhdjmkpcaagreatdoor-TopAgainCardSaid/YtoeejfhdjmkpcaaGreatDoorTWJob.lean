/- Of the proof of a statement: WJob. -/
import Derived.Test.YtoeejfhdjmkpcaaGreatDoorTWri
set_option linter.unusedVariables false
set_option linter.unusedSimpArgs false
set_option maxRecDepth 100000
set_option maxHeartbeats 8000000
/- The walks of a Writer's rows: a job, a node, a lease. -/
namespace Go.Proofs.YtoeejfhdjmkpcaaGreatDoor
open Go.Lib (hid)
open Go.RowKit
def fV (s:ByteArray):List UInt8:=(p8 s).1.data.toList
theorem dR (s:ByteArray):(fV s).length≤17:=by
 have hts:(p8 s).1.size≤17:=by
  unfold p8
  split
  · show (0:Nat)≤17; omega
  · split
    · rw [ByteArray.size_append]; show 1+s.size≤17; omega
    · show (0:Nat)≤17; omega
 unfold fV
 rw [Array.length_toList]
 exact hts
theorem cO (n:Nat):(bI n).length≤17:=by have:=dB n; omega
theorem Tabs.base {w w':World} {B:Nat} (h:Tabs w) (h3:ren.g 3<B) (h4:ren.g 4<B) (hb:Below B w w'):Tabs w':=
 ⟨fun c hc=>(hb.cell h3).trans (h.1 c hc),fun i hi=>⟨(hb.cell h4).trans (h.2 i hi).1,(hb.cell h4).trans (h.2 i hi).2⟩⟩
structure fI (w:World) (base g:Nat) (l:List UInt8):Prop where
 at_:nA w base g l
 tabs:Tabs w
 g3:ren.g 3<base
 g4:ren.g 4<base
 size:base≤w.heap.size
theorem fI.next {w w':World} {base g:Nat} {l l':List UInt8} (h:fI w base g l) (ha:nA w' base g l') (hk:cR base g w w'):fI w' base g l':=
 ⟨ha,h.tabs.base h.g3 h.g4 (hk.below ha.1 h.size),h.g3,h.g4,Nat.le_trans h.size hk.size⟩
theorem fI.below {w w':World} {base g:Nat} {l:List UInt8} (h:fI w base g l) (hb:Below w.heap.size w w'):fI w' base g l:=
 h.next (h.at_.below hb) (cR.of_below hb)
def gy (base g:Nat) (l:List UInt8) (w:World) (e:Ending) (w':World):Prop:=e = .returned (.tuple #[])∧fI w' base g l∧cR base g w w'
theorem lJ (base g:Nat) (l:List UInt8) (s:ByteArray) (w:World) (hs:s.size≤9223372036854775807) (h:fI w base g l) (hl:l.length≤100000000) :
 Calls Tryz.prog 69 #[.pointer (some ⟨g,0,none⟩),.string s] w (gy base g (l ++ fV s) w):=by
 refine Calls.mono (C6 base g l s w hs h.tabs h.at_ hl h.size) ?_
 rintro e w' ⟨he,ha,hk⟩
 exact⟨he,h.next ha hk,hk⟩
theorem kD (base g:Nat) (l:List UInt8) (n:Int) (w:World) (hs:0≤n∧n≤9223372036854775807) (h:fI w base g l) (hl:l.length≤100000000) :
 Calls Tryz.prog 59 #[.pointer (some ⟨g,0,none⟩),.int .i64 n] w (gy base g (l ++ bI n.toNat) w):=by
 refine Calls.mono (uq base g l n w hs.1 hs.2 h.at_ hl) ?_
 rintro e w' ⟨he,ha,hk⟩
 exact⟨he,h.next ha hk,hk⟩
theorem uW (base g:Nat) (l:List UInt8) (n:Int) (w:World) (hs : -9223372036854775808≤n∧n≤9223372036854775807) (h:fI w base g l) (hl:l.length≤100000000) :
 Calls Tryz.prog 165 #[.pointer (some ⟨g,0,none⟩),.int .i64 n] w (gy base g (l ++ bI (lV n).toNat) w):=by
 refine Calls.mono (zQ base g l n w hs.1 hs.2 h.at_ hl h.size) ?_
 rintro e w' ⟨he,ha,hk⟩
 exact⟨he,h.next ha hk,hk⟩
structure WGo (w0 w:World) (base g:Nat) (l:List UInt8) (n:Nat) (t:TypeId) (cs:Array Value) (N:Nat):Prop where
 ok:fI w base g l
 keep:cR base g w0 w
 blk:Blk w n t cs
 ht:t ≠ 5
 ne:n≠g
 len:l.length≤N
theorem WGo.next {w0 w w':World} {base g n N:Nat} {l k:List UInt8} {t:TypeId} {cs:Array Value} (h:WGo w0 w base g l n t cs N) (ha:fI w' base g (l ++ k)) (hk:cR base g w w') (hkl:k.length≤17):WGo w0 w' base g (l ++ k) n t cs (N+17):=
 ⟨ha,h.keep.trans hk,hk.blk h.blk h.ht h.ne,h.ht,h.ne,by have:=h.len; rw [List.length_append]; omega⟩
theorem WGo.start {w:World} {base g:Nat} {l:List UInt8} (h:fI w base g l) (t:TypeId) (cs:Array Value) (ht:t ≠ 5):WGo w (w.alloc (.cells cs t)) base g l w.heap.size t cs l.length:=
 have hb:Below w.heap.size w (w.alloc (.cells cs t)):=(Below.refl _ _).alloc (Nat.le_refl _) _
 ⟨h.below hb,cR.of_below hb,by show (w.heap.push (.cells cs t))[w.heap.size]? = _; simp,ht,Nat.ne_of_gt h.at_.lt,Nat.le_refl _⟩
def eU (j:aD) (v:Int):List UInt8:=fV j.name ++ bI (lV j.prio).toNat ++ bI j.need.toNat ++ (if 1<v then bI j.tries.toNat else []) ++ (if 2<v then fV j.tag else [])
def gV (n:aA) (v:Int):List UInt8:=fV n.name ++ bI n.room.toNat ++ (if 1<v then fV n.zone else [])
def gX (l:ak):List UInt8:=fV l.job ++ fV l.node ++ bI l.till.toNat
structure u7 (j:aD):Prop where
 name:j.name.size≤9223372036854775807
 prio : -9223372036854775808≤j.prio∧j.prio≤9223372036854775807
 need:0≤j.need∧j.need≤9223372036854775807
 tries:0≤j.tries∧j.tries≤9223372036854775807
 tag:j.tag.size≤9223372036854775807
structure tZ (n:aA):Prop where
 name:n.name.size≤9223372036854775807
 room:0≤n.room∧n.room≤9223372036854775807
 zone:n.zone.size≤9223372036854775807
structure wY (l:ak):Prop where
 job:l.job.size≤9223372036854775807
 node:l.node.size≤9223372036854775807
 till:0≤l.till∧l.till≤9223372036854775807
theorem tK (j:aD) (v:Int):(eU j v).length≤85:=by
 have h1:=dR j.name
 have h2:=cO (lV j.prio).toNat
 have h3:=cO j.need.toNat
 have h4:=cO j.tries.toNat
 have h5:=dR j.tag
 unfold eU
 split <;> split <;> simp only [List.length_append,List.length_nil] <;> omega
theorem vO (n:aA) (v:Int):(gV n v).length≤85:=by
 have h1:=dR n.name
 have h3:=cO n.room.toNat
 have h5:=dR n.zone
 unfold gV
 split <;> simp only [List.length_append,List.length_nil] <;> omega
theorem tL (l:ak):(gX l).length≤85:=by
 have h1:=dR l.job
 have h3:=cO l.till.toNat
 have h5:=dR l.node
 unfold gX
 simp only [List.length_append] <;> omega
theorem IS (base g:Nat) (l:List UInt8) (x:aD) (v:Int) (w:World) (h1:¬ 1<v) (h2:¬ 2<v) (hx:u7 x) (h:fI w base g l) (hl:l.length≤90000000) :
 Calls Tryz.prog 62 #[.pointer (some ⟨g,0,none⟩),.agg (aL x).toArray,.int .i64 v] w (gy base g (l ++ eU x v) w):=by
 have d1:decide (1<v)=false:=decide_eq_false h1
 have d2:decide (2<v)=false:=decide_eq_false h2
 have Hx:=hid hx
 obtain⟨name,prio,need,tries,tag⟩:=x
 have aV:=hid (show l ++ eU ⟨name,prio,need,tries,tag⟩ v=l ++ fV name ++ bI (lV prio).toNat ++ bI (need).toNat from by simp [eU,h1,h2])
 unfold aL
 have H0:=hid (WGo.start h 34 #[.string name,.int .i64 prio,.int .i64 need,.int .i64 tries,.string tag] (by decide))
 clear h hx h1 h2
 go_enter Tryz.func62,Tryz.ntmps62
 go_wp2_with fail
 refine Calls.mono (lJ base g _ name _ Hx.out.name H0.out.ok (by have:=H0.out.len; omega)) ?_
 rintro e w1 ⟨rfl,ok1,k1⟩
 have H1:=hid (H0.out.next ok1 k1 (dR _))
 have y1:w1.cell? ⟨w.heap.size,1,none⟩=some (.int .i64 prio):=H1.out.blk.cell 1
 have y2:w1.cell? ⟨w.heap.size,2,none⟩=some (.int .i64 need):=H1.out.blk.cell 2
 clear ok1 k1 H0
 go_wp2_with fail
 refine Calls.mono (uW base g _ prio _ Hx.out.prio H1.out.ok (by have:=H1.out.len; omega)) ?_
 rintro e w2 ⟨rfl,ok2,k2⟩
 have H2:=hid (H1.out.next ok2 k2 (cO _))
 clear y1 y2
 have y2:w2.cell? ⟨w.heap.size,2,none⟩=some (.int .i64 need):=H2.out.blk.cell 2
 clear ok2 k2 H1
 go_wp2_with fail
 refine Calls.mono (kD base g _ need _ Hx.out.need H2.out.ok (by have:=H2.out.len; omega)) ?_
 rintro e w3 ⟨rfl,ok3,k3⟩
 have H3:=hid (H2.out.next ok3 k3 (cO _))
 clear y2
 clear ok3 k3 H2
 go_wp2
 go_end0
 exact⟨rfl,by rw [aV.out]; exact H3.out.ok,H3.out.keep⟩
theorem IT (base g:Nat) (l:List UInt8) (x:aD) (v:Int) (w:World) (h1:1<v) (h2:¬ 2<v) (hx:u7 x) (h:fI w base g l) (hl:l.length≤90000000) :
 Calls Tryz.prog 62 #[.pointer (some ⟨g,0,none⟩),.agg (aL x).toArray,.int .i64 v] w (gy base g (l ++ eU x v) w):=by
 have d1:decide (1<v)=true:=decide_eq_true h1
 have d2:decide (2<v)=false:=decide_eq_false h2
 have Hx:=hid hx
 obtain⟨name,prio,need,tries,tag⟩:=x
 have aV:=hid (show l ++ eU ⟨name,prio,need,tries,tag⟩ v=l ++ fV name ++ bI (lV prio).toNat ++ bI (need).toNat ++ bI (tries).toNat from by simp [eU,h1,h2])
 unfold aL
 have H0:=hid (WGo.start h 34 #[.string name,.int .i64 prio,.int .i64 need,.int .i64 tries,.string tag] (by decide))
 clear h hx h1 h2
 go_enter Tryz.func62,Tryz.ntmps62
 go_wp2_with fail
 refine Calls.mono (lJ base g _ name _ Hx.out.name H0.out.ok (by have:=H0.out.len; omega)) ?_
 rintro e w1 ⟨rfl,ok1,k1⟩
 have H1:=hid (H0.out.next ok1 k1 (dR _))
 have y1:w1.cell? ⟨w.heap.size,1,none⟩=some (.int .i64 prio):=H1.out.blk.cell 1
 have y2:w1.cell? ⟨w.heap.size,2,none⟩=some (.int .i64 need):=H1.out.blk.cell 2
 have y3:w1.cell? ⟨w.heap.size,3,none⟩=some (.int .i64 tries):=H1.out.blk.cell 3
 clear ok1 k1 H0
 go_wp2_with fail
 refine Calls.mono (uW base g _ prio _ Hx.out.prio H1.out.ok (by have:=H1.out.len; omega)) ?_
 rintro e w2 ⟨rfl,ok2,k2⟩
 have H2:=hid (H1.out.next ok2 k2 (cO _))
 clear y1 y2 y3
 have y2:w2.cell? ⟨w.heap.size,2,none⟩=some (.int .i64 need):=H2.out.blk.cell 2
 have y3:w2.cell? ⟨w.heap.size,3,none⟩=some (.int .i64 tries):=H2.out.blk.cell 3
 clear ok2 k2 H1
 go_wp2_with fail
 refine Calls.mono (kD base g _ need _ Hx.out.need H2.out.ok (by have:=H2.out.len; omega)) ?_
 rintro e w3 ⟨rfl,ok3,k3⟩
 have H3:=hid (H2.out.next ok3 k3 (cO _))
 clear y2 y3
 have y3:w3.cell? ⟨w.heap.size,3,none⟩=some (.int .i64 tries):=H3.out.blk.cell 3
 clear ok3 k3 H2
 go_wp2_with fail
 refine Calls.mono (kD base g _ tries _ Hx.out.tries H3.out.ok (by have:=H3.out.len; omega)) ?_
 rintro e w4 ⟨rfl,ok4,k4⟩
 have H4:=hid (H3.out.next ok4 k4 (cO _))
 clear y3
 clear ok4 k4 H3
 go_wp2
 go_end0
 exact⟨rfl,by rw [aV.out]; exact H4.out.ok,H4.out.keep⟩
theorem IU (base g:Nat) (l:List UInt8) (x:aD) (v:Int) (w:World) (h1:1<v) (h2:2<v) (hx:u7 x) (h:fI w base g l) (hl:l.length≤90000000) :
 Calls Tryz.prog 62 #[.pointer (some ⟨g,0,none⟩),.agg (aL x).toArray,.int .i64 v] w (gy base g (l ++ eU x v) w):=by
 have d1:decide (1<v)=true:=decide_eq_true h1
 have d2:decide (2<v)=true:=decide_eq_true h2
 have Hx:=hid hx
 obtain⟨name,prio,need,tries,tag⟩:=x
 have aV:=hid (show l ++ eU ⟨name,prio,need,tries,tag⟩ v=l ++ fV name ++ bI (lV prio).toNat ++ bI (need).toNat ++ bI (tries).toNat ++ fV tag from by simp [eU,h1,h2])
 unfold aL
 have H0:=hid (WGo.start h 34 #[.string name,.int .i64 prio,.int .i64 need,.int .i64 tries,.string tag] (by decide))
 clear h hx h1 h2
 go_enter Tryz.func62,Tryz.ntmps62
 go_wp2_with fail
 refine Calls.mono (lJ base g _ name _ Hx.out.name H0.out.ok (by have:=H0.out.len; omega)) ?_
 rintro e w1 ⟨rfl,ok1,k1⟩
 have H1:=hid (H0.out.next ok1 k1 (dR _))
 have y1:w1.cell? ⟨w.heap.size,1,none⟩=some (.int .i64 prio):=H1.out.blk.cell 1
 have y2:w1.cell? ⟨w.heap.size,2,none⟩=some (.int .i64 need):=H1.out.blk.cell 2
 have y3:w1.cell? ⟨w.heap.size,3,none⟩=some (.int .i64 tries):=H1.out.blk.cell 3
 have y4:w1.cell? ⟨w.heap.size,4,none⟩=some (.string tag):=H1.out.blk.cell 4
 clear ok1 k1 H0
 go_wp2_with fail
 refine Calls.mono (uW base g _ prio _ Hx.out.prio H1.out.ok (by have:=H1.out.len; omega)) ?_
 rintro e w2 ⟨rfl,ok2,k2⟩
 have H2:=hid (H1.out.next ok2 k2 (cO _))
 clear y1 y2 y3 y4
 have y2:w2.cell? ⟨w.heap.size,2,none⟩=some (.int .i64 need):=H2.out.blk.cell 2
 have y3:w2.cell? ⟨w.heap.size,3,none⟩=some (.int .i64 tries):=H2.out.blk.cell 3
 have y4:w2.cell? ⟨w.heap.size,4,none⟩=some (.string tag):=H2.out.blk.cell 4
 clear ok2 k2 H1
 go_wp2_with fail
 refine Calls.mono (kD base g _ need _ Hx.out.need H2.out.ok (by have:=H2.out.len; omega)) ?_
 rintro e w3 ⟨rfl,ok3,k3⟩
 have H3:=hid (H2.out.next ok3 k3 (cO _))
 clear y2 y3 y4
 have y3:w3.cell? ⟨w.heap.size,3,none⟩=some (.int .i64 tries):=H3.out.blk.cell 3
 have y4:w3.cell? ⟨w.heap.size,4,none⟩=some (.string tag):=H3.out.blk.cell 4
 clear ok3 k3 H2
 go_wp2_with fail
 refine Calls.mono (kD base g _ tries _ Hx.out.tries H3.out.ok (by have:=H3.out.len; omega)) ?_
 rintro e w4 ⟨rfl,ok4,k4⟩
 have H4:=hid (H3.out.next ok4 k4 (cO _))
 clear y3 y4
 have y4:w4.cell? ⟨w.heap.size,4,none⟩=some (.string tag):=H4.out.blk.cell 4
 clear ok4 k4 H3
 go_wp2_with fail
 refine Calls.mono (lJ base g _ tag _ Hx.out.tag H4.out.ok (by have:=H4.out.len; omega)) ?_
 rintro e w5 ⟨rfl,ok5,k5⟩
 have H5:=hid (H4.out.next ok5 k5 (dR _))
 clear y4
 clear ok5 k5 H4
 go_wp2
 go_end0
 exact⟨rfl,by rw [aV.out]; exact H5.out.ok,H5.out.keep⟩
theorem GP (base g:Nat) (l:List UInt8) (x:aA) (v:Int) (w:World) (h1:¬ 1<v) (hx:tZ x) (h:fI w base g l) (hl:l.length≤90000000) :
 Calls Tryz.prog 65 #[.pointer (some ⟨g,0,none⟩),.agg (aC x).toArray,.int .i64 v] w (gy base g (l ++ gV x v) w):=by
 have d1:decide (1<v)=false:=decide_eq_false h1
 have Hx:=hid hx
 obtain⟨name,room,zone⟩:=x
 have aV:=hid (show l ++ gV ⟨name,room,zone⟩ v=l ++ fV name ++ bI (room).toNat from by simp [gV,h1])
 unfold aC
 have H0:=hid (WGo.start h 36 #[.string name,.int .i64 room,.string zone] (by decide))
 clear h hx h1
 go_enter Tryz.func65,Tryz.ntmps65
 go_wp2_with fail
 refine Calls.mono (lJ base g _ name _ Hx.out.name H0.out.ok (by have:=H0.out.len; omega)) ?_
 rintro e w1 ⟨rfl,ok1,k1⟩
 have H1:=hid (H0.out.next ok1 k1 (dR _))
 have y1:w1.cell? ⟨w.heap.size,1,none⟩=some (.int .i64 room):=H1.out.blk.cell 1
 clear ok1 k1 H0
 go_wp2_with fail
 refine Calls.mono (kD base g _ room _ Hx.out.room H1.out.ok (by have:=H1.out.len; omega)) ?_
 rintro e w2 ⟨rfl,ok2,k2⟩
 have H2:=hid (H1.out.next ok2 k2 (cO _))
 clear y1
 clear ok2 k2 H1
 go_wp2
 go_end0
 exact⟨rfl,by rw [aV.out]; exact H2.out.ok,H2.out.keep⟩
theorem GQ (base g:Nat) (l:List UInt8) (x:aA) (v:Int) (w:World) (h1:1<v) (hx:tZ x) (h:fI w base g l) (hl:l.length≤90000000) :
 Calls Tryz.prog 65 #[.pointer (some ⟨g,0,none⟩),.agg (aC x).toArray,.int .i64 v] w (gy base g (l ++ gV x v) w):=by
 have d1:decide (1<v)=true:=decide_eq_true h1
 have Hx:=hid hx
 obtain⟨name,room,zone⟩:=x
 have aV:=hid (show l ++ gV ⟨name,room,zone⟩ v=l ++ fV name ++ bI (room).toNat ++ fV zone from by simp [gV,h1])
 unfold aC
 have H0:=hid (WGo.start h 36 #[.string name,.int .i64 room,.string zone] (by decide))
 clear h hx h1
 go_enter Tryz.func65,Tryz.ntmps65
 go_wp2_with fail
 refine Calls.mono (lJ base g _ name _ Hx.out.name H0.out.ok (by have:=H0.out.len; omega)) ?_
 rintro e w1 ⟨rfl,ok1,k1⟩
 have H1:=hid (H0.out.next ok1 k1 (dR _))
 have y1:w1.cell? ⟨w.heap.size,1,none⟩=some (.int .i64 room):=H1.out.blk.cell 1
 have y2:w1.cell? ⟨w.heap.size,2,none⟩=some (.string zone):=H1.out.blk.cell 2
 clear ok1 k1 H0
 go_wp2_with fail
 refine Calls.mono (kD base g _ room _ Hx.out.room H1.out.ok (by have:=H1.out.len; omega)) ?_
 rintro e w2 ⟨rfl,ok2,k2⟩
 have H2:=hid (H1.out.next ok2 k2 (cO _))
 clear y1 y2
 have y2:w2.cell? ⟨w.heap.size,2,none⟩=some (.string zone):=H2.out.blk.cell 2
 clear ok2 k2 H1
 go_wp2_with fail
 refine Calls.mono (lJ base g _ zone _ Hx.out.zone H2.out.ok (by have:=H2.out.len; omega)) ?_
 rintro e w3 ⟨rfl,ok3,k3⟩
 have H3:=hid (H2.out.next ok3 k3 (dR _))
 clear y2
 clear ok3 k3 H2
 go_wp2
 go_end0
 exact⟨rfl,by rw [aV.out]; exact H3.out.ok,H3.out.keep⟩
theorem Bi (base g:Nat) (l:List UInt8) (x:ak) (w:World) (hx:wY x) (h:fI w base g l) (hl:l.length≤90000000) :
 Calls Tryz.prog 67 #[.pointer (some ⟨g,0,none⟩),.agg (av x).toArray] w (gy base g (l ++ gX x) w):=by
 have Hx:=hid hx
 obtain⟨job,node,till⟩:=x
 have aV:=hid (show l ++ gX ⟨job,node,till⟩=l ++ fV job ++ fV node ++ bI (till).toNat from by simp [gX])
 unfold av
 have H0:=hid (WGo.start h 38 #[.string job,.string node,.int .i64 till] (by decide))
 clear h hx
 go_enter Tryz.func67,Tryz.ntmps67
 go_wp2_with fail
 refine Calls.mono (lJ base g _ job _ Hx.out.job H0.out.ok (by have:=H0.out.len; omega)) ?_
 rintro e w1 ⟨rfl,ok1,k1⟩
 have H1:=hid (H0.out.next ok1 k1 (dR _))
 have y1:w1.cell? ⟨w.heap.size,1,none⟩=some (.string node):=H1.out.blk.cell 1
 have y2:w1.cell? ⟨w.heap.size,2,none⟩=some (.int .i64 till):=H1.out.blk.cell 2
 clear ok1 k1 H0
 go_wp2_with fail
 refine Calls.mono (lJ base g _ node _ Hx.out.node H1.out.ok (by have:=H1.out.len; omega)) ?_
 rintro e w2 ⟨rfl,ok2,k2⟩
 have H2:=hid (H1.out.next ok2 k2 (dR _))
 clear y1 y2
 have y2:w2.cell? ⟨w.heap.size,2,none⟩=some (.int .i64 till):=H2.out.blk.cell 2
 clear ok2 k2 H1
 go_wp2_with fail
 refine Calls.mono (kD base g _ till _ Hx.out.till H2.out.ok (by have:=H2.out.len; omega)) ?_
 rintro e w3 ⟨rfl,ok3,k3⟩
 have H3:=hid (H2.out.next ok3 k3 (cO _))
 clear y2
 clear ok3 k3 H2
 go_wp2
 go_end0
 exact⟨rfl,by rw [aV.out]; exact H3.out.ok,H3.out.keep⟩
theorem yh (base g:Nat) (l:List UInt8) (x:aD) (v:Int) (w:World) (hx:u7 x) (h:fI w base g l) (hl:l.length≤90000000) :
 Calls Tryz.prog 62 #[.pointer (some ⟨g,0,none⟩),.agg (aL x).toArray,.int .i64 v] w (gy base g (l ++ eU x v) w):=by
 by_cases h1:1<v
 · by_cases h2:2<v
   · exact IU base g l x v w h1 h2 hx h hl
   · exact IT base g l x v w h1 h2 hx h hl
 · exact IS base g l x v w h1 (by omega) hx h hl
theorem CQ (base g:Nat) (l:List UInt8) (x:aA) (v:Int) (w:World) (hx:tZ x) (h:fI w base g l) (hl:l.length≤90000000) :
 Calls Tryz.prog 65 #[.pointer (some ⟨g,0,none⟩),.agg (aC x).toArray,.int .i64 v] w (gy base g (l ++ gV x v) w):=by
 by_cases h1:1<v
 · exact GQ base g l x v w h1 hx h hl
 · exact GP base g l x v w h1 hx h hl
end Go.Proofs.YtoeejfhdjmkpcaaGreatDoor
