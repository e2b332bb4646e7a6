/- Of the proof of a statement: WJob. -/
import Derived.Test.YtbllgmociapjeaaGreatDoorVRq
set_option linter.unusedVariables false
set_option linter.unusedSimpArgs false
set_option maxRecDepth 100000
set_option maxHeartbeats 8000000
/- The walks of a Writer's rows: a job, a node, a lease. -/
namespace Go.Proofs.YtbllgmociapjeaaGreatDoor
open Go.Lib (hid)
open Go.RowKit
def dN (s:ByteArray):List UInt8:=(rN s).1.data.toList
theorem cU (s:ByteArray):(dN s).length≤17:=by
 have hts:(rN s).1.size≤17:=by
  unfold rN
  split
  · show (0:Nat)≤17; omega
  · split
    · rw [ByteArray.size_append]; show 1+s.size≤17; omega
    · show (0:Nat)≤17; omega
 unfold dN
 rw [Array.length_toList]
 exact hts
theorem cJ (n:Nat):(aO n).length≤17:=by have:=cH n; omega
theorem Tabs.base {w w':World} {B:Nat} (h:Tabs w) (h3:ren.g 3<B) (h4:ren.g 4<B) (hb:Below B w w'):Tabs w':=
 ⟨fun c hc=>(hb.cell h3).trans (h.1 c hc),fun i hi=>⟨(hb.cell h4).trans (h.2 i hi).1,(hb.cell h4).trans (h.2 i hi).2⟩⟩
structure dQ (w:World) (base g:Nat) (l:List UInt8):Prop where
 at_:oL w base g l
 tabs:Tabs w
 g3:ren.g 3<base
 g4:ren.g 4<base
 size:base≤w.heap.size
theorem dQ.next {w w':World} {base g:Nat} {l l':List UInt8} (h:dQ w base g l) (ha:oL w' base g l') (hk:cD base g w w'):dQ w' base g l':=
 ⟨ha,h.tabs.base h.g3 h.g4 (hk.below ha.1 h.size),h.g3,h.g4,Nat.le_trans h.size hk.size⟩
theorem dQ.below {w w':World} {base g:Nat} {l:List UInt8} (h:dQ w base g l) (hb:Below w.heap.size w w'):dQ w' base g l:=
 h.next (h.at_.below hb) (cD.of_below hb)
def dY (base g:Nat) (l:List UInt8) (w:World) (e:Ending) (w':World):Prop:=e = .returned (.tuple #[])∧dQ w' base g l∧cD base g w w'
theorem lU (base g:Nat) (l:List UInt8) (s:ByteArray) (w:World) (hs:s.size≤9223372036854775807) (h:dQ w base g l) (hl:l.length≤100000000) :
 Calls Tryz.prog 183 #[.pointer (some ⟨g,0,none⟩),.string s] w (dY base g (l ++ dN s) w):=by
 refine Calls.mono (E9 base g l s w hs h.tabs h.at_ hl h.size) ?_
 rintro e w' ⟨he,ha,hk⟩
 exact⟨he,h.next ha hk,hk⟩
theorem jq (base g:Nat) (l:List UInt8) (n:Int) (w:World) (hs:0≤n∧n≤9223372036854775807) (h:dQ w base g l) (hl:l.length≤100000000) :
 Calls Tryz.prog 55 #[.pointer (some ⟨g,0,none⟩),.int .i64 n] w (dY base g (l ++ aO n.toNat) w):=by
 refine Calls.mono (wS base g l n w hs.1 hs.2 h.at_ hl) ?_
 rintro e w' ⟨he,ha,hk⟩
 exact⟨he,h.next ha hk,hk⟩
theorem wU (base g:Nat) (l:List UInt8) (n:Int) (w:World) (hs : -9223372036854775808≤n∧n≤9223372036854775807) (h:dQ w base g l) (hl:l.length≤100000000) :
 Calls Tryz.prog 218 #[.pointer (some ⟨g,0,none⟩),.int .i64 n] w (dY base g (l ++ aO (mT n).toNat) w):=by
 refine Calls.mono (Bd base g l n w hs.1 hs.2 h.at_ hl h.size) ?_
 rintro e w' ⟨he,ha,hk⟩
 exact⟨he,h.next ha hk,hk⟩
structure WGo (w0 w:World) (base g:Nat) (l:List UInt8) (n:Nat) (t:TypeId) (cs:Array Value) (N:Nat):Prop where
 ok:dQ w base g l
 keep:cD base g w0 w
 blk:Blk w n t cs
 ht:t ≠ 5
 ne:n≠g
 len:l.length≤N
theorem WGo.next {w0 w w':World} {base g n N:Nat} {l k:List UInt8} {t:TypeId} {cs:Array Value} (h:WGo w0 w base g l n t cs N) (ha:dQ w' base g (l ++ k)) (hk:cD base g w w') (hkl:k.length≤17):WGo w0 w' base g (l ++ k) n t cs (N+17):=
 ⟨ha,h.keep.trans hk,hk.blk h.blk h.ht h.ne,h.ht,h.ne,by have:=h.len; rw [List.length_append]; omega⟩
theorem WGo.start {w:World} {base g:Nat} {l:List UInt8} (h:dQ w base g l) (t:TypeId) (cs:Array Value) (ht:t ≠ 5):WGo w (w.alloc (.cells cs t)) base g l w.heap.size t cs l.length:=
 have hb:Below w.heap.size w (w.alloc (.cells cs t)):=(Below.refl _ _).alloc (Nat.le_refl _) _
 ⟨h.below hb,cD.of_below hb,by show (w.heap.push (.cells cs t))[w.heap.size]? = _; simp,ht,Nat.ne_of_gt h.at_.lt,Nat.le_refl _⟩
def eG (j:aC) (v:Int):List UInt8:=dN j.name ++ aO (mT j.prio).toNat ++ aO j.need.toNat ++ (if 1<v then aO j.tries.toNat else []) ++ (if 2<v then dN j.tag else [])
def cN (n:aA) (v:Int):List UInt8:=dN n.name ++ aO n.room.toNat ++ (if 1<v then dN n.zone else [])
def dL (l:ak):List UInt8:=dN l.job ++ dN l.node ++ aO l.till.toNat
structure ug (j:aC):Prop where
 name:j.name.size≤9223372036854775807
 prio : -9223372036854775808≤j.prio∧j.prio≤9223372036854775807
 need:0≤j.need∧j.need≤9223372036854775807
 tries:0≤j.tries∧j.tries≤9223372036854775807
 tag:j.tag.size≤9223372036854775807
structure oh (n:aA):Prop where
 name:n.name.size≤9223372036854775807
 room:0≤n.room∧n.room≤9223372036854775807
 zone:n.zone.size≤9223372036854775807
structure sG (l:ak):Prop where
 job:l.job.size≤9223372036854775807
 node:l.node.size≤9223372036854775807
 till:0≤l.till∧l.till≤9223372036854775807
theorem lA (j:aC) (v:Int):(eG j v).length≤85:=by
 have h1:=cU j.name
 have h2:=cJ (mT j.prio).toNat
 have h3:=cJ j.need.toNat
 have h4:=cJ j.tries.toNat
 have h5:=cU j.tag
 unfold eG
 split <;> split <;> simp only [List.length_append,List.length_nil] <;> omega
theorem jF (n:aA) (v:Int):(cN n v).length≤85:=by
 have h1:=cU n.name
 have h3:=cJ n.room.toNat
 have h5:=cU n.zone
 unfold cN
 split <;> simp only [List.length_append,List.length_nil] <;> omega
theorem jG (l:ak):(dL l).length≤85:=by
 have h1:=cU l.job
 have h3:=cJ l.till.toNat
 have h5:=cU l.node
 unfold dL
 simp only [List.length_append] <;> omega
theorem Lm (base g:Nat) (l:List UInt8) (x:aC) (v:Int) (w:World) (h1:¬ 1<v) (h2:¬ 2<v) (hx:ug x) (h:dQ w base g l) (hl:l.length≤90000000) :
 Calls Tryz.prog 176 #[.pointer (some ⟨g,0,none⟩),.agg (aI x).toArray,.int .i64 v] w (dY base g (l ++ eG x v) w):=by
 have d1:decide (1<v)=false:=decide_eq_false h1
 have d2:decide (2<v)=false:=decide_eq_false h2
 have Hx:=hid hx
 obtain⟨name,prio,need,tries,tag⟩:=x
 have bI:=hid (show l ++ eG ⟨name,prio,need,tries,tag⟩ v=l ++ dN name ++ aO (mT prio).toNat ++ aO (need).toNat from by simp [eG,h1,h2])
 unfold aI
 have H0:=hid (WGo.start h 32 #[.string name,.int .i64 prio,.int .i64 need,.int .i64 tries,.string tag] (by decide))
 clear h hx h1 h2
 go_enter Tryz.func176,Tryz.ntmps176
 go_wp2_with fail
 refine Calls.mono (lU base g _ name _ Hx.out.name H0.out.ok (by have:=H0.out.len; omega)) ?_
 rintro e w1 ⟨rfl,ok1,k1⟩
 have H1:=hid (H0.out.next ok1 k1 (cU _))
 have y1:w1.cell? ⟨w.heap.size,1,none⟩=some (.int .i64 prio):=H1.out.blk.cell 1
 have y2:w1.cell? ⟨w.heap.size,2,none⟩=some (.int .i64 need):=H1.out.blk.cell 2
 clear ok1 k1 H0
 go_wp2_with fail
 refine Calls.mono (wU base g _ prio _ Hx.out.prio H1.out.ok (by have:=H1.out.len; omega)) ?_
 rintro e w2 ⟨rfl,ok2,k2⟩
 have H2:=hid (H1.out.next ok2 k2 (cJ _))
 clear y1 y2
 have y2:w2.cell? ⟨w.heap.size,2,none⟩=some (.int .i64 need):=H2.out.blk.cell 2
 clear ok2 k2 H1
 go_wp2_with fail
 refine Calls.mono (jq base g _ need _ Hx.out.need H2.out.ok (by have:=H2.out.len; omega)) ?_
 rintro e w3 ⟨rfl,ok3,k3⟩
 have H3:=hid (H2.out.next ok3 k3 (cJ _))
 clear y2
 clear ok3 k3 H2
 go_wp2
 go_end0
 exact⟨rfl,by rw [bI.out]; exact H3.out.ok,H3.out.keep⟩
theorem Ln (base g:Nat) (l:List UInt8) (x:aC) (v:Int) (w:World) (h1:1<v) (h2:¬ 2<v) (hx:ug x) (h:dQ w base g l) (hl:l.length≤90000000) :
 Calls Tryz.prog 176 #[.pointer (some ⟨g,0,none⟩),.agg (aI x).toArray,.int .i64 v] w (dY base g (l ++ eG x v) w):=by
 have d1:decide (1<v)=true:=decide_eq_true h1
 have d2:decide (2<v)=false:=decide_eq_false h2
 have Hx:=hid hx
 obtain⟨name,prio,need,tries,tag⟩:=x
 have bI:=hid (show l ++ eG ⟨name,prio,need,tries,tag⟩ v=l ++ dN name ++ aO (mT prio).toNat ++ aO (need).toNat ++ aO (tries).toNat from by simp [eG,h1,h2])
 unfold aI
 have H0:=hid (WGo.start h 32 #[.string name,.int .i64 prio,.int .i64 need,.int .i64 tries,.string tag] (by decide))
 clear h hx h1 h2
 go_enter Tryz.func176,Tryz.ntmps176
 go_wp2_with fail
 refine Calls.mono (lU base g _ name _ Hx.out.name H0.out.ok (by have:=H0.out.len; omega)) ?_
 rintro e w1 ⟨rfl,ok1,k1⟩
 have H1:=hid (H0.out.next ok1 k1 (cU _))
 have y1:w1.cell? ⟨w.heap.size,1,none⟩=some (.int .i64 prio):=H1.out.blk.cell 1
 have y2:w1.cell? ⟨w.heap.size,2,none⟩=some (.int .i64 need):=H1.out.blk.cell 2
 have y3:w1.cell? ⟨w.heap.size,3,none⟩=some (.int .i64 tries):=H1.out.blk.cell 3
 clear ok1 k1 H0
 go_wp2_with fail
 refine Calls.mono (wU base g _ prio _ Hx.out.prio H1.out.ok (by have:=H1.out.len; omega)) ?_
 rintro e w2 ⟨rfl,ok2,k2⟩
 have H2:=hid (H1.out.next ok2 k2 (cJ _))
 clear y1 y2 y3
 have y2:w2.cell? ⟨w.heap.size,2,none⟩=some (.int .i64 need):=H2.out.blk.cell 2
 have y3:w2.cell? ⟨w.heap.size,3,none⟩=some (.int .i64 tries):=H2.out.blk.cell 3
 clear ok2 k2 H1
 go_wp2_with fail
 refine Calls.mono (jq base g _ need _ Hx.out.need H2.out.ok (by have:=H2.out.len; omega)) ?_
 rintro e w3 ⟨rfl,ok3,k3⟩
 have H3:=hid (H2.out.next ok3 k3 (cJ _))
 clear y2 y3
 have y3:w3.cell? ⟨w.heap.size,3,none⟩=some (.int .i64 tries):=H3.out.blk.cell 3
 clear ok3 k3 H2
 go_wp2_with fail
 refine Calls.mono (jq base g _ tries _ Hx.out.tries H3.out.ok (by have:=H3.out.len; omega)) ?_
 rintro e w4 ⟨rfl,ok4,k4⟩
 have H4:=hid (H3.out.next ok4 k4 (cJ _))
 clear y3
 clear ok4 k4 H3
 go_wp2
 go_end0
 exact⟨rfl,by rw [bI.out]; exact H4.out.ok,H4.out.keep⟩
theorem Ct (base g:Nat) (l:List UInt8) (x:aC) (v:Int) (w:World) (h1:1<v) (h2:2<v) (hx:ug x) (h:dQ w base g l) (hl:l.length≤90000000) :
 Calls Tryz.prog 176 #[.pointer (some ⟨g,0,none⟩),.agg (aI x).toArray,.int .i64 v] w (dY base g (l ++ eG x v) w):=by
 have d1:decide (1<v)=true:=decide_eq_true h1
 have d2:decide (2<v)=true:=decide_eq_true h2
 have Hx:=hid hx
 obtain⟨name,prio,need,tries,tag⟩:=x
 have bI:=hid (show l ++ eG ⟨name,prio,need,tries,tag⟩ v=l ++ dN name ++ aO (mT prio).toNat ++ aO (need).toNat ++ aO (tries).toNat ++ dN tag from by simp [eG,h1,h2])
 unfold aI
 have H0:=hid (WGo.start h 32 #[.string name,.int .i64 prio,.int .i64 need,.int .i64 tries,.string tag] (by decide))
 clear h hx h1 h2
 go_enter Tryz.func176,Tryz.ntmps176
 go_wp2_with fail
 refine Calls.mono (lU base g _ name _ Hx.out.name H0.out.ok (by have:=H0.out.len; omega)) ?_
 rintro e w1 ⟨rfl,ok1,k1⟩
 have H1:=hid (H0.out.next ok1 k1 (cU _))
 have y1:w1.cell? ⟨w.heap.size,1,none⟩=some (.int .i64 prio):=H1.out.blk.cell 1
 have y2:w1.cell? ⟨w.heap.size,2,none⟩=some (.int .i64 need):=H1.out.blk.cell 2
 have y3:w1.cell? ⟨w.heap.size,3,none⟩=some (.int .i64 tries):=H1.out.blk.cell 3
 have y4:w1.cell? ⟨w.heap.size,4,none⟩=some (.string tag):=H1.out.blk.cell 4
 clear ok1 k1 H0
 go_wp2_with fail
 refine Calls.mono (wU base g _ prio _ Hx.out.prio H1.out.ok (by have:=H1.out.len; omega)) ?_
 rintro e w2 ⟨rfl,ok2,k2⟩
 have H2:=hid (H1.out.next ok2 k2 (cJ _))
 clear y1 y2 y3 y4
 have y2:w2.cell? ⟨w.heap.size,2,none⟩=some (.int .i64 need):=H2.out.blk.cell 2
 have y3:w2.cell? ⟨w.heap.size,3,none⟩=some (.int .i64 tries):=H2.out.blk.cell 3
 have y4:w2.cell? ⟨w.heap.size,4,none⟩=some (.string tag):=H2.out.blk.cell 4
 clear ok2 k2 H1
 go_wp2_with fail
 refine Calls.mono (jq base g _ need _ Hx.out.need H2.out.ok (by have:=H2.out.len; omega)) ?_
 rintro e w3 ⟨rfl,ok3,k3⟩
 have H3:=hid (H2.out.next ok3 k3 (cJ _))
 clear y2 y3 y4
 have y3:w3.cell? ⟨w.heap.size,3,none⟩=some (.int .i64 tries):=H3.out.blk.cell 3
 have y4:w3.cell? ⟨w.heap.size,4,none⟩=some (.string tag):=H3.out.blk.cell 4
 clear ok3 k3 H2
 go_wp2_with fail
 refine Calls.mono (jq base g _ tries _ Hx.out.tries H3.out.ok (by have:=H3.out.len; omega)) ?_
 rintro e w4 ⟨rfl,ok4,k4⟩
 have H4:=hid (H3.out.next ok4 k4 (cJ _))
 clear y3 y4
 have y4:w4.cell? ⟨w.heap.size,4,none⟩=some (.string tag):=H4.out.blk.cell 4
 clear ok4 k4 H3
 go_wp2_with fail
 refine Calls.mono (lU base g _ tag _ Hx.out.tag H4.out.ok (by have:=H4.out.len; omega)) ?_
 rintro e w5 ⟨rfl,ok5,k5⟩
 have H5:=hid (H4.out.next ok5 k5 (cU _))
 clear y4
 clear ok5 k5 H4
 go_wp2
 go_end0
 exact⟨rfl,by rw [bI.out]; exact H5.out.ok,H5.out.keep⟩
theorem J6 (base g:Nat) (l:List UInt8) (x:aA) (v:Int) (w:World) (h1:¬ 1<v) (hx:oh x) (h:dQ w base g l) (hl:l.length≤90000000) :
 Calls Tryz.prog 179 #[.pointer (some ⟨g,0,none⟩),.agg (aB x).toArray,.int .i64 v] w (dY base g (l ++ cN x v) w):=by
 have d1:decide (1<v)=false:=decide_eq_false h1
 have Hx:=hid hx
 obtain⟨name,room,zone⟩:=x
 have bI:=hid (show l ++ cN ⟨name,room,zone⟩ v=l ++ dN name ++ aO (room).toNat from by simp [cN,h1])
 unfold aB
 have H0:=hid (WGo.start h 34 #[.string name,.int .i64 room,.string zone] (by decide))
 clear h hx h1
 go_enter Tryz.func179,Tryz.ntmps179
 go_wp2_with fail
 refine Calls.mono (lU base g _ name _ Hx.out.name H0.out.ok (by have:=H0.out.len; omega)) ?_
 rintro e w1 ⟨rfl,ok1,k1⟩
 have H1:=hid (H0.out.next ok1 k1 (cU _))
 have y1:w1.cell? ⟨w.heap.size,1,none⟩=some (.int .i64 room):=H1.out.blk.cell 1
 clear ok1 k1 H0
 go_wp2_with fail
 refine Calls.mono (jq base g _ room _ Hx.out.room H1.out.ok (by have:=H1.out.len; omega)) ?_
 rintro e w2 ⟨rfl,ok2,k2⟩
 have H2:=hid (H1.out.next ok2 k2 (cJ _))
 clear y1
 clear ok2 k2 H1
 go_wp2
 go_end0
 exact⟨rfl,by rw [bI.out]; exact H2.out.ok,H2.out.keep⟩
theorem za (base g:Nat) (l:List UInt8) (x:aA) (v:Int) (w:World) (h1:1<v) (hx:oh x) (h:dQ w base g l) (hl:l.length≤90000000) :
 Calls Tryz.prog 179 #[.pointer (some ⟨g,0,none⟩),.agg (aB x).toArray,.int .i64 v] w (dY base g (l ++ cN x v) w):=by
 have d1:decide (1<v)=true:=decide_eq_true h1
 have Hx:=hid hx
 obtain⟨name,room,zone⟩:=x
 have bI:=hid (show l ++ cN ⟨name,room,zone⟩ v=l ++ dN name ++ aO (room).toNat ++ dN zone from by simp [cN,h1])
 unfold aB
 have H0:=hid (WGo.start h 34 #[.string name,.int .i64 room,.string zone] (by decide))
 clear h hx h1
 go_enter Tryz.func179,Tryz.ntmps179
 go_wp2_with fail
 refine Calls.mono (lU base g _ name _ Hx.out.name H0.out.ok (by have:=H0.out.len; omega)) ?_
 rintro e w1 ⟨rfl,ok1,k1⟩
 have H1:=hid (H0.out.next ok1 k1 (cU _))
 have y1:w1.cell? ⟨w.heap.size,1,none⟩=some (.int .i64 room):=H1.out.blk.cell 1
 have y2:w1.cell? ⟨w.heap.size,2,none⟩=some (.string zone):=H1.out.blk.cell 2
 clear ok1 k1 H0
 go_wp2_with fail
 refine Calls.mono (jq base g _ room _ Hx.out.room H1.out.ok (by have:=H1.out.len; omega)) ?_
 rintro e w2 ⟨rfl,ok2,k2⟩
 have H2:=hid (H1.out.next ok2 k2 (cJ _))
 clear y1 y2
 have y2:w2.cell? ⟨w.heap.size,2,none⟩=some (.string zone):=H2.out.blk.cell 2
 clear ok2 k2 H1
 go_wp2_with fail
 refine Calls.mono (lU base g _ zone _ Hx.out.zone H2.out.ok (by have:=H2.out.len; omega)) ?_
 rintro e w3 ⟨rfl,ok3,k3⟩
 have H3:=hid (H2.out.next ok3 k3 (cU _))
 clear y2
 clear ok3 k3 H2
 go_wp2
 go_end0
 exact⟨rfl,by rw [bI.out]; exact H3.out.ok,H3.out.keep⟩
theorem wQ (base g:Nat) (l:List UInt8) (x:ak) (w:World) (hx:sG x) (h:dQ w base g l) (hl:l.length≤90000000) :
 Calls Tryz.prog 181 #[.pointer (some ⟨g,0,none⟩),.agg (av x).toArray] w (dY base g (l ++ dL x) w):=by
 have Hx:=hid hx
 obtain⟨job,node,till⟩:=x
 have bI:=hid (show l ++ dL ⟨job,node,till⟩=l ++ dN job ++ dN node ++ aO (till).toNat from by simp [dL])
 unfold av
 have H0:=hid (WGo.start h 36 #[.string job,.string node,.int .i64 till] (by decide))
 clear h hx
 go_enter Tryz.func181,Tryz.ntmps181
 go_wp2_with fail
 refine Calls.mono (lU base g _ job _ Hx.out.job H0.out.ok (by have:=H0.out.len; omega)) ?_
 rintro e w1 ⟨rfl,ok1,k1⟩
 have H1:=hid (H0.out.next ok1 k1 (cU _))
 have y1:w1.cell? ⟨w.heap.size,1,none⟩=some (.string node):=H1.out.blk.cell 1
 have y2:w1.cell? ⟨w.heap.size,2,none⟩=some (.int .i64 till):=H1.out.blk.cell 2
 clear ok1 k1 H0
 go_wp2_with fail
 refine Calls.mono (lU base g _ node _ Hx.out.node H1.out.ok (by have:=H1.out.len; omega)) ?_
 rintro e w2 ⟨rfl,ok2,k2⟩
 have H2:=hid (H1.out.next ok2 k2 (cU _))
 clear y1 y2
 have y2:w2.cell? ⟨w.heap.size,2,none⟩=some (.int .i64 till):=H2.out.blk.cell 2
 clear ok2 k2 H1
 go_wp2_with fail
 refine Calls.mono (jq base g _ till _ Hx.out.till H2.out.ok (by have:=H2.out.len; omega)) ?_
 rintro e w3 ⟨rfl,ok3,k3⟩
 have H3:=hid (H2.out.next ok3 k3 (cJ _))
 clear y2
 clear ok3 k3 H2
 go_wp2
 go_end0
 exact⟨rfl,by rw [bI.out]; exact H3.out.ok,H3.out.keep⟩
theorem IF (base g:Nat) (l:List UInt8) (x:aC) (v:Int) (w:World) (hx:ug x) (h:dQ w base g l) (hl:l.length≤90000000) :
 Calls Tryz.prog 176 #[.pointer (some ⟨g,0,none⟩),.agg (aI x).toArray,.int .i64 v] w (dY base g (l ++ eG x v) w):=by
 by_cases h1:1<v
 · by_cases h2:2<v
   · exact Ct base g l x v w h1 h2 hx h hl
   · exact Ln base g l x v w h1 h2 hx h hl
 · exact Lm base g l x v w h1 (by omega) hx h hl
theorem Ff (base g:Nat) (l:List UInt8) (x:aA) (v:Int) (w:World) (hx:oh x) (h:dQ w base g l) (hl:l.length≤90000000) :
 Calls Tryz.prog 179 #[.pointer (some ⟨g,0,none⟩),.agg (aB x).toArray,.int .i64 v] w (dY base g (l ++ cN x v) w):=by
 by_cases h1:1<v
 · exact za base g l x v w h1 hx h hl
 · exact J6 base g l x v w h1 hx h hl
end Go.Proofs.YtbllgmociapjeaaGreatDoor
