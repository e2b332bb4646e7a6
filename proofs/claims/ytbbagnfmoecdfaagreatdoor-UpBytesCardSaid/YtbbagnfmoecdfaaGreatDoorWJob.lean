/- The walks of a Writer's rows: a job, a node, a lease. -/
import Derived.Test.YtbbagnfmoecdfaaGreatDoorWri
import Derived.Test.YtbbagnfmoecdfaaGreatDoorBase
set_option linter.unusedVariables false
set_option linter.unusedSimpArgs false
namespace Go.Proofs.YtbbagnfmoecdfaaGreatDoor
open Go.RowKit
def txtL (s : ByteArray) : List UInt8 := (txtF s).1.data.toList
theorem txtL_len (s : ByteArray) : (txtL s).length ≤ 17 := by
  have hts : (txtF s).1.size ≤ 17 := by
    unfold txtF
    split
    · show (0:Nat) ≤ 17; omega
    · split
      · rw [ByteArray.size_append]; show 1 + s.size ≤ 17; omega
      · show (0:Nat) ≤ 17; omega
  unfold txtL
  rw [Array.length_toList]
  exact hts
theorem numL_len (n : Nat) : (numL n).length ≤ 17 := by have := numL_length n; omega
theorem Tabs.base {w w' : World} {B : Nat} (h : Tabs w) (h3 : ren.g 3 < B) (h4 : ren.g 4 < B) (hb : Below B w w') : Tabs w' :=
  ⟨fun c hc => (hb.cell h3).trans (h.1 c hc), fun i hi => ⟨(hb.cell h4).trans (h.2 i hi).1, (hb.cell h4).trans (h.2 i hi).2⟩⟩
structure WrOk (w : World) (base g : Nat) (l : List UInt8) : Prop where
  at_ : WrAt w base g l
  tabs : Tabs w
  g3 : ren.g 3 < base
  g4 : ren.g 4 < base
  size : base ≤ w.heap.size
theorem WrOk.next {w w' : World} {base g : Nat} {l l' : List UInt8} (h : WrOk w base g l) (ha : WrAt w' base g l') (hk : WKeep base g w w') : WrOk w' base g l' :=
  ⟨ha, h.tabs.base h.g3 h.g4 (hk.below ha.1 h.size), h.g3, h.g4, Nat.le_trans h.size hk.size⟩
theorem WrOk.below {w w' : World} {base g : Nat} {l : List UInt8} (h : WrOk w base g l) (hb : Below w.heap.size w w') : WrOk w' base g l :=
  h.next (h.at_.below hb) (WKeep.of_below hb)
/-- What a call of a writer's method leaves. -/
def WOPost (base g : Nat) (l : List UInt8) (w : World) (e : Ending) (w' : World) : Prop := e = .returned (.tuple #[]) ∧ WrOk w' base g l ∧ WKeep base g w w'
theorem wtextO (base g : Nat) (l : List UInt8) (s : ByteArray) (w : World) (hs : s.size ≤ 9223372036854775807) (h : WrOk w base g l) (hl : l.length ≤ 100000000) :
    Calls Tryz.prog 219 #[.pointer (some ⟨g, 0, none⟩), .string s] w (WOPost base g (l ++ txtL s) w) := by
  refine Calls.mono (wtext_any base g l s w hs h.tabs h.at_ hl h.size) ?_
  rintro e w' ⟨he, ha, hk⟩
  exact ⟨he, h.next ha hk, hk⟩
theorem wnumO (base g : Nat) (l : List UInt8) (n : Int) (w : World) (hs : 0 ≤ n ∧ n ≤ 9223372036854775807) (h : WrOk w base g l) (hl : l.length ≤ 100000000) :
    Calls Tryz.prog 122 #[.pointer (some ⟨g, 0, none⟩), .int .i64 n] w (WOPost base g (l ++ numL n.toNat) w) := by
  refine Calls.mono (wnum_any base g l n w hs.1 hs.2 h.at_ hl) ?_
  rintro e w' ⟨he, ha, hk⟩
  exact ⟨he, h.next ha hk, hk⟩
theorem wsignedO (base g : Nat) (l : List UInt8) (n : Int) (w : World) (hs : -9223372036854775808 ≤ n ∧ n ≤ 9223372036854775807) (h : WrOk w base g l) (hl : l.length ≤ 100000000) :
    Calls Tryz.prog 220 #[.pointer (some ⟨g, 0, none⟩), .int .i64 n] w (WOPost base g (l ++ numL (zigZ n).toNat) w) := by
  refine Calls.mono (wsigned_any base g l n w hs.1 hs.2 h.at_ hl h.size) ?_
  rintro e w' ⟨he, ha, hk⟩
  exact ⟨he, h.next ha hk, hk⟩
/-- On the way: the writer has written l; a block of the call's own stands as it was. -/
structure WGo (w0 w : World) (base g : Nat) (l : List UInt8) (n : Nat) (t : TypeId) (cs : Array Value) (N : Nat) : Prop where
  ok : WrOk w base g l
  keep : WKeep base g w0 w
  blk : Blk w n t cs
  ht : t ≠ 5
  ne : n ≠ g
  len : l.length ≤ N
theorem WGo.next {w0 w w' : World} {base g n N : Nat} {l k : List UInt8} {t : TypeId} {cs : Array Value} (h : WGo w0 w base g l n t cs N) (ha : WrOk w' base g (l ++ k)) (hk : WKeep base g w w') (hkl : k.length ≤ 17) : WGo w0 w' base g (l ++ k) n t cs (N + 17) :=
  ⟨ha, h.keep.trans hk, hk.blk h.blk h.ht h.ne, h.ht, h.ne, by have := h.len; rw [List.length_append]; omega⟩
theorem WGo.start {w : World} {base g : Nat} {l : List UInt8} (h : WrOk w base g l) (t : TypeId) (cs : Array Value) (ht : t ≠ 5) : WGo w (w.alloc (.cells cs t)) base g l w.heap.size t cs l.length :=
  have hb : Below w.heap.size w (w.alloc (.cells cs t)) := (Below.refl _ _).alloc (Nat.le_refl _) _
  ⟨h.below hb, WKeep.of_below hb, by show (w.heap.push (.cells cs t))[w.heap.size]? = _; simp, ht, Nat.ne_of_gt h.at_.lt, Nat.le_refl _⟩
def jobL (j : JobD) (v : Int) : List UInt8 := txtL j.name ++ numL (zigZ j.prio).toNat ++ numL j.need.toNat ++ (if 1 < v then numL j.tries.toNat else []) ++ (if 2 < v then txtL j.tag else [])
def nodeL (n : NodeD) (v : Int) : List UInt8 := txtL n.name ++ numL n.room.toNat ++ (if 1 < v then txtL n.zone else [])
def leaseL (l : LeaseD) : List UInt8 := txtL l.job ++ txtL l.node ++ numL l.till.toNat
structure JobW (j : JobD) : Prop where
  name : j.name.size ≤ 9223372036854775807
  prio : -9223372036854775808 ≤ j.prio ∧ j.prio ≤ 9223372036854775807
  need : 0 ≤ j.need ∧ j.need ≤ 9223372036854775807
  tries : 0 ≤ j.tries ∧ j.tries ≤ 9223372036854775807
  tag : j.tag.size ≤ 9223372036854775807
structure NodeW (n : NodeD) : Prop where
  name : n.name.size ≤ 9223372036854775807
  room : 0 ≤ n.room ∧ n.room ≤ 9223372036854775807
  zone : n.zone.size ≤ 9223372036854775807
structure LeaseW (l : LeaseD) : Prop where
  job : l.job.size ≤ 9223372036854775807
  node : l.node.size ≤ 9223372036854775807
  till : 0 ≤ l.till ∧ l.till ≤ 9223372036854775807
theorem jobL_len (j : JobD) (v : Int) : (jobL j v).length ≤ 85 := by
  have h1 := txtL_len j.name
  have h2 := numL_len (zigZ j.prio).toNat
  have h3 := numL_len j.need.toNat
  have h4 := numL_len j.tries.toNat
  have h5 := txtL_len j.tag
  unfold jobL
  split <;> split <;> simp only [List.length_append, List.length_nil] <;> omega
theorem nodeL_len (n : NodeD) (v : Int) : (nodeL n v).length ≤ 85 := by
  have h1 := txtL_len n.name
  have h3 := numL_len n.room.toNat
  have h5 := txtL_len n.zone
  unfold nodeL
  split <;> simp only [List.length_append, List.length_nil] <;> omega
theorem leaseL_len (l : LeaseD) : (leaseL l).length ≤ 85 := by
  have h1 := txtL_len l.job
  have h3 := numL_len l.till.toNat
  have h5 := txtL_len l.node
  unfold leaseL
  simp only [List.length_append] <;> omega
set_option maxRecDepth 100000 in
set_option maxHeartbeats 2000000 in
theorem wjob_0 (base g : Nat) (l : List UInt8) (x : JobD) (v : Int) (w : World) (h1 : ¬ 1 < v) (h2 : ¬ 2 < v) (hx : JobW x) (h : WrOk w base g l) (hl : l.length ≤ 90000000) :
    Calls Tryz.prog 125 #[.pointer (some ⟨g, 0, none⟩), .agg (jobV x).toArray, .int .i64 v] w (WOPost base g (l ++ jobL x v) w) := by
  have d1 : decide (1 < v) = false := decide_eq_false h1
  have d2 : decide (2 < v) = false := decide_eq_false h2
  have Hx := Lib.hid hx
  obtain ⟨name, prio, need, tries, tag⟩ := x
  have Hfin := Lib.hid (show l ++ jobL ⟨name, prio, need, tries, tag⟩ v = l ++ txtL name ++ numL (zigZ prio).toNat ++ numL (need).toNat from by simp [jobL, h1, h2])
  unfold jobV
  have H0 := Lib.hid (WGo.start h 41 #[.string name, .int .i64 prio, .int .i64 need, .int .i64 tries, .string tag] (by decide))
  clear h hx h1 h2
  go_enter Tryz.func125, Tryz.ntmps125
  go_wp2_with fail
  refine Calls.mono (wtextO base g _ name _ Hx.out.name H0.out.ok (by have := H0.out.len; omega)) ?_
  rintro e w1 ⟨rfl, ok1, k1⟩
  have H1 := Lib.hid (H0.out.next ok1 k1 (txtL_len _))
  have y1 : w1.cell? ⟨w.heap.size, 1, none⟩ = some (.int .i64 prio) := H1.out.blk.cell 1
  have y2 : w1.cell? ⟨w.heap.size, 2, none⟩ = some (.int .i64 need) := H1.out.blk.cell 2
  clear ok1 k1 H0
  go_wp2_with fail
  refine Calls.mono (wsignedO base g _ prio _ Hx.out.prio H1.out.ok (by have := H1.out.len; omega)) ?_
  rintro e w2 ⟨rfl, ok2, k2⟩
  have H2 := Lib.hid (H1.out.next ok2 k2 (numL_len _))
  clear y1 y2
  have y2 : w2.cell? ⟨w.heap.size, 2, none⟩ = some (.int .i64 need) := H2.out.blk.cell 2
  clear ok2 k2 H1
  go_wp2_with fail
  refine Calls.mono (wnumO base g _ need _ Hx.out.need H2.out.ok (by have := H2.out.len; omega)) ?_
  rintro e w3 ⟨rfl, ok3, k3⟩
  have H3 := Lib.hid (H2.out.next ok3 k3 (numL_len _))
  clear y2
  clear ok3 k3 H2
  go_wp2
  go_end0
  exact ⟨rfl, by rw [Hfin.out]; exact H3.out.ok, H3.out.keep⟩
set_option maxRecDepth 100000 in
set_option maxHeartbeats 2000000 in
theorem wjob_1 (base g : Nat) (l : List UInt8) (x : JobD) (v : Int) (w : World) (h1 : 1 < v) (h2 : ¬ 2 < v) (hx : JobW x) (h : WrOk w base g l) (hl : l.length ≤ 90000000) :
    Calls Tryz.prog 125 #[.pointer (some ⟨g, 0, none⟩), .agg (jobV x).toArray, .int .i64 v] w (WOPost base g (l ++ jobL x v) w) := by
  have d1 : decide (1 < v) = true := decide_eq_true h1
  have d2 : decide (2 < v) = false := decide_eq_false h2
  have Hx := Lib.hid hx
  obtain ⟨name, prio, need, tries, tag⟩ := x
  have Hfin := Lib.hid (show l ++ jobL ⟨name, prio, need, tries, tag⟩ v = l ++ txtL name ++ numL (zigZ prio).toNat ++ numL (need).toNat ++ numL (tries).toNat from by simp [jobL, h1, h2])
  unfold jobV
  have H0 := Lib.hid (WGo.start h 41 #[.string name, .int .i64 prio, .int .i64 need, .int .i64 tries, .string tag] (by decide))
  clear h hx h1 h2
  go_enter Tryz.func125, Tryz.ntmps125
  go_wp2_with fail
  refine Calls.mono (wtextO base g _ name _ Hx.out.name H0.out.ok (by have := H0.out.len; omega)) ?_
  rintro e w1 ⟨rfl, ok1, k1⟩
  have H1 := Lib.hid (H0.out.next ok1 k1 (txtL_len _))
  have y1 : w1.cell? ⟨w.heap.size, 1, none⟩ = some (.int .i64 prio) := H1.out.blk.cell 1
  have y2 : w1.cell? ⟨w.heap.size, 2, none⟩ = some (.int .i64 need) := H1.out.blk.cell 2
  have y3 : w1.cell? ⟨w.heap.size, 3, none⟩ = some (.int .i64 tries) := H1.out.blk.cell 3
  clear ok1 k1 H0
  go_wp2_with fail
  refine Calls.mono (wsignedO base g _ prio _ Hx.out.prio H1.out.ok (by have := H1.out.len; omega)) ?_
  rintro e w2 ⟨rfl, ok2, k2⟩
  have H2 := Lib.hid (H1.out.next ok2 k2 (numL_len _))
  clear y1 y2 y3
  have y2 : w2.cell? ⟨w.heap.size, 2, none⟩ = some (.int .i64 need) := H2.out.blk.cell 2
  have y3 : w2.cell? ⟨w.heap.size, 3, none⟩ = some (.int .i64 tries) := H2.out.blk.cell 3
  clear ok2 k2 H1
  go_wp2_with fail
  refine Calls.mono (wnumO base g _ need _ Hx.out.need H2.out.ok (by have := H2.out.len; omega)) ?_
  rintro e w3 ⟨rfl, ok3, k3⟩
  have H3 := Lib.hid (H2.out.next ok3 k3 (numL_len _))
  clear y2 y3
  have y3 : w3.cell? ⟨w.heap.size, 3, none⟩ = some (.int .i64 tries) := H3.out.blk.cell 3
  clear ok3 k3 H2
  go_wp2_with fail
  refine Calls.mono (wnumO base g _ tries _ Hx.out.tries H3.out.ok (by have := H3.out.len; omega)) ?_
  rintro e w4 ⟨rfl, ok4, k4⟩
  have H4 := Lib.hid (H3.out.next ok4 k4 (numL_len _))
  clear y3
  clear ok4 k4 H3
  go_wp2
  go_end0
  exact ⟨rfl, by rw [Hfin.out]; exact H4.out.ok, H4.out.keep⟩
set_option maxRecDepth 100000 in
set_option maxHeartbeats 2000000 in
theorem wjob_2 (base g : Nat) (l : List UInt8) (x : JobD) (v : Int) (w : World) (h1 : 1 < v) (h2 : 2 < v) (hx : JobW x) (h : WrOk w base g l) (hl : l.length ≤ 90000000) :
    Calls Tryz.prog 125 #[.pointer (some ⟨g, 0, none⟩), .agg (jobV x).toArray, .int .i64 v] w (WOPost base g (l ++ jobL x v) w) := by
  have d1 : decide (1 < v) = true := decide_eq_true h1
  have d2 : decide (2 < v) = true := decide_eq_true h2
  have Hx := Lib.hid hx
  obtain ⟨name, prio, need, tries, tag⟩ := x
  have Hfin := Lib.hid (show l ++ jobL ⟨name, prio, need, tries, tag⟩ v = l ++ txtL name ++ numL (zigZ prio).toNat ++ numL (need).toNat ++ numL (tries).toNat ++ txtL tag from by simp [jobL, h1, h2])
  unfold jobV
  have H0 := Lib.hid (WGo.start h 41 #[.string name, .int .i64 prio, .int .i64 need, .int .i64 tries, .string tag] (by decide))
  clear h hx h1 h2
  go_enter Tryz.func125, Tryz.ntmps125
  go_wp2_with fail
  refine Calls.mono (wtextO base g _ name _ Hx.out.name H0.out.ok (by have := H0.out.len; omega)) ?_
  rintro e w1 ⟨rfl, ok1, k1⟩
  have H1 := Lib.hid (H0.out.next ok1 k1 (txtL_len _))
  have y1 : w1.cell? ⟨w.heap.size, 1, none⟩ = some (.int .i64 prio) := H1.out.blk.cell 1
  have y2 : w1.cell? ⟨w.heap.size, 2, none⟩ = some (.int .i64 need) := H1.out.blk.cell 2
  have y3 : w1.cell? ⟨w.heap.size, 3, none⟩ = some (.int .i64 tries) := H1.out.blk.cell 3
  have y4 : w1.cell? ⟨w.heap.size, 4, none⟩ = some (.string tag) := H1.out.blk.cell 4
  clear ok1 k1 H0
  go_wp2_with fail
  refine Calls.mono (wsignedO base g _ prio _ Hx.out.prio H1.out.ok (by have := H1.out.len; omega)) ?_
  rintro e w2 ⟨rfl, ok2, k2⟩
  have H2 := Lib.hid (H1.out.next ok2 k2 (numL_len _))
  clear y1 y2 y3 y4
  have y2 : w2.cell? ⟨w.heap.size, 2, none⟩ = some (.int .i64 need) := H2.out.blk.cell 2
  have y3 : w2.cell? ⟨w.heap.size, 3, none⟩ = some (.int .i64 tries) := H2.out.blk.cell 3
  have y4 : w2.cell? ⟨w.heap.size, 4, none⟩ = some (.string tag) := H2.out.blk.cell 4
  clear ok2 k2 H1
  go_wp2_with fail
  refine Calls.mono (wnumO base g _ need _ Hx.out.need H2.out.ok (by have := H2.out.len; omega)) ?_
  rintro e w3 ⟨rfl, ok3, k3⟩
  have H3 := Lib.hid (H2.out.next ok3 k3 (numL_len _))
  clear y2 y3 y4
  have y3 : w3.cell? ⟨w.heap.size, 3, none⟩ = some (.int .i64 tries) := H3.out.blk.cell 3
  have y4 : w3.cell? ⟨w.heap.size, 4, none⟩ = some (.string tag) := H3.out.blk.cell 4
  clear ok3 k3 H2
  go_wp2_with fail
  refine Calls.mono (wnumO base g _ tries _ Hx.out.tries H3.out.ok (by have := H3.out.len; omega)) ?_
  rintro e w4 ⟨rfl, ok4, k4⟩
  have H4 := Lib.hid (H3.out.next ok4 k4 (numL_len _))
  clear y3 y4
  have y4 : w4.cell? ⟨w.heap.size, 4, none⟩ = some (.string tag) := H4.out.blk.cell 4
  clear ok4 k4 H3
  go_wp2_with fail
  refine Calls.mono (wtextO base g _ tag _ Hx.out.tag H4.out.ok (by have := H4.out.len; omega)) ?_
  rintro e w5 ⟨rfl, ok5, k5⟩
  have H5 := Lib.hid (H4.out.next ok5 k5 (txtL_len _))
  clear y4
  clear ok5 k5 H4
  go_wp2
  go_end0
  exact ⟨rfl, by rw [Hfin.out]; exact H5.out.ok, H5.out.keep⟩
set_option maxRecDepth 100000 in
set_option maxHeartbeats 2000000 in
theorem wnode_0 (base g : Nat) (l : List UInt8) (x : NodeD) (v : Int) (w : World) (h1 : ¬ 1 < v) (hx : NodeW x) (h : WrOk w base g l) (hl : l.length ≤ 90000000) :
    Calls Tryz.prog 128 #[.pointer (some ⟨g, 0, none⟩), .agg (nodeV x).toArray, .int .i64 v] w (WOPost base g (l ++ nodeL x v) w) := by
  have d1 : decide (1 < v) = false := decide_eq_false h1
  have Hx := Lib.hid hx
  obtain ⟨name, room, zone⟩ := x
  have Hfin := Lib.hid (show l ++ nodeL ⟨name, room, zone⟩ v = l ++ txtL name ++ numL (room).toNat from by simp [nodeL, h1])
  unfold nodeV
  have H0 := Lib.hid (WGo.start h 43 #[.string name, .int .i64 room, .string zone] (by decide))
  clear h hx h1
  go_enter Tryz.func128, Tryz.ntmps128
  go_wp2_with fail
  refine Calls.mono (wtextO base g _ name _ Hx.out.name H0.out.ok (by have := H0.out.len; omega)) ?_
  rintro e w1 ⟨rfl, ok1, k1⟩
  have H1 := Lib.hid (H0.out.next ok1 k1 (txtL_len _))
  have y1 : w1.cell? ⟨w.heap.size, 1, none⟩ = some (.int .i64 room) := H1.out.blk.cell 1
  clear ok1 k1 H0
  go_wp2_with fail
  refine Calls.mono (wnumO base g _ room _ Hx.out.room H1.out.ok (by have := H1.out.len; omega)) ?_
  rintro e w2 ⟨rfl, ok2, k2⟩
  have H2 := Lib.hid (H1.out.next ok2 k2 (numL_len _))
  clear y1
  clear ok2 k2 H1
  go_wp2
  go_end0
  exact ⟨rfl, by rw [Hfin.out]; exact H2.out.ok, H2.out.keep⟩
set_option maxRecDepth 100000 in
set_option maxHeartbeats 2000000 in
theorem wnode_1 (base g : Nat) (l : List UInt8) (x : NodeD) (v : Int) (w : World) (h1 : 1 < v) (hx : NodeW x) (h : WrOk w base g l) (hl : l.length ≤ 90000000) :
    Calls Tryz.prog 128 #[.pointer (some ⟨g, 0, none⟩), .agg (nodeV x).toArray, .int .i64 v] w (WOPost base g (l ++ nodeL x v) w) := by
  have d1 : decide (1 < v) = true := decide_eq_true h1
  have Hx := Lib.hid hx
  obtain ⟨name, room, zone⟩ := x
  have Hfin := Lib.hid (show l ++ nodeL ⟨name, room, zone⟩ v = l ++ txtL name ++ numL (room).toNat ++ txtL zone from by simp [nodeL, h1])
  unfold nodeV
  have H0 := Lib.hid (WGo.start h 43 #[.string name, .int .i64 room, .string zone] (by decide))
  clear h hx h1
  go_enter Tryz.func128, Tryz.ntmps128
  go_wp2_with fail
  refine Calls.mono (wtextO base g _ name _ Hx.out.name H0.out.ok (by have := H0.out.len; omega)) ?_
  rintro e w1 ⟨rfl, ok1, k1⟩
  have H1 := Lib.hid (H0.out.next ok1 k1 (txtL_len _))
  have y1 : w1.cell? ⟨w.heap.size, 1, none⟩ = some (.int .i64 room) := H1.out.blk.cell 1
  have y2 : w1.cell? ⟨w.heap.size, 2, none⟩ = some (.string zone) := H1.out.blk.cell 2
  clear ok1 k1 H0
  go_wp2_with fail
  refine Calls.mono (wnumO base g _ room _ Hx.out.room H1.out.ok (by have := H1.out.len; omega)) ?_
  rintro e w2 ⟨rfl, ok2, k2⟩
  have H2 := Lib.hid (H1.out.next ok2 k2 (numL_len _))
  clear y1 y2
  have y2 : w2.cell? ⟨w.heap.size, 2, none⟩ = some (.string zone) := H2.out.blk.cell 2
  clear ok2 k2 H1
  go_wp2_with fail
  refine Calls.mono (wtextO base g _ zone _ Hx.out.zone H2.out.ok (by have := H2.out.len; omega)) ?_
  rintro e w3 ⟨rfl, ok3, k3⟩
  have H3 := Lib.hid (H2.out.next ok3 k3 (txtL_len _))
  clear y2
  clear ok3 k3 H2
  go_wp2
  go_end0
  exact ⟨rfl, by rw [Hfin.out]; exact H3.out.ok, H3.out.keep⟩
set_option maxRecDepth 100000 in
set_option maxHeartbeats 2000000 in
theorem wlease_any (base g : Nat) (l : List UInt8) (x : LeaseD) (w : World) (hx : LeaseW x) (h : WrOk w base g l) (hl : l.length ≤ 90000000) :
    Calls Tryz.prog 130 #[.pointer (some ⟨g, 0, none⟩), .agg (leaseV x).toArray] w (WOPost base g (l ++ leaseL x) w) := by
  have Hx := Lib.hid hx
  obtain ⟨job, node, till⟩ := x
  have Hfin := Lib.hid (show l ++ leaseL ⟨job, node, till⟩ = l ++ txtL job ++ txtL node ++ numL (till).toNat from by simp [leaseL])
  unfold leaseV
  have H0 := Lib.hid (WGo.start h 45 #[.string job, .string node, .int .i64 till] (by decide))
  clear h hx
  go_enter Tryz.func130, Tryz.ntmps130
  go_wp2_with fail
  refine Calls.mono (wtextO base g _ job _ Hx.out.job H0.out.ok (by have := H0.out.len; omega)) ?_
  rintro e w1 ⟨rfl, ok1, k1⟩
  have H1 := Lib.hid (H0.out.next ok1 k1 (txtL_len _))
  have y1 : w1.cell? ⟨w.heap.size, 1, none⟩ = some (.string node) := H1.out.blk.cell 1
  have y2 : w1.cell? ⟨w.heap.size, 2, none⟩ = some (.int .i64 till) := H1.out.blk.cell 2
  clear ok1 k1 H0
  go_wp2_with fail
  refine Calls.mono (wtextO base g _ node _ Hx.out.node H1.out.ok (by have := H1.out.len; omega)) ?_
  rintro e w2 ⟨rfl, ok2, k2⟩
  have H2 := Lib.hid (H1.out.next ok2 k2 (txtL_len _))
  clear y1 y2
  have y2 : w2.cell? ⟨w.heap.size, 2, none⟩ = some (.int .i64 till) := H2.out.blk.cell 2
  clear ok2 k2 H1
  go_wp2_with fail
  refine Calls.mono (wnumO base g _ till _ Hx.out.till H2.out.ok (by have := H2.out.len; omega)) ?_
  rintro e w3 ⟨rfl, ok3, k3⟩
  have H3 := Lib.hid (H2.out.next ok3 k3 (numL_len _))
  clear y2
  clear ok3 k3 H2
  go_wp2
  go_end0
  exact ⟨rfl, by rw [Hfin.out]; exact H3.out.ok, H3.out.keep⟩
theorem wjob_any (base g : Nat) (l : List UInt8) (x : JobD) (v : Int) (w : World) (hx : JobW x) (h : WrOk w base g l) (hl : l.length ≤ 90000000) :
    Calls Tryz.prog 125 #[.pointer (some ⟨g, 0, none⟩), .agg (jobV x).toArray, .int .i64 v] w (WOPost base g (l ++ jobL x v) w) := by
  by_cases h1 : 1 < v
  · by_cases h2 : 2 < v
    · exact wjob_2 base g l x v w h1 h2 hx h hl
    · exact wjob_1 base g l x v w h1 h2 hx h hl
  · exact wjob_0 base g l x v w h1 (by omega) hx h hl
theorem wnode_any (base g : Nat) (l : List UInt8) (x : NodeD) (v : Int) (w : World) (hx : NodeW x) (h : WrOk w base g l) (hl : l.length ≤ 90000000) :
    Calls Tryz.prog 128 #[.pointer (some ⟨g, 0, none⟩), .agg (nodeV x).toArray, .int .i64 v] w (WOPost base g (l ++ nodeL x v) w) := by
  by_cases h1 : 1 < v
  · exact wnode_1 base g l x v w h1 hx h hl
  · exact wnode_0 base g l x v w h1 hx h hl
end Go.Proofs.YtbbagnfmoecdfaaGreatDoor
