/- Of the proof of a statement: RcA. -/
import Derived.Test.YtjgnnobccecpeaaGreatDoorPDoA
set_option linter.unusedVariables false
set_option linter.unusedSimpArgs false
set_option maxRecDepth 100000
set_option maxHeartbeats 8000000
/- req.partOf: the part of a request that its kind names; the parts' into; req.whole: a request with its kind's part alone. -/
namespace Go.Proofs.YtjgnnobccecpeaaGreatDoor
open Go.Lib (hid)
open Go.RowKit
def PartPost (T t : TypeId) (cs : Array Value) (w : World) (e : Ending) (w' : World) : Prop :=
 ∃ P, e = .returned (.iface T (.pointer (some ⟨P, 0, none⟩))) ∧ w.heap.size ≤ P ∧ Blk w' P t cs ∧ Below w.heap.size w w'
def IntoPost (S : Nat) (q : ReqD) (w : World) (e : Ending) (w' : World) : Prop :=
 e = .returned (.tuple #[]) ∧ Blk w' S 44 (reqC q) ∧ (∀ g, g < w.heap.size → g ≠ S → w'.heap[g]? = w.heap[g]?) ∧ Below S w w'
def kindQ (k : Int) : ReqD := ⟨k, noJob, noNode, noLease, ⟨#[]⟩, 0⟩
theorem part_1 (q : ReqD) (w : World) (hq : q.kind = 1) : Calls Tryz.prog 105 #[reqA q] w (PartPost 247 249 #[.string q.job.name, .int .i64 q.job.prio, .int .i64 q.job.need, .int .i64 q.job.tries, .string q.job.tag] w) := by
 obtain ⟨W, hW⟩ : ∃ W, w.alloc (.cells (reqC q) 44) = W := ⟨_, rfl⟩
 have hb : Blk W w.heap.size 44 (reqC q) := by rw [← hW]; exact heap_alloc_new w _
 have hbW : Below w.heap.size w W := by rw [← hW]; exact (Below.refl _ _).alloc (Nat.le_refl _) _
 have h0 : W.cell? ⟨w.heap.size, 0, none⟩ = some (.int .i64 1) := by rw [hb.cell 0, ← hq]; rfl
 have h1 : W.cell? ⟨w.heap.size, 1, none⟩ = some (.string q.job.name) := hb.cell 1
 have h2 : W.cell? ⟨w.heap.size, 2, none⟩ = some (.int .i64 q.job.prio) := hb.cell 2
 have h3 : W.cell? ⟨w.heap.size, 3, none⟩ = some (.int .i64 q.job.need) := hb.cell 3
 have h4 : W.cell? ⟨w.heap.size, 4, none⟩ = some (.int .i64 q.job.tries) := hb.cell 4
 have h5 : W.cell? ⟨w.heap.size, 5, none⟩ = some (.string q.job.tag) := hb.cell 5
 have HbW := hid hbW
 unfold reqA
 unfold reqC at hW ⊢
 clear hq hb hbW
 go_enter Tryz.func105, Tryz.ntmps105
 go_wp2
 try rw [hW]
 clear hW
 go_ret
 exact ⟨_, rfl, HbW.out.size, heap_alloc_new W _, HbW.out.alloc HbW.out.size _⟩
theorem into_job (q : ReqD) (P S : Nat) (w : World) (hp : Blk w P 249 #[.string q.job.name, .int .i64 q.job.prio, .int .i64 q.job.need, .int .i64 q.job.tries, .string q.job.tag]) (hs : Blk w S 44 (reqC (kindQ q.kind))) : Calls Tryz.prog 380 #[.pointer (some ⟨P, 0, none⟩), .pointer (some ⟨S, 0, none⟩)] w (IntoPost S ⟨q.kind, q.job, noNode, noLease, ⟨#[]⟩, 0⟩ w) := by
 obtain ⟨p0, p1, p2, p3, p4⟩ := Blk.c5 (hp)
 have s1 : w.cell? ⟨S, 1, none⟩ = some (.string ⟨#[]⟩) := hs.cell 1
 have s2 : w.cell? ⟨S, 2, none⟩ = some (.int .i64 0) := hs.cell 2
 have s3 : w.cell? ⟨S, 3, none⟩ = some (.int .i64 0) := hs.cell 3
 have s4 : w.cell? ⟨S, 4, none⟩ = some (.int .i64 0) := hs.cell 4
 have s5 : w.cell? ⟨S, 5, none⟩ = some (.string ⟨#[]⟩) := hs.cell 5
 have z1 : w.frozen? ⟨S, 1, none⟩ = false := hs.thaw 1
 have z2 : w.frozen? ⟨S, 2, none⟩ = false := hs.thaw 2
 have z3 : w.frozen? ⟨S, 3, none⟩ = false := hs.thaw 3
 have z4 : w.frozen? ⟨S, 4, none⟩ = false := hs.thaw 4
 have z5 : w.frozen? ⟨S, 5, none⟩ = false := hs.thaw 5
 have hlp := hp.lt
 have hls := hs.lt
 have Hs := hid hs
 clear hp hs
 go_enter Tryz.func380, Tryz.ntmps380
 go_wp2
 go_end0
 exact ⟨rfl, Blk.eq (Blk.set (Blk.set (Blk.set (Blk.set (Blk.set Hs.out 1 _) 2 _) 3 _) 4 _) 5 _) rfl, fun g hg hne => (Below.heap_setCell _ ⟨S, 5, none⟩ _ g hne).trans ((Below.heap_setCell _ ⟨S, 4, none⟩ _ g hne).trans ((Below.heap_setCell _ ⟨S, 3, none⟩ _ g hne).trans ((Below.heap_setCell _ ⟨S, 2, none⟩ _ g hne).trans ((Below.heap_setCell _ ⟨S, 1, none⟩ _ g hne).trans (rfl))))), below_setB (below_setB (below_setB (below_setB (below_setB (Below.refl _ _) (Nat.le_refl _)) (Nat.le_refl _)) (Nat.le_refl _)) (Nat.le_refl _)) (Nat.le_refl _)⟩
theorem part_2 (q : ReqD) (w : World) (hq : q.kind = 2) : Calls Tryz.prog 105 #[reqA q] w (PartPost 250 252 #[.string q.node.name, .int .i64 q.node.room, .string q.node.zone] w) := by
 obtain ⟨W, hW⟩ : ∃ W, w.alloc (.cells (reqC q) 44) = W := ⟨_, rfl⟩
 have hb : Blk W w.heap.size 44 (reqC q) := by rw [← hW]; exact heap_alloc_new w _
 have hbW : Below w.heap.size w W := by rw [← hW]; exact (Below.refl _ _).alloc (Nat.le_refl _) _
 have h0 : W.cell? ⟨w.heap.size, 0, none⟩ = some (.int .i64 2) := by rw [hb.cell 0, ← hq]; rfl
 have h6 : W.cell? ⟨w.heap.size, 6, none⟩ = some (.string q.node.name) := hb.cell 6
 have h7 : W.cell? ⟨w.heap.size, 7, none⟩ = some (.int .i64 q.node.room) := hb.cell 7
 have h8 : W.cell? ⟨w.heap.size, 8, none⟩ = some (.string q.node.zone) := hb.cell 8
 have HbW := hid hbW
 unfold reqA
 unfold reqC at hW ⊢
 clear hq hb hbW
 go_enter Tryz.func105, Tryz.ntmps105
 go_wp2
 try rw [hW]
 clear hW
 go_ret
 exact ⟨_, rfl, HbW.out.size, heap_alloc_new W _, HbW.out.alloc HbW.out.size _⟩
theorem into_node (q : ReqD) (P S : Nat) (w : World) (hp : Blk w P 252 #[.string q.node.name, .int .i64 q.node.room, .string q.node.zone]) (hs : Blk w S 44 (reqC (kindQ q.kind))) : Calls Tryz.prog 384 #[.pointer (some ⟨P, 0, none⟩), .pointer (some ⟨S, 0, none⟩)] w (IntoPost S ⟨q.kind, noJob, q.node, noLease, ⟨#[]⟩, 0⟩ w) := by
 have p0 : w.cell? ⟨P, 0, none⟩ = some (.string q.node.name) := hp.cell 0
 have p1 : w.cell? ⟨P, 1, none⟩ = some (.int .i64 q.node.room) := hp.cell 1
 have p2 : w.cell? ⟨P, 2, none⟩ = some (.string q.node.zone) := hp.cell 2
 have s6 : w.cell? ⟨S, 6, none⟩ = some (.string ⟨#[]⟩) := hs.cell 6
 have s7 : w.cell? ⟨S, 7, none⟩ = some (.int .i64 0) := hs.cell 7
 have s8 : w.cell? ⟨S, 8, none⟩ = some (.string ⟨#[]⟩) := hs.cell 8
 have z6 : w.frozen? ⟨S, 6, none⟩ = false := hs.thaw 6
 have z7 : w.frozen? ⟨S, 7, none⟩ = false := hs.thaw 7
 have z8 : w.frozen? ⟨S, 8, none⟩ = false := hs.thaw 8
 have hlp := hp.lt
 have hls := hs.lt
 have Hs := hid hs
 clear hp hs
 go_enter Tryz.func384, Tryz.ntmps384
 go_wp2
 go_end0
 exact ⟨rfl, Blk.eq (Blk.set (Blk.set (Blk.set Hs.out 6 _) 7 _) 8 _) rfl, fun g hg hne => (Below.heap_setCell _ ⟨S, 8, none⟩ _ g hne).trans ((Below.heap_setCell _ ⟨S, 7, none⟩ _ g hne).trans ((Below.heap_setCell _ ⟨S, 6, none⟩ _ g hne).trans (rfl))), below_setB (below_setB (below_setB (Below.refl _ _) (Nat.le_refl _)) (Nat.le_refl _)) (Nat.le_refl _)⟩
theorem part_5 (q : ReqD) (w : World) (hq : q.kind = 5) : Calls Tryz.prog 105 #[reqA q] w (PartPost 253 255 #[.string q.lease.job, .string q.lease.node, .int .i64 q.lease.till] w) := by
 obtain ⟨W, hW⟩ : ∃ W, w.alloc (.cells (reqC q) 44) = W := ⟨_, rfl⟩
 have hb : Blk W w.heap.size 44 (reqC q) := by rw [← hW]; exact heap_alloc_new w _
 have hbW : Below w.heap.size w W := by rw [← hW]; exact (Below.refl _ _).alloc (Nat.le_refl _) _
 have h0 : W.cell? ⟨w.heap.size, 0, none⟩ = some (.int .i64 5) := by rw [hb.cell 0, ← hq]; rfl
 have h9 : W.cell? ⟨w.heap.size, 9, none⟩ = some (.string q.lease.job) := hb.cell 9
 have h10 : W.cell? ⟨w.heap.size, 10, none⟩ = some (.string q.lease.node) := hb.cell 10
 have h11 : W.cell? ⟨w.heap.size, 11, none⟩ = some (.int .i64 q.lease.till) := hb.cell 11
 have HbW := hid hbW
 unfold reqA
 unfold reqC at hW ⊢
 clear hq hb hbW
 go_enter Tryz.func105, Tryz.ntmps105
 go_wp2
 try rw [hW]
 clear hW
 go_ret
 exact ⟨_, rfl, HbW.out.size, heap_alloc_new W _, HbW.out.alloc HbW.out.size _⟩
theorem into_lease (q : ReqD) (P S : Nat) (w : World) (hp : Blk w P 255 #[.string q.lease.job, .string q.lease.node, .int .i64 q.lease.till]) (hs : Blk w S 44 (reqC (kindQ q.kind))) : Calls Tryz.prog 388 #[.pointer (some ⟨P, 0, none⟩), .pointer (some ⟨S, 0, none⟩)] w (IntoPost S ⟨q.kind, noJob, noNode, q.lease, ⟨#[]⟩, 0⟩ w) := by
 have p0 : w.cell? ⟨P, 0, none⟩ = some (.string q.lease.job) := hp.cell 0
 have p1 : w.cell? ⟨P, 1, none⟩ = some (.string q.lease.node) := hp.cell 1
 have p2 : w.cell? ⟨P, 2, none⟩ = some (.int .i64 q.lease.till) := hp.cell 2
 have s9 : w.cell? ⟨S, 9, none⟩ = some (.string ⟨#[]⟩) := hs.cell 9
 have s10 : w.cell? ⟨S, 10, none⟩ = some (.string ⟨#[]⟩) := hs.cell 10
 have s11 : w.cell? ⟨S, 11, none⟩ = some (.int .i64 0) := hs.cell 11
 have z9 : w.frozen? ⟨S, 9, none⟩ = false := hs.thaw 9
 have z10 : w.frozen? ⟨S, 10, none⟩ = false := hs.thaw 10
 have z11 : w.frozen? ⟨S, 11, none⟩ = false := hs.thaw 11
 have hlp := hp.lt
 have hls := hs.lt
 have Hs := hid hs
 clear hp hs
 go_enter Tryz.func388, Tryz.ntmps388
 go_wp2
 go_end0
 exact ⟨rfl, Blk.eq (Blk.set (Blk.set (Blk.set Hs.out 9 _) 10 _) 11 _) rfl, fun g hg hne => (Below.heap_setCell _ ⟨S, 11, none⟩ _ g hne).trans ((Below.heap_setCell _ ⟨S, 10, none⟩ _ g hne).trans ((Below.heap_setCell _ ⟨S, 9, none⟩ _ g hne).trans (rfl))), below_setB (below_setB (below_setB (Below.refl _ _) (Nat.le_refl _)) (Nat.le_refl _)) (Nat.le_refl _)⟩
theorem part_3 (q : ReqD) (w : World) (hq : q.kind = 3) : Calls Tryz.prog 105 #[reqA q] w (PartPost 257 256 #[.string q.name] w) := by
 obtain ⟨W, hW⟩ : ∃ W, w.alloc (.cells (reqC q) 44) = W := ⟨_, rfl⟩
 have hb : Blk W w.heap.size 44 (reqC q) := by rw [← hW]; exact heap_alloc_new w _
 have hbW : Below w.heap.size w W := by rw [← hW]; exact (Below.refl _ _).alloc (Nat.le_refl _) _
 have h0 : W.cell? ⟨w.heap.size, 0, none⟩ = some (.int .i64 3) := by rw [hb.cell 0, ← hq]; rfl
 have h12 : W.cell? ⟨w.heap.size, 12, none⟩ = some (.string q.name) := hb.cell 12
 have HbW := hid hbW
 unfold reqA
 unfold reqC at hW ⊢
 clear hq hb hbW
 go_enter Tryz.func105, Tryz.ntmps105
 go_wp2
 try rw [hW]
 clear hW
 go_ret
 exact ⟨_, rfl, HbW.out.size, heap_alloc_new W _, HbW.out.alloc HbW.out.size _⟩
theorem part_4 (q : ReqD) (w : World) (hq : q.kind = 4) : Calls Tryz.prog 105 #[reqA q] w (PartPost 257 256 #[.string q.name] w) := by
 obtain ⟨W, hW⟩ : ∃ W, w.alloc (.cells (reqC q) 44) = W := ⟨_, rfl⟩
 have hb : Blk W w.heap.size 44 (reqC q) := by rw [← hW]; exact heap_alloc_new w _
 have hbW : Below w.heap.size w W := by rw [← hW]; exact (Below.refl _ _).alloc (Nat.le_refl _) _
 have h0 : W.cell? ⟨w.heap.size, 0, none⟩ = some (.int .i64 4) := by rw [hb.cell 0, ← hq]; rfl
 have h12 : W.cell? ⟨w.heap.size, 12, none⟩ = some (.string q.name) := hb.cell 12
 have HbW := hid hbW
 unfold reqA
 unfold reqC at hW ⊢
 clear hq hb hbW
 go_enter Tryz.func105, Tryz.ntmps105
 go_wp2
 try rw [hW]
 clear hW
 go_ret
 exact ⟨_, rfl, HbW.out.size, heap_alloc_new W _, HbW.out.alloc HbW.out.size _⟩
theorem part_6 (q : ReqD) (w : World) (hq : q.kind = 6) : Calls Tryz.prog 105 #[reqA q] w (PartPost 257 256 #[.string q.name] w) := by
 obtain ⟨W, hW⟩ : ∃ W, w.alloc (.cells (reqC q) 44) = W := ⟨_, rfl⟩
 have hb : Blk W w.heap.size 44 (reqC q) := by rw [← hW]; exact heap_alloc_new w _
 have hbW : Below w.heap.size w W := by rw [← hW]; exact (Below.refl _ _).alloc (Nat.le_refl _) _
 have h0 : W.cell? ⟨w.heap.size, 0, none⟩ = some (.int .i64 6) := by rw [hb.cell 0, ← hq]; rfl
 have h12 : W.cell? ⟨w.heap.size, 12, none⟩ = some (.string q.name) := hb.cell 12
 have HbW := hid hbW
 unfold reqA
 unfold reqC at hW ⊢
 clear hq hb hbW
 go_enter Tryz.func105, Tryz.ntmps105
 go_wp2
 try rw [hW]
 clear hW
 go_ret
 exact ⟨_, rfl, HbW.out.size, heap_alloc_new W _, HbW.out.alloc HbW.out.size _⟩
theorem into_name (q : ReqD) (P S : Nat) (w : World) (hp : Blk w P 256 #[.string q.name]) (hs : Blk w S 44 (reqC (kindQ q.kind))) : Calls Tryz.prog 393 #[.pointer (some ⟨P, 0, none⟩), .pointer (some ⟨S, 0, none⟩)] w (IntoPost S ⟨q.kind, noJob, noNode, noLease, q.name, 0⟩ w) := by
 have p0 : w.cell? ⟨P, 0, none⟩ = some (.string q.name) := hp.cell 0
 have s12 : w.cell? ⟨S, 12, none⟩ = some (.string ⟨#[]⟩) := hs.cell 12
 have z12 : w.frozen? ⟨S, 12, none⟩ = false := hs.thaw 12
 have hlp := hp.lt
 have hls := hs.lt
 have Hs := hid hs
 clear hp hs
 go_enter Tryz.func393, Tryz.ntmps393
 go_wp2
 go_end0
 exact ⟨rfl, Blk.eq (Blk.set Hs.out 12 _) rfl, fun g hg hne => (Below.heap_setCell _ ⟨S, 12, none⟩ _ g hne).trans (rfl), below_setB (Below.refl _ _) (Nat.le_refl _)⟩
theorem part_7 (q : ReqD) (w : World) (hq : q.kind = 7) : Calls Tryz.prog 105 #[reqA q] w (PartPost 259 258 #[.int .i64 q.n] w) := by
 obtain ⟨W, hW⟩ : ∃ W, w.alloc (.cells (reqC q) 44) = W := ⟨_, rfl⟩
 have hb : Blk W w.heap.size 44 (reqC q) := by rw [← hW]; exact heap_alloc_new w _
 have hbW : Below w.heap.size w W := by rw [← hW]; exact (Below.refl _ _).alloc (Nat.le_refl _) _
 have h0 : W.cell? ⟨w.heap.size, 0, none⟩ = some (.int .i64 7) := by rw [hb.cell 0, ← hq]; rfl
 have h13 : W.cell? ⟨w.heap.size, 13, none⟩ = some (.int .i64 q.n) := hb.cell 13
 have HbW := hid hbW
 unfold reqA
 unfold reqC at hW ⊢
 clear hq hb hbW
 go_enter Tryz.func105, Tryz.ntmps105
 go_wp2
 try rw [hW]
 clear hW
 go_ret
 exact ⟨_, rfl, HbW.out.size, heap_alloc_new W _, HbW.out.alloc HbW.out.size _⟩
theorem into_count (q : ReqD) (P S : Nat) (w : World) (hp : Blk w P 258 #[.int .i64 q.n]) (hs : Blk w S 44 (reqC (kindQ q.kind))) : Calls Tryz.prog 397 #[.pointer (some ⟨P, 0, none⟩), .pointer (some ⟨S, 0, none⟩)] w (IntoPost S ⟨q.kind, noJob, noNode, noLease, ⟨#[]⟩, q.n⟩ w) := by
 have p0 : w.cell? ⟨P, 0, none⟩ = some (.int .i64 q.n) := hp.cell 0
 have s13 : w.cell? ⟨S, 13, none⟩ = some (.int .i64 0) := hs.cell 13
 have z13 : w.frozen? ⟨S, 13, none⟩ = false := hs.thaw 13
 have hlp := hp.lt
 have hls := hs.lt
 have Hs := hid hs
 clear hp hs
 go_enter Tryz.func397, Tryz.ntmps397
 go_wp2
 go_end0
 exact ⟨rfl, Blk.eq (Blk.set Hs.out 13 _) rfl, fun g hg hne => (Below.heap_setCell _ ⟨S, 13, none⟩ _ g hne).trans (rfl), below_setB (Below.refl _ _) (Nat.le_refl _)⟩
end Go.Proofs.YtjgnnobccecpeaaGreatDoor
