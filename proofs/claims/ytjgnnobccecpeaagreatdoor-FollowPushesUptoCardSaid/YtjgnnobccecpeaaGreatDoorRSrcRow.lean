/- Of the proof of a statement: SrcRow. -/
import Derived.Test.YtjgnnobccecpeaaGreatDoorRClone
set_option linter.unusedVariables false
set_option linter.unusedSimpArgs false
set_option maxRecDepth 100000
set_option maxHeartbeats 8000000
/- The walks of the reference's rows: a job, a node, a lease. -/
namespace Go.Proofs.YtjgnnobccecpeaaGreatDoor
open Go.Lib (hid)
open Go.RowKit
structure SGo (w0 w : World) (g : Nat) (s : ByteArray) (R : Nat) (t : TypeId) (cs : Array Value) : Prop where
 at_ : SxAt w g s
 keep : w0.grownBy w (some g)
 blk : Blk w R t cs
 gt : g < R
 new : w0.heap.size ≤ R
theorem SxAt.alloc {w : World} {g : Nat} {s : ByteArray} (h : SxAt w g s) (o : Obj) : SxAt (w.alloc o) g s := h.below ((Below.refl _ _).alloc (Nat.le_refl _) _)
theorem SGo.start {w : World} {g : Nat} {s : ByteArray} (h : SxAt w g s) (t : TypeId) (cs : Array Value) : SGo w (w.alloc (.cells cs t)) g s w.heap.size t cs :=
 ⟨h.alloc _, grow_below _ ((Below.refl _ _).alloc (Nat.le_refl _) _), heap_alloc_new w _, h.1.lt, Nat.le_refl _⟩
theorem SGo.next {w0 w w' : World} {g R : Nat} {s s' : ByteArray} {t : TypeId} {cs : Array Value} (h : SGo w0 w g s R t cs) (hok : SxAt w' g s') (hg : w.grownBy w' (some g)) : SGo w0 w' g s' R t cs :=
 ⟨hok, grow_trans h.keep hg, grow_blk hg h.blk (Nat.ne_of_gt h.gt), h.gt, h.new⟩
theorem SGo.alloc {w0 w : World} {g R : Nat} {s : ByteArray} {t : TypeId} {cs : Array Value} (h : SGo w0 w g s R t cs) (o : Obj) : SGo w0 (w.alloc o) g s R t cs :=
 ⟨h.at_.alloc _, grow_trans h.keep (grow_below _ ((Below.refl _ _).alloc (Nat.le_refl _) _)), h.blk.alloc _, h.gt, h.new⟩
theorem SGo.set {w0 w : World} {g R : Nat} {s : ByteArray} {t : TypeId} {cs : Array Value} (h : SGo w0 w g s R t cs) (i : Nat) (v : Value) : SGo w0 (w.setCell ⟨R, i, none⟩ v) g s R t (cs.setIfInBounds i v) :=
 ⟨h.at_.grow (grow_set w R i v) (Nat.ne_of_lt h.gt), grow_other h.keep (grow_set _ _ _ _) h.new, h.blk.set i v, h.gt, h.new⟩
theorem SGo.put {w0 w : World} {g R : Nat} {s : ByteArray} {t : TypeId} {cs : Array Value} (h : SGo w0 w g s R t cs) (i : Nat) (v : Value) (cs' : Array Value) (e : cs.setIfInBounds i v = cs') : SGo w0 (w.setCell ⟨R, i, none⟩ v) g s R t cs' := e ▸ h.set i v
theorem sxjob_0 (g : Nat) (s : ByteArray) (v : Int) (w : World) (h1 : ¬ 1 < v) (h2 : ¬ 2 < v) (h : SxAt w g s) :
 Calls Tryz.prog 247 #[.pointer (some ⟨g, 0, none⟩), .int .i64 v] w (SxPost g (jobP v s) (fun x : JobD => .agg (jobV x).toArray) w) := by
 have d1 : decide (1 < v) = false := decide_eq_false h1
 have d2 : decide (2 < v) = false := decide_eq_false h2
 have H0 := hid (SGo.start h 38 #[.string ⟨#[]⟩, .int .i64 0, .int .i64 0, .int .i64 0, .string ⟨#[]⟩])
 have hgl := h.1.lt
 have HP := hid (fun s : ByteArray => (show jobP v s = (textP s).bind fun (name : ByteArray) s => (numP s).bind fun (prio : Nat) s => (numP s).bind fun (need : Nat) s => ((.ok 0 s : RR Nat)).bind fun (tries : Nat) s => ((.ok ⟨#[]⟩ s : RR ByteArray)).bind fun (tag : ByteArray) s => RR.ok ⟨name, zagZ prio, need, tries, tag⟩ s by unfold jobP; simp only [if_neg h1, if_neg h2]))
 clear h h1 h2
 go_enter Tryz.func247, Tryz.ntmps247
 go_wp2_with fail
 refine Calls.mono (sxtext g s _ H0.out.at_) ?_
 intro e w1 hp
 rcases hr : textP s with ⟨name, s1⟩ | x
 rotate_left
 · obtain ⟨rfl, hg⟩ := hp.bad hr
   have E0 := hid hr
   have hres := hid (show jobP v s = .bad x by rw [HP.out]; rw [E0.out]; rw [RR.bind_bad])
   have hg := hid (grow_trans H0.out.keep hg)
   clear hr hp
   unfold thrown
   go_wp2
   exact ⟨rfl, SxPost.mkBad hres.out hg.out⟩
 obtain ⟨rfl, hs1, hg1⟩ := hp.ok hr
 have E0 := hid hr
 have Ha := H0.out.next hs1 hg1
 have u0 : w1.frozen? ⟨w.heap.size, 0, none⟩ = false := Ha.blk.thaw 0
 have x0 : w1.cell? ⟨w.heap.size, 0, none⟩ = some (.string ⟨#[]⟩) := Ha.blk.cell 0
 have hR0 : w.heap.size < w1.heap.size := Ha.blk.lt
 have H1 := hid (Ha.put 0 (.string name) #[.string name, .int .i64 0, .int .i64 0, .int .i64 0, .string ⟨#[]⟩] rfl)
 clear hr hp hs1 hg1 Ha H0
 go_wp2_with fail
 refine Calls.mono (sxbig g s1 _ H1.out.at_) ?_
 intro e w2 hp
 rcases hr : numP s1 with ⟨prio, s2⟩ | x
 rotate_left
 · obtain ⟨rfl, hg⟩ := hp.bad hr
   have E1 := hid hr
   have hres := hid (show jobP v s = .bad x by rw [HP.out]; rw [E0.out]; rw [RR.bind_ok]; rw [E1.out]; rw [RR.bind_bad])
   have hg := hid (grow_trans H1.out.keep hg)
   clear hr hp
   unfold thrown
   go_wp2
   exact ⟨rfl, SxPost.mkBad hres.out hg.out⟩
 obtain ⟨rfl, hs1, hg1⟩ := hp.ok hr
 have E1 := hid hr
 have hle1 := numP_le hr
 have Ha := H1.out.next hs1 hg1
 have u1 : w2.frozen? ⟨w.heap.size, 1, none⟩ = false := Ha.blk.thaw 1
 have x1 : w2.cell? ⟨w.heap.size, 1, none⟩ = some (.int .i64 0) := Ha.blk.cell 1
 have hR1 : w.heap.size < w2.heap.size := Ha.blk.lt
 have H2 := hid (Ha.put 1 (.int .i64 (zagZ ((prio : Nat) : Int))) #[.string name, .int .i64 (zagZ ((prio : Nat) : Int)), .int .i64 0, .int .i64 0, .string ⟨#[]⟩] rfl)
 clear hr hp hs1 hg1 Ha H1 u0 x0 hR0
 go_wp2_with fail
 refine Calls.mono (rzag_any (prio : Int) (by omega) (by omega) _) ?_
 rintro e wz ⟨rfl, rfl⟩
 go_wp2_with fail
 refine Calls.mono (sxnum g s2 _ H2.out.at_) ?_
 intro e w3 hp
 rcases hr : numP s2 with ⟨need, s3⟩ | x
 rotate_left
 · obtain ⟨rfl, hg⟩ := hp.bad hr
   have E2 := hid hr
   have hres := hid (show jobP v s = .bad x by rw [HP.out]; rw [E0.out]; rw [RR.bind_ok]; rw [E1.out]; rw [RR.bind_ok]; rw [E2.out]; rw [RR.bind_bad])
   have hg := hid (grow_trans H2.out.keep hg)
   clear hr hp
   unfold thrown
   go_wp2
   exact ⟨rfl, SxPost.mkBad hres.out hg.out⟩
 obtain ⟨rfl, hs1, hg1⟩ := hp.ok hr
 have E2 := hid hr
 have hle2 := numP_le hr
 have Ha := H2.out.next hs1 hg1
 have u2 : w3.frozen? ⟨w.heap.size, 2, none⟩ = false := Ha.blk.thaw 2
 have x2 : w3.cell? ⟨w.heap.size, 2, none⟩ = some (.int .i64 0) := Ha.blk.cell 2
 have hR2 : w.heap.size < w3.heap.size := Ha.blk.lt
 have H3 := hid (Ha.put 2 (.int .i64 ((need : Nat) : Int)) #[.string name, .int .i64 (zagZ ((prio : Nat) : Int)), .int .i64 ((need : Nat) : Int), .int .i64 0, .string ⟨#[]⟩] rfl)
 have y0 : w3.cell? ⟨w.heap.size, 0, none⟩ = some (.string name) := Ha.blk.cell 0
 have y1 : w3.cell? ⟨w.heap.size, 1, none⟩ = some (.int .i64 (zagZ ((prio : Nat) : Int))) := Ha.blk.cell 1
 have y3 : w3.cell? ⟨w.heap.size, 3, none⟩ = some (.int .i64 0) := Ha.blk.cell 3
 have y4 : w3.cell? ⟨w.heap.size, 4, none⟩ = some (.string ⟨#[]⟩) := Ha.blk.cell 4
 have z0 : w3.frozen? ⟨w.heap.size, 0, none⟩ = false := Ha.blk.thaw 0
 have z1 : w3.frozen? ⟨w.heap.size, 1, none⟩ = false := Ha.blk.thaw 1
 have z3 : w3.frozen? ⟨w.heap.size, 3, none⟩ = false := Ha.blk.thaw 3
 have z4 : w3.frozen? ⟨w.heap.size, 4, none⟩ = false := Ha.blk.thaw 4
 clear hr hp hs1 hg1 Ha H2 u1 x1 hR1
 have Q := (((((H3.out.put 0 (.string name) #[.string name, .int .i64 (zagZ ((prio : Nat) : Int)), .int .i64 ((need : Nat) : Int), .int .i64 0, .string ⟨#[]⟩] rfl).put 1 (.int .i64 (zagZ ((prio : Nat) : Int))) #[.string name, .int .i64 (zagZ ((prio : Nat) : Int)), .int .i64 ((need : Nat) : Int), .int .i64 0, .string ⟨#[]⟩] rfl).put 2 (.int .i64 ((need : Nat) : Int)) #[.string name, .int .i64 (zagZ ((prio : Nat) : Int)), .int .i64 ((need : Nat) : Int), .int .i64 0, .string ⟨#[]⟩] rfl).put 3 (.int .i64 0) #[.string name, .int .i64 (zagZ ((prio : Nat) : Int)), .int .i64 ((need : Nat) : Int), .int .i64 0, .string ⟨#[]⟩] rfl).put 4 (.string ⟨#[]⟩) #[.string name, .int .i64 (zagZ ((prio : Nat) : Int)), .int .i64 ((need : Nat) : Int), .int .i64 0, .string ⟨#[]⟩] rfl)
 have q0 := (show _ = (some (.string name) : Option Value) from Q.blk.cell 0)
 have q1 := (show _ = (some (.int .i64 (zagZ ((prio : Nat) : Int))) : Option Value) from Q.blk.cell 1)
 have q2 := (show _ = (some (.int .i64 ((need : Nat) : Int)) : Option Value) from Q.blk.cell 2)
 have q3 := (show _ = (some (.int .i64 0) : Option Value) from Q.blk.cell 3)
 have q4 := (show _ = (some (.string ⟨#[]⟩) : Option Value) from Q.blk.cell 4)
 have Hok := hid Q.at_
 have Hkp := hid Q.keep
 have hres := hid (show jobP v s = .ok ⟨name, zagZ ((prio : Nat) : Int), ((need : Nat) : Int), 0, ⟨#[]⟩⟩ s3 by rw [HP.out]; rw [E0.out]; rw [RR.bind_ok]; rw [E1.out]; rw [RR.bind_ok]; rw [E2.out]; rw [RR.bind_ok]; rw [RR.bind_ok]; rw [RR.bind_ok]; try rfl)
 clear Q
 go_wp2
 refine bodyPost_ret (v := .agg #[.string name, .int .i64 (zagZ ((prio : Nat) : Int)), .int .i64 ((need : Nat) : Int), .int .i64 0, .string ⟨#[]⟩]) (by simp [results, Tryz.results247, go_sem, *]) rfl ?_
 exact SxPost.mkOk hres.out Hok.out Hkp.out
theorem sxjob_1 (g : Nat) (s : ByteArray) (v : Int) (w : World) (h1 : 1 < v) (h2 : ¬ 2 < v) (h : SxAt w g s) :
 Calls Tryz.prog 247 #[.pointer (some ⟨g, 0, none⟩), .int .i64 v] w (SxPost g (jobP v s) (fun x : JobD => .agg (jobV x).toArray) w) := by
 have d1 : decide (1 < v) = true := decide_eq_true h1
 have d2 : decide (2 < v) = false := decide_eq_false h2
 have H0 := hid (SGo.start h 38 #[.string ⟨#[]⟩, .int .i64 0, .int .i64 0, .int .i64 0, .string ⟨#[]⟩])
 have hgl := h.1.lt
 have HP := hid (fun s : ByteArray => (show jobP v s = (textP s).bind fun (name : ByteArray) s => (numP s).bind fun (prio : Nat) s => (numP s).bind fun (need : Nat) s => (numP s).bind fun (tries : Nat) s => ((.ok ⟨#[]⟩ s : RR ByteArray)).bind fun (tag : ByteArray) s => RR.ok ⟨name, zagZ prio, need, tries, tag⟩ s by unfold jobP; simp only [if_pos h1, if_neg h2]))
 clear h h1 h2
 go_enter Tryz.func247, Tryz.ntmps247
 go_wp2_with fail
 refine Calls.mono (sxtext g s _ H0.out.at_) ?_
 intro e w1 hp
 rcases hr : textP s with ⟨name, s1⟩ | x
 rotate_left
 · obtain ⟨rfl, hg⟩ := hp.bad hr
   have E0 := hid hr
   have hres := hid (show jobP v s = .bad x by rw [HP.out]; rw [E0.out]; rw [RR.bind_bad])
   have hg := hid (grow_trans H0.out.keep hg)
   clear hr hp
   unfold thrown
   go_wp2
   exact ⟨rfl, SxPost.mkBad hres.out hg.out⟩
 obtain ⟨rfl, hs1, hg1⟩ := hp.ok hr
 have E0 := hid hr
 have Ha := H0.out.next hs1 hg1
 have u0 : w1.frozen? ⟨w.heap.size, 0, none⟩ = false := Ha.blk.thaw 0
 have x0 : w1.cell? ⟨w.heap.size, 0, none⟩ = some (.string ⟨#[]⟩) := Ha.blk.cell 0
 have hR0 : w.heap.size < w1.heap.size := Ha.blk.lt
 have H1 := hid (Ha.put 0 (.string name) #[.string name, .int .i64 0, .int .i64 0, .int .i64 0, .string ⟨#[]⟩] rfl)
 clear hr hp hs1 hg1 Ha H0
 go_wp2_with fail
 refine Calls.mono (sxbig g s1 _ H1.out.at_) ?_
 intro e w2 hp
 rcases hr : numP s1 with ⟨prio, s2⟩ | x
 rotate_left
 · obtain ⟨rfl, hg⟩ := hp.bad hr
   have E1 := hid hr
   have hres := hid (show jobP v s = .bad x by rw [HP.out]; rw [E0.out]; rw [RR.bind_ok]; rw [E1.out]; rw [RR.bind_bad])
   have hg := hid (grow_trans H1.out.keep hg)
   clear hr hp
   unfold thrown
   go_wp2
   exact ⟨rfl, SxPost.mkBad hres.out hg.out⟩
 obtain ⟨rfl, hs1, hg1⟩ := hp.ok hr
 have E1 := hid hr
 have hle1 := numP_le hr
 have Ha := H1.out.next hs1 hg1
 have u1 : w2.frozen? ⟨w.heap.size, 1, none⟩ = false := Ha.blk.thaw 1
 have x1 : w2.cell? ⟨w.heap.size, 1, none⟩ = some (.int .i64 0) := Ha.blk.cell 1
 have hR1 : w.heap.size < w2.heap.size := Ha.blk.lt
 have H2 := hid (Ha.put 1 (.int .i64 (zagZ ((prio : Nat) : Int))) #[.string name, .int .i64 (zagZ ((prio : Nat) : Int)), .int .i64 0, .int .i64 0, .string ⟨#[]⟩] rfl)
 clear hr hp hs1 hg1 Ha H1 u0 x0 hR0
 go_wp2_with fail
 refine Calls.mono (rzag_any (prio : Int) (by omega) (by omega) _) ?_
 rintro e wz ⟨rfl, rfl⟩
 go_wp2_with fail
 refine Calls.mono (sxnum g s2 _ H2.out.at_) ?_
 intro e w3 hp
 rcases hr : numP s2 with ⟨need, s3⟩ | x
 rotate_left
 · obtain ⟨rfl, hg⟩ := hp.bad hr
   have E2 := hid hr
   have hres := hid (show jobP v s = .bad x by rw [HP.out]; rw [E0.out]; rw [RR.bind_ok]; rw [E1.out]; rw [RR.bind_ok]; rw [E2.out]; rw [RR.bind_bad])
   have hg := hid (grow_trans H2.out.keep hg)
   clear hr hp
   unfold thrown
   go_wp2
   exact ⟨rfl, SxPost.mkBad hres.out hg.out⟩
 obtain ⟨rfl, hs1, hg1⟩ := hp.ok hr
 have E2 := hid hr
 have hle2 := numP_le hr
 have Ha := H2.out.next hs1 hg1
 have u2 : w3.frozen? ⟨w.heap.size, 2, none⟩ = false := Ha.blk.thaw 2
 have x2 : w3.cell? ⟨w.heap.size, 2, none⟩ = some (.int .i64 0) := Ha.blk.cell 2
 have hR2 : w.heap.size < w3.heap.size := Ha.blk.lt
 have H3 := hid (Ha.put 2 (.int .i64 ((need : Nat) : Int)) #[.string name, .int .i64 (zagZ ((prio : Nat) : Int)), .int .i64 ((need : Nat) : Int), .int .i64 0, .string ⟨#[]⟩] rfl)
 clear hr hp hs1 hg1 Ha H2 u1 x1 hR1
 go_wp2_with fail
 refine Calls.mono (sxnum g s3 _ H3.out.at_) ?_
 intro e w4 hp
 rcases hr : numP s3 with ⟨tries, s4⟩ | x
 rotate_left
 · obtain ⟨rfl, hg⟩ := hp.bad hr
   have E3 := hid hr
   have hres := hid (show jobP v s = .bad x by rw [HP.out]; rw [E0.out]; rw [RR.bind_ok]; rw [E1.out]; rw [RR.bind_ok]; rw [E2.out]; rw [RR.bind_ok]; rw [E3.out]; rw [RR.bind_bad])
   have hg := hid (grow_trans H3.out.keep hg)
   clear hr hp
   unfold thrown
   go_wp2
   exact ⟨rfl, SxPost.mkBad hres.out hg.out⟩
 obtain ⟨rfl, hs1, hg1⟩ := hp.ok hr
 have E3 := hid hr
 have hle3 := numP_le hr
 have Ha := H3.out.next hs1 hg1
 have u3 : w4.frozen? ⟨w.heap.size, 3, none⟩ = false := Ha.blk.thaw 3
 have x3 : w4.cell? ⟨w.heap.size, 3, none⟩ = some (.int .i64 0) := Ha.blk.cell 3
 have hR3 : w.heap.size < w4.heap.size := Ha.blk.lt
 have H4 := hid (Ha.put 3 (.int .i64 ((tries : Nat) : Int)) #[.string name, .int .i64 (zagZ ((prio : Nat) : Int)), .int .i64 ((need : Nat) : Int), .int .i64 ((tries : Nat) : Int), .string ⟨#[]⟩] rfl)
 have y0 : w4.cell? ⟨w.heap.size, 0, none⟩ = some (.string name) := Ha.blk.cell 0
 have y1 : w4.cell? ⟨w.heap.size, 1, none⟩ = some (.int .i64 (zagZ ((prio : Nat) : Int))) := Ha.blk.cell 1
 have y2 : w4.cell? ⟨w.heap.size, 2, none⟩ = some (.int .i64 ((need : Nat) : Int)) := Ha.blk.cell 2
 have y4 : w4.cell? ⟨w.heap.size, 4, none⟩ = some (.string ⟨#[]⟩) := Ha.blk.cell 4
 have z0 : w4.frozen? ⟨w.heap.size, 0, none⟩ = false := Ha.blk.thaw 0
 have z1 : w4.frozen? ⟨w.heap.size, 1, none⟩ = false := Ha.blk.thaw 1
 have z2 : w4.frozen? ⟨w.heap.size, 2, none⟩ = false := Ha.blk.thaw 2
 have z4 : w4.frozen? ⟨w.heap.size, 4, none⟩ = false := Ha.blk.thaw 4
 clear hr hp hs1 hg1 Ha H3 u2 x2 hR2
 have Q := (((((H4.out.put 0 (.string name) #[.string name, .int .i64 (zagZ ((prio : Nat) : Int)), .int .i64 ((need : Nat) : Int), .int .i64 ((tries : Nat) : Int), .string ⟨#[]⟩] rfl).put 1 (.int .i64 (zagZ ((prio : Nat) : Int))) #[.string name, .int .i64 (zagZ ((prio : Nat) : Int)), .int .i64 ((need : Nat) : Int), .int .i64 ((tries : Nat) : Int), .string ⟨#[]⟩] rfl).put 2 (.int .i64 ((need : Nat) : Int)) #[.string name, .int .i64 (zagZ ((prio : Nat) : Int)), .int .i64 ((need : Nat) : Int), .int .i64 ((tries : Nat) : Int), .string ⟨#[]⟩] rfl).put 3 (.int .i64 ((tries : Nat) : Int)) #[.string name, .int .i64 (zagZ ((prio : Nat) : Int)), .int .i64 ((need : Nat) : Int), .int .i64 ((tries : Nat) : Int), .string ⟨#[]⟩] rfl).put 4 (.string ⟨#[]⟩) #[.string name, .int .i64 (zagZ ((prio : Nat) : Int)), .int .i64 ((need : Nat) : Int), .int .i64 ((tries : Nat) : Int), .string ⟨#[]⟩] rfl)
 have q0 := (show _ = (some (.string name) : Option Value) from Q.blk.cell 0)
 have q1 := (show _ = (some (.int .i64 (zagZ ((prio : Nat) : Int))) : Option Value) from Q.blk.cell 1)
 have q2 := (show _ = (some (.int .i64 ((need : Nat) : Int)) : Option Value) from Q.blk.cell 2)
 have q3 := (show _ = (some (.int .i64 ((tries : Nat) : Int)) : Option Value) from Q.blk.cell 3)
 have q4 := (show _ = (some (.string ⟨#[]⟩) : Option Value) from Q.blk.cell 4)
 have Hok := hid Q.at_
 have Hkp := hid Q.keep
 have hres := hid (show jobP v s = .ok ⟨name, zagZ ((prio : Nat) : Int), ((need : Nat) : Int), ((tries : Nat) : Int), ⟨#[]⟩⟩ s4 by rw [HP.out]; rw [E0.out]; rw [RR.bind_ok]; rw [E1.out]; rw [RR.bind_ok]; rw [E2.out]; rw [RR.bind_ok]; rw [E3.out]; rw [RR.bind_ok]; rw [RR.bind_ok]; try rfl)
 clear Q
 go_wp2
 refine bodyPost_ret (v := .agg #[.string name, .int .i64 (zagZ ((prio : Nat) : Int)), .int .i64 ((need : Nat) : Int), .int .i64 ((tries : Nat) : Int), .string ⟨#[]⟩]) (by simp [results, Tryz.results247, go_sem, *]) rfl ?_
 exact SxPost.mkOk hres.out Hok.out Hkp.out
theorem sxjob_2 (g : Nat) (s : ByteArray) (v : Int) (w : World) (h1 : 1 < v) (h2 : 2 < v) (h : SxAt w g s) :
 Calls Tryz.prog 247 #[.pointer (some ⟨g, 0, none⟩), .int .i64 v] w (SxPost g (jobP v s) (fun x : JobD => .agg (jobV x).toArray) w) := by
 have d1 : decide (1 < v) = true := decide_eq_true h1
 have d2 : decide (2 < v) = true := decide_eq_true h2
 have H0 := hid (SGo.start h 38 #[.string ⟨#[]⟩, .int .i64 0, .int .i64 0, .int .i64 0, .string ⟨#[]⟩])
 have hgl := h.1.lt
 have HP := hid (fun s : ByteArray => (show jobP v s = (textP s).bind fun (name : ByteArray) s => (numP s).bind fun (prio : Nat) s => (numP s).bind fun (need : Nat) s => (numP s).bind fun (tries : Nat) s => (textP s).bind fun (tag : ByteArray) s => RR.ok ⟨name, zagZ prio, need, tries, tag⟩ s by unfold jobP; simp only [if_pos h1, if_pos h2]))
 clear h h1 h2
 go_enter Tryz.func247, Tryz.ntmps247
 go_wp2_with fail
 refine Calls.mono (sxtext g s _ H0.out.at_) ?_
 intro e w1 hp
 rcases hr : textP s with ⟨name, s1⟩ | x
 rotate_left
 · obtain ⟨rfl, hg⟩ := hp.bad hr
   have E0 := hid hr
   have hres := hid (show jobP v s = .bad x by rw [HP.out]; rw [E0.out]; rw [RR.bind_bad])
   have hg := hid (grow_trans H0.out.keep hg)
   clear hr hp
   unfold thrown
   go_wp2
   exact ⟨rfl, SxPost.mkBad hres.out hg.out⟩
 obtain ⟨rfl, hs1, hg1⟩ := hp.ok hr
 have E0 := hid hr
 have Ha := H0.out.next hs1 hg1
 have u0 : w1.frozen? ⟨w.heap.size, 0, none⟩ = false := Ha.blk.thaw 0
 have x0 : w1.cell? ⟨w.heap.size, 0, none⟩ = some (.string ⟨#[]⟩) := Ha.blk.cell 0
 have hR0 : w.heap.size < w1.heap.size := Ha.blk.lt
 have H1 := hid (Ha.put 0 (.string name) #[.string name, .int .i64 0, .int .i64 0, .int .i64 0, .string ⟨#[]⟩] rfl)
 clear hr hp hs1 hg1 Ha H0
 go_wp2_with fail
 refine Calls.mono (sxbig g s1 _ H1.out.at_) ?_
 intro e w2 hp
 rcases hr : numP s1 with ⟨prio, s2⟩ | x
 rotate_left
 · obtain ⟨rfl, hg⟩ := hp.bad hr
   have E1 := hid hr
   have hres := hid (show jobP v s = .bad x by rw [HP.out]; rw [E0.out]; rw [RR.bind_ok]; rw [E1.out]; rw [RR.bind_bad])
   have hg := hid (grow_trans H1.out.keep hg)
   clear hr hp
   unfold thrown
   go_wp2
   exact ⟨rfl, SxPost.mkBad hres.out hg.out⟩
 obtain ⟨rfl, hs1, hg1⟩ := hp.ok hr
 have E1 := hid hr
 have hle1 := numP_le hr
 have Ha := H1.out.next hs1 hg1
 have u1 : w2.frozen? ⟨w.heap.size, 1, none⟩ = false := Ha.blk.thaw 1
 have x1 : w2.cell? ⟨w.heap.size, 1, none⟩ = some (.int .i64 0) := Ha.blk.cell 1
 have hR1 : w.heap.size < w2.heap.size := Ha.blk.lt
 have H2 := hid (Ha.put 1 (.int .i64 (zagZ ((prio : Nat) : Int))) #[.string name, .int .i64 (zagZ ((prio : Nat) : Int)), .int .i64 0, .int .i64 0, .string ⟨#[]⟩] rfl)
 clear hr hp hs1 hg1 Ha H1 u0 x0 hR0
 go_wp2_with fail
 refine Calls.mono (rzag_any (prio : Int) (by omega) (by omega) _) ?_
 rintro e wz ⟨rfl, rfl⟩
 go_wp2_with fail
 refine Calls.mono (sxnum g s2 _ H2.out.at_) ?_
 intro e w3 hp
 rcases hr : numP s2 with ⟨need, s3⟩ | x
 rotate_left
 · obtain ⟨rfl, hg⟩ := hp.bad hr
   have E2 := hid hr
   have hres := hid (show jobP v s = .bad x by rw [HP.out]; rw [E0.out]; rw [RR.bind_ok]; rw [E1.out]; rw [RR.bind_ok]; rw [E2.out]; rw [RR.bind_bad])
   have hg := hid (grow_trans H2.out.keep hg)
   clear hr hp
   unfold thrown
   go_wp2
   exact ⟨rfl, SxPost.mkBad hres.out hg.out⟩
 obtain ⟨rfl, hs1, hg1⟩ := hp.ok hr
 have E2 := hid hr
 have hle2 := numP_le hr
 have Ha := H2.out.next hs1 hg1
 have u2 : w3.frozen? ⟨w.heap.size, 2, none⟩ = false := Ha.blk.thaw 2
 have x2 : w3.cell? ⟨w.heap.size, 2, none⟩ = some (.int .i64 0) := Ha.blk.cell 2
 have hR2 : w.heap.size < w3.heap.size := Ha.blk.lt
 have H3 := hid (Ha.put 2 (.int .i64 ((need : Nat) : Int)) #[.string name, .int .i64 (zagZ ((prio : Nat) : Int)), .int .i64 ((need : Nat) : Int), .int .i64 0, .string ⟨#[]⟩] rfl)
 clear hr hp hs1 hg1 Ha H2 u1 x1 hR1
 go_wp2_with fail
 refine Calls.mono (sxnum g s3 _ H3.out.at_) ?_
 intro e w4 hp
 rcases hr : numP s3 with ⟨tries, s4⟩ | x
 rotate_left
 · obtain ⟨rfl, hg⟩ := hp.bad hr
   have E3 := hid hr
   have hres := hid (show jobP v s = .bad x by rw [HP.out]; rw [E0.out]; rw [RR.bind_ok]; rw [E1.out]; rw [RR.bind_ok]; rw [E2.out]; rw [RR.bind_ok]; rw [E3.out]; rw [RR.bind_bad])
   have hg := hid (grow_trans H3.out.keep hg)
   clear hr hp
   unfold thrown
   go_wp2
   exact ⟨rfl, SxPost.mkBad hres.out hg.out⟩
 obtain ⟨rfl, hs1, hg1⟩ := hp.ok hr
 have E3 := hid hr
 have hle3 := numP_le hr
 have Ha := H3.out.next hs1 hg1
 have u3 : w4.frozen? ⟨w.heap.size, 3, none⟩ = false := Ha.blk.thaw 3
 have x3 : w4.cell? ⟨w.heap.size, 3, none⟩ = some (.int .i64 0) := Ha.blk.cell 3
 have hR3 : w.heap.size < w4.heap.size := Ha.blk.lt
 have H4 := hid (Ha.put 3 (.int .i64 ((tries : Nat) : Int)) #[.string name, .int .i64 (zagZ ((prio : Nat) : Int)), .int .i64 ((need : Nat) : Int), .int .i64 ((tries : Nat) : Int), .string ⟨#[]⟩] rfl)
 clear hr hp hs1 hg1 Ha H3 u2 x2 hR2
 go_wp2_with fail
 refine Calls.mono (sxtext g s4 _ H4.out.at_) ?_
 intro e w5 hp
 rcases hr : textP s4 with ⟨tag, s5⟩ | x
 rotate_left
 · obtain ⟨rfl, hg⟩ := hp.bad hr
   have E4 := hid hr
   have hres := hid (show jobP v s = .bad x by rw [HP.out]; rw [E0.out]; rw [RR.bind_ok]; rw [E1.out]; rw [RR.bind_ok]; rw [E2.out]; rw [RR.bind_ok]; rw [E3.out]; rw [RR.bind_ok]; rw [E4.out]; rw [RR.bind_bad])
   have hg := hid (grow_trans H4.out.keep hg)
   clear hr hp
   unfold thrown
   go_wp2
   exact ⟨rfl, SxPost.mkBad hres.out hg.out⟩
 obtain ⟨rfl, hs1, hg1⟩ := hp.ok hr
 have E4 := hid hr
 have Ha := H4.out.next hs1 hg1
 have u4 : w5.frozen? ⟨w.heap.size, 4, none⟩ = false := Ha.blk.thaw 4
 have x4 : w5.cell? ⟨w.heap.size, 4, none⟩ = some (.string ⟨#[]⟩) := Ha.blk.cell 4
 have hR4 : w.heap.size < w5.heap.size := Ha.blk.lt
 have H5 := hid (Ha.put 4 (.string tag) #[.string name, .int .i64 (zagZ ((prio : Nat) : Int)), .int .i64 ((need : Nat) : Int), .int .i64 ((tries : Nat) : Int), .string tag] rfl)
 obtain ⟨y0, y1, y2, y3⟩ := Blk.c4 (Ha.blk)
 obtain ⟨z0, z1, z2, z3⟩ := Blk.z4 (Ha.blk)
 clear hr hp hs1 hg1 Ha H4 u3 x3 hR3
 have Q := (((((H5.out.put 0 (.string name) #[.string name, .int .i64 (zagZ ((prio : Nat) : Int)), .int .i64 ((need : Nat) : Int), .int .i64 ((tries : Nat) : Int), .string tag] rfl).put 1 (.int .i64 (zagZ ((prio : Nat) : Int))) #[.string name, .int .i64 (zagZ ((prio : Nat) : Int)), .int .i64 ((need : Nat) : Int), .int .i64 ((tries : Nat) : Int), .string tag] rfl).put 2 (.int .i64 ((need : Nat) : Int)) #[.string name, .int .i64 (zagZ ((prio : Nat) : Int)), .int .i64 ((need : Nat) : Int), .int .i64 ((tries : Nat) : Int), .string tag] rfl).put 3 (.int .i64 ((tries : Nat) : Int)) #[.string name, .int .i64 (zagZ ((prio : Nat) : Int)), .int .i64 ((need : Nat) : Int), .int .i64 ((tries : Nat) : Int), .string tag] rfl).put 4 (.string tag) #[.string name, .int .i64 (zagZ ((prio : Nat) : Int)), .int .i64 ((need : Nat) : Int), .int .i64 ((tries : Nat) : Int), .string tag] rfl)
 have q0 := (show _ = (some (.string name) : Option Value) from Q.blk.cell 0)
 have q1 := (show _ = (some (.int .i64 (zagZ ((prio : Nat) : Int))) : Option Value) from Q.blk.cell 1)
 have q2 := (show _ = (some (.int .i64 ((need : Nat) : Int)) : Option Value) from Q.blk.cell 2)
 have q3 := (show _ = (some (.int .i64 ((tries : Nat) : Int)) : Option Value) from Q.blk.cell 3)
 have q4 := (show _ = (some (.string tag) : Option Value) from Q.blk.cell 4)
 have Hok := hid Q.at_
 have Hkp := hid Q.keep
 have hres := hid (show jobP v s = .ok ⟨name, zagZ ((prio : Nat) : Int), ((need : Nat) : Int), ((tries : Nat) : Int), tag⟩ s5 by rw [HP.out]; rw [E0.out]; rw [RR.bind_ok]; rw [E1.out]; rw [RR.bind_ok]; rw [E2.out]; rw [RR.bind_ok]; rw [E3.out]; rw [RR.bind_ok]; rw [E4.out]; rw [RR.bind_ok]; try rfl)
 clear Q
 go_wp2
 refine bodyPost_ret (v := .agg #[.string name, .int .i64 (zagZ ((prio : Nat) : Int)), .int .i64 ((need : Nat) : Int), .int .i64 ((tries : Nat) : Int), .string tag]) (by simp [results, Tryz.results247, go_sem, *]) rfl ?_
 exact SxPost.mkOk hres.out Hok.out Hkp.out
theorem sxnode_0 (g : Nat) (s : ByteArray) (v : Int) (w : World) (h1 : ¬ 1 < v) (h : SxAt w g s) :
 Calls Tryz.prog 248 #[.pointer (some ⟨g, 0, none⟩), .int .i64 v] w (SxPost g (nodeP v s) (fun x : NodeD => .agg (nodeV x).toArray) w) := by
 have d1 : decide (1 < v) = false := decide_eq_false h1
 have H0 := hid (SGo.start h 40 #[.string ⟨#[]⟩, .int .i64 0, .string ⟨#[]⟩])
 have hgl := h.1.lt
 have HP := hid (fun s : ByteArray => (show nodeP v s = (textP s).bind fun (name : ByteArray) s => (numP s).bind fun (room : Nat) s => ((.ok ⟨#[]⟩ s : RR ByteArray)).bind fun (zone : ByteArray) s => RR.ok ⟨name, room, zone⟩ s by unfold nodeP; simp only [if_neg h1]))
 clear h h1
 go_enter Tryz.func248, Tryz.ntmps248
 go_wp2_with fail
 refine Calls.mono (sxtext g s _ H0.out.at_) ?_
 intro e w1 hp
 rcases hr : textP s with ⟨name, s1⟩ | x
 rotate_left
 · obtain ⟨rfl, hg⟩ := hp.bad hr
   have E0 := hid hr
   have hres := hid (show nodeP v s = .bad x by rw [HP.out]; rw [E0.out]; rw [RR.bind_bad])
   have hg := hid (grow_trans H0.out.keep hg)
   clear hr hp
   unfold thrown
   go_wp2
   exact ⟨rfl, SxPost.mkBad hres.out hg.out⟩
 obtain ⟨rfl, hs1, hg1⟩ := hp.ok hr
 have E0 := hid hr
 have Ha := H0.out.next hs1 hg1
 have u0 : w1.frozen? ⟨w.heap.size, 0, none⟩ = false := Ha.blk.thaw 0
 have x0 : w1.cell? ⟨w.heap.size, 0, none⟩ = some (.string ⟨#[]⟩) := Ha.blk.cell 0
 have hR0 : w.heap.size < w1.heap.size := Ha.blk.lt
 have H1 := hid (Ha.put 0 (.string name) #[.string name, .int .i64 0, .string ⟨#[]⟩] rfl)
 clear hr hp hs1 hg1 Ha H0
 go_wp2_with fail
 refine Calls.mono (sxnum g s1 _ H1.out.at_) ?_
 intro e w2 hp
 rcases hr : numP s1 with ⟨room, s2⟩ | x
 rotate_left
 · obtain ⟨rfl, hg⟩ := hp.bad hr
   have E1 := hid hr
   have hres := hid (show nodeP v s = .bad x by rw [HP.out]; rw [E0.out]; rw [RR.bind_ok]; rw [E1.out]; rw [RR.bind_bad])
   have hg := hid (grow_trans H1.out.keep hg)
   clear hr hp
   unfold thrown
   go_wp2
   exact ⟨rfl, SxPost.mkBad hres.out hg.out⟩
 obtain ⟨rfl, hs1, hg1⟩ := hp.ok hr
 have E1 := hid hr
 have hle1 := numP_le hr
 have Ha := H1.out.next hs1 hg1
 have u1 : w2.frozen? ⟨w.heap.size, 1, none⟩ = false := Ha.blk.thaw 1
 have x1 : w2.cell? ⟨w.heap.size, 1, none⟩ = some (.int .i64 0) := Ha.blk.cell 1
 have hR1 : w.heap.size < w2.heap.size := Ha.blk.lt
 have H2 := hid (Ha.put 1 (.int .i64 ((room : Nat) : Int)) #[.string name, .int .i64 ((room : Nat) : Int), .string ⟨#[]⟩] rfl)
 have y0 : w2.cell? ⟨w.heap.size, 0, none⟩ = some (.string name) := Ha.blk.cell 0
 have y2 : w2.cell? ⟨w.heap.size, 2, none⟩ = some (.string ⟨#[]⟩) := Ha.blk.cell 2
 have z0 : w2.frozen? ⟨w.heap.size, 0, none⟩ = false := Ha.blk.thaw 0
 have z2 : w2.frozen? ⟨w.heap.size, 2, none⟩ = false := Ha.blk.thaw 2
 clear hr hp hs1 hg1 Ha H1 u0 x0 hR0
 have Q := (((H2.out.put 0 (.string name) #[.string name, .int .i64 ((room : Nat) : Int), .string ⟨#[]⟩] rfl).put 1 (.int .i64 ((room : Nat) : Int)) #[.string name, .int .i64 ((room : Nat) : Int), .string ⟨#[]⟩] rfl).put 2 (.string ⟨#[]⟩) #[.string name, .int .i64 ((room : Nat) : Int), .string ⟨#[]⟩] rfl)
 have q0 := (show _ = (some (.string name) : Option Value) from Q.blk.cell 0)
 have q1 := (show _ = (some (.int .i64 ((room : Nat) : Int)) : Option Value) from Q.blk.cell 1)
 have q2 := (show _ = (some (.string ⟨#[]⟩) : Option Value) from Q.blk.cell 2)
 have Hok := hid Q.at_
 have Hkp := hid Q.keep
 have hres := hid (show nodeP v s = .ok ⟨name, ((room : Nat) : Int), ⟨#[]⟩⟩ s2 by rw [HP.out]; rw [E0.out]; rw [RR.bind_ok]; rw [E1.out]; rw [RR.bind_ok]; rw [RR.bind_ok]; try rfl)
 clear Q
 go_wp2
 refine bodyPost_ret (v := .agg #[.string name, .int .i64 ((room : Nat) : Int), .string ⟨#[]⟩]) (by simp [results, Tryz.results248, go_sem, *]) rfl ?_
 exact SxPost.mkOk hres.out Hok.out Hkp.out
theorem sxnode_1 (g : Nat) (s : ByteArray) (v : Int) (w : World) (h1 : 1 < v) (h : SxAt w g s) :
 Calls Tryz.prog 248 #[.pointer (some ⟨g, 0, none⟩), .int .i64 v] w (SxPost g (nodeP v s) (fun x : NodeD => .agg (nodeV x).toArray) w) := by
 have d1 : decide (1 < v) = true := decide_eq_true h1
 have H0 := hid (SGo.start h 40 #[.string ⟨#[]⟩, .int .i64 0, .string ⟨#[]⟩])
 have hgl := h.1.lt
 have HP := hid (fun s : ByteArray => (show nodeP v s = (textP s).bind fun (name : ByteArray) s => (numP s).bind fun (room : Nat) s => (textP s).bind fun (zone : ByteArray) s => RR.ok ⟨name, room, zone⟩ s by unfold nodeP; simp only [if_pos h1]))
 clear h h1
 go_enter Tryz.func248, Tryz.ntmps248
 go_wp2_with fail
 refine Calls.mono (sxtext g s _ H0.out.at_) ?_
 intro e w1 hp
 rcases hr : textP s with ⟨name, s1⟩ | x
 rotate_left
 · obtain ⟨rfl, hg⟩ := hp.bad hr
   have E0 := hid hr
   have hres := hid (show nodeP v s = .bad x by rw [HP.out]; rw [E0.out]; rw [RR.bind_bad])
   have hg := hid (grow_trans H0.out.keep hg)
   clear hr hp
   unfold thrown
   go_wp2
   exact ⟨rfl, SxPost.mkBad hres.out hg.out⟩
 obtain ⟨rfl, hs1, hg1⟩ := hp.ok hr
 have E0 := hid hr
 have Ha := H0.out.next hs1 hg1
 have u0 : w1.frozen? ⟨w.heap.size, 0, none⟩ = false := Ha.blk.thaw 0
 have x0 : w1.cell? ⟨w.heap.size, 0, none⟩ = some (.string ⟨#[]⟩) := Ha.blk.cell 0
 have hR0 : w.heap.size < w1.heap.size := Ha.blk.lt
 have H1 := hid (Ha.put 0 (.string name) #[.string name, .int .i64 0, .string ⟨#[]⟩] rfl)
 clear hr hp hs1 hg1 Ha H0
 go_wp2_with fail
 refine Calls.mono (sxnum g s1 _ H1.out.at_) ?_
 intro e w2 hp
 rcases hr : numP s1 with ⟨room, s2⟩ | x
 rotate_left
 · obtain ⟨rfl, hg⟩ := hp.bad hr
   have E1 := hid hr
   have hres := hid (show nodeP v s = .bad x by rw [HP.out]; rw [E0.out]; rw [RR.bind_ok]; rw [E1.out]; rw [RR.bind_bad])
   have hg := hid (grow_trans H1.out.keep hg)
   clear hr hp
   unfold thrown
   go_wp2
   exact ⟨rfl, SxPost.mkBad hres.out hg.out⟩
 obtain ⟨rfl, hs1, hg1⟩ := hp.ok hr
 have E1 := hid hr
 have hle1 := numP_le hr
 have Ha := H1.out.next hs1 hg1
 have u1 : w2.frozen? ⟨w.heap.size, 1, none⟩ = false := Ha.blk.thaw 1
 have x1 : w2.cell? ⟨w.heap.size, 1, none⟩ = some (.int .i64 0) := Ha.blk.cell 1
 have hR1 : w.heap.size < w2.heap.size := Ha.blk.lt
 have H2 := hid (Ha.put 1 (.int .i64 ((room : Nat) : Int)) #[.string name, .int .i64 ((room : Nat) : Int), .string ⟨#[]⟩] rfl)
 clear hr hp hs1 hg1 Ha H1 u0 x0 hR0
 go_wp2_with fail
 refine Calls.mono (sxtext g s2 _ H2.out.at_) ?_
 intro e w3 hp
 rcases hr : textP s2 with ⟨zone, s3⟩ | x
 rotate_left
 · obtain ⟨rfl, hg⟩ := hp.bad hr
   have E2 := hid hr
   have hres := hid (show nodeP v s = .bad x by rw [HP.out]; rw [E0.out]; rw [RR.bind_ok]; rw [E1.out]; rw [RR.bind_ok]; rw [E2.out]; rw [RR.bind_bad])
   have hg := hid (grow_trans H2.out.keep hg)
   clear hr hp
   unfold thrown
   go_wp2
   exact ⟨rfl, SxPost.mkBad hres.out hg.out⟩
 obtain ⟨rfl, hs1, hg1⟩ := hp.ok hr
 have E2 := hid hr
 have Ha := H2.out.next hs1 hg1
 have u2 : w3.frozen? ⟨w.heap.size, 2, none⟩ = false := Ha.blk.thaw 2
 have x2 : w3.cell? ⟨w.heap.size, 2, none⟩ = some (.string ⟨#[]⟩) := Ha.blk.cell 2
 have hR2 : w.heap.size < w3.heap.size := Ha.blk.lt
 have H3 := hid (Ha.put 2 (.string zone) #[.string name, .int .i64 ((room : Nat) : Int), .string zone] rfl)
 obtain ⟨y0, y1⟩ := Blk.c2 (Ha.blk)
 obtain ⟨z0, z1⟩ := Blk.z2 (Ha.blk)
 clear hr hp hs1 hg1 Ha H2 u1 x1 hR1
 have Q := (((H3.out.put 0 (.string name) #[.string name, .int .i64 ((room : Nat) : Int), .string zone] rfl).put 1 (.int .i64 ((room : Nat) : Int)) #[.string name, .int .i64 ((room : Nat) : Int), .string zone] rfl).put 2 (.string zone) #[.string name, .int .i64 ((room : Nat) : Int), .string zone] rfl)
 have q0 := (show _ = (some (.string name) : Option Value) from Q.blk.cell 0)
 have q1 := (show _ = (some (.int .i64 ((room : Nat) : Int)) : Option Value) from Q.blk.cell 1)
 have q2 := (show _ = (some (.string zone) : Option Value) from Q.blk.cell 2)
 have Hok := hid Q.at_
 have Hkp := hid Q.keep
 have hres := hid (show nodeP v s = .ok ⟨name, ((room : Nat) : Int), zone⟩ s3 by rw [HP.out]; rw [E0.out]; rw [RR.bind_ok]; rw [E1.out]; rw [RR.bind_ok]; rw [E2.out]; rw [RR.bind_ok]; try rfl)
 clear Q
 go_wp2
 refine bodyPost_ret (v := .agg #[.string name, .int .i64 ((room : Nat) : Int), .string zone]) (by simp [results, Tryz.results248, go_sem, *]) rfl ?_
 exact SxPost.mkOk hres.out Hok.out Hkp.out
theorem sxlease (g : Nat) (s : ByteArray) (w : World) (h : SxAt w g s) :
 Calls Tryz.prog 249 #[.pointer (some ⟨g, 0, none⟩)] w (SxPost g (leaseP s) (fun x : LeaseD => .agg (leaseV x).toArray) w) := by
 have H0 := hid (SGo.start h 42 #[.string ⟨#[]⟩, .string ⟨#[]⟩, .int .i64 0])
 have hgl := h.1.lt
 have HP := hid (fun s : ByteArray => (show leaseP s = (textP s).bind fun (job : ByteArray) s => (textP s).bind fun (node : ByteArray) s => (numP s).bind fun (till : Nat) s => RR.ok ⟨job, node, till⟩ s by unfold leaseP; try rfl))
 clear h
 go_enter Tryz.func249, Tryz.ntmps249
 go_wp2_with fail
 refine Calls.mono (sxtext g s _ H0.out.at_) ?_
 intro e w1 hp
 rcases hr : textP s with ⟨job, s1⟩ | x
 rotate_left
 · obtain ⟨rfl, hg⟩ := hp.bad hr
   have E0 := hid hr
   have hres := hid (show leaseP s = .bad x by rw [HP.out]; rw [E0.out]; rw [RR.bind_bad])
   have hg := hid (grow_trans H0.out.keep hg)
   clear hr hp
   unfold thrown
   go_wp2
   exact ⟨rfl, SxPost.mkBad hres.out hg.out⟩
 obtain ⟨rfl, hs1, hg1⟩ := hp.ok hr
 have E0 := hid hr
 have Ha := H0.out.next hs1 hg1
 have u0 : w1.frozen? ⟨w.heap.size, 0, none⟩ = false := Ha.blk.thaw 0
 have x0 : w1.cell? ⟨w.heap.size, 0, none⟩ = some (.string ⟨#[]⟩) := Ha.blk.cell 0
 have hR0 : w.heap.size < w1.heap.size := Ha.blk.lt
 have H1 := hid (Ha.put 0 (.string job) #[.string job, .string ⟨#[]⟩, .int .i64 0] rfl)
 clear hr hp hs1 hg1 Ha H0
 go_wp2_with fail
 refine Calls.mono (sxtext g s1 _ H1.out.at_) ?_
 intro e w2 hp
 rcases hr : textP s1 with ⟨node, s2⟩ | x
 rotate_left
 · obtain ⟨rfl, hg⟩ := hp.bad hr
   have E1 := hid hr
   have hres := hid (show leaseP s = .bad x by rw [HP.out]; rw [E0.out]; rw [RR.bind_ok]; rw [E1.out]; rw [RR.bind_bad])
   have hg := hid (grow_trans H1.out.keep hg)
   clear hr hp
   unfold thrown
   go_wp2
   exact ⟨rfl, SxPost.mkBad hres.out hg.out⟩
 obtain ⟨rfl, hs1, hg1⟩ := hp.ok hr
 have E1 := hid hr
 have Ha := H1.out.next hs1 hg1
 have u1 : w2.frozen? ⟨w.heap.size, 1, none⟩ = false := Ha.blk.thaw 1
 have x1 : w2.cell? ⟨w.heap.size, 1, none⟩ = some (.string ⟨#[]⟩) := Ha.blk.cell 1
 have hR1 : w.heap.size < w2.heap.size := Ha.blk.lt
 have H2 := hid (Ha.put 1 (.string node) #[.string job, .string node, .int .i64 0] rfl)
 clear hr hp hs1 hg1 Ha H1 u0 x0 hR0
 go_wp2_with fail
 refine Calls.mono (sxnum g s2 _ H2.out.at_) ?_
 intro e w3 hp
 rcases hr : numP s2 with ⟨till, s3⟩ | x
 rotate_left
 · obtain ⟨rfl, hg⟩ := hp.bad hr
   have E2 := hid hr
   have hres := hid (show leaseP s = .bad x by rw [HP.out]; rw [E0.out]; rw [RR.bind_ok]; rw [E1.out]; rw [RR.bind_ok]; rw [E2.out]; rw [RR.bind_bad])
   have hg := hid (grow_trans H2.out.keep hg)
   clear hr hp
   unfold thrown
   go_wp2
   exact ⟨rfl, SxPost.mkBad hres.out hg.out⟩
 obtain ⟨rfl, hs1, hg1⟩ := hp.ok hr
 have E2 := hid hr
 have hle2 := numP_le hr
 have Ha := H2.out.next hs1 hg1
 have u2 : w3.frozen? ⟨w.heap.size, 2, none⟩ = false := Ha.blk.thaw 2
 have x2 : w3.cell? ⟨w.heap.size, 2, none⟩ = some (.int .i64 0) := Ha.blk.cell 2
 have hR2 : w.heap.size < w3.heap.size := Ha.blk.lt
 have H3 := hid (Ha.put 2 (.int .i64 ((till : Nat) : Int)) #[.string job, .string node, .int .i64 ((till : Nat) : Int)] rfl)
 obtain ⟨y0, y1⟩ := Blk.c2 (Ha.blk)
 obtain ⟨z0, z1⟩ := Blk.z2 (Ha.blk)
 clear hr hp hs1 hg1 Ha H2 u1 x1 hR1
 have Q := (((H3.out.put 0 (.string job) #[.string job, .string node, .int .i64 ((till : Nat) : Int)] rfl).put 1 (.string node) #[.string job, .string node, .int .i64 ((till : Nat) : Int)] rfl).put 2 (.int .i64 ((till : Nat) : Int)) #[.string job, .string node, .int .i64 ((till : Nat) : Int)] rfl)
 have q0 := (show _ = (some (.string job) : Option Value) from Q.blk.cell 0)
 have q1 := (show _ = (some (.string node) : Option Value) from Q.blk.cell 1)
 have q2 := (show _ = (some (.int .i64 ((till : Nat) : Int)) : Option Value) from Q.blk.cell 2)
 have Hok := hid Q.at_
 have Hkp := hid Q.keep
 have hres := hid (show leaseP s = .ok ⟨job, node, ((till : Nat) : Int)⟩ s3 by rw [HP.out]; rw [E0.out]; rw [RR.bind_ok]; rw [E1.out]; rw [RR.bind_ok]; rw [E2.out]; rw [RR.bind_ok]; try rfl)
 clear Q
 go_wp2
 refine bodyPost_ret (v := .agg #[.string job, .string node, .int .i64 ((till : Nat) : Int)]) (by simp [results, Tryz.results249, go_sem, *]) rfl ?_
 exact SxPost.mkOk hres.out Hok.out Hkp.out
theorem sxjob (g : Nat) (s : ByteArray) (v : Int) (w : World) (h : SxAt w g s) :
 Calls Tryz.prog 247 #[.pointer (some ⟨g, 0, none⟩), .int .i64 v] w (SxPost g (jobP v s) (fun x : JobD => .agg (jobV x).toArray) w) := by
 by_cases h1 : 1 < v
 · by_cases h2 : 2 < v
   · exact sxjob_2 g s v w h1 h2 h
   · exact sxjob_1 g s v w h1 h2 h
 · exact sxjob_0 g s v w h1 (by omega) h
theorem sxnode (g : Nat) (s : ByteArray) (v : Int) (w : World) (h : SxAt w g s) :
 Calls Tryz.prog 248 #[.pointer (some ⟨g, 0, none⟩), .int .i64 v] w (SxPost g (nodeP v s) (fun x : NodeD => .agg (nodeV x).toArray) w) := by
 by_cases h1 : 1 < v
 · exact sxnode_1 g s v w h1 h
 · exact sxnode_0 g s v w h1 h
end Go.Proofs.YtjgnnobccecpeaaGreatDoor
