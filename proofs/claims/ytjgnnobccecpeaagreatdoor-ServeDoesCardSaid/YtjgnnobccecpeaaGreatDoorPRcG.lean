/- Of the proof. -/
import Derived.Test.YtjgnnobccecpeaaGreatDoorPRcE
set_option linter.unusedVariables false
set_option linter.unusedSimpArgs false
set_option maxRecDepth 100000
set_option maxHeartbeats 8000000
namespace Go.Proofs.YtjgnnobccecpeaaGreatDoor
open Go.Lib (hid)
open List (foldl_cons foldl_nil setIfInBounds_toArray set_cons_succ set_cons_zero)
open Go.RowKit
theorem part_8 (q : ReqD) (w : World) (hq : q.kind = 8) : Calls Tryz.prog 105 #[reqA q] w fun e w' => e = .returned (.iface 261 (.agg #[])) ∧ Below w.heap.size w w' := by
 obtain ⟨W, hW⟩ : ∃ W, w.alloc (.cells (reqC q) 44) = W := ⟨_, rfl⟩
 have hb : Blk W w.heap.size 44 (reqC q) := by rw [← hW]; exact heap_alloc_new w _
 have hbW : Below w.heap.size w W := by rw [← hW]; exact (Below.refl _ _).alloc (Nat.le_refl _) _
 have h0 : W.cell? ⟨w.heap.size, 0, none⟩ = some (.int .i64 8) := by rw [hb.cell 0, ← hq]; rfl
 have HbW := hid hbW
 unfold reqA
 unfold reqC at hW ⊢
 clear hq hb hbW
 go_enter Tryz.func105, Tryz.ntmps105
 go_wp2
 try rw [hW]
 clear hW
 go_ret
 exact ⟨rfl, HbW.out⟩
theorem part_9 (q : ReqD) (w : World) (hq : q.kind = 9) : Calls Tryz.prog 105 #[reqA q] w fun e w' => e = .returned (.iface 261 (.agg #[])) ∧ Below w.heap.size w w' := by
 obtain ⟨W, hW⟩ : ∃ W, w.alloc (.cells (reqC q) 44) = W := ⟨_, rfl⟩
 have hb : Blk W w.heap.size 44 (reqC q) := by rw [← hW]; exact heap_alloc_new w _
 have hbW : Below w.heap.size w W := by rw [← hW]; exact (Below.refl _ _).alloc (Nat.le_refl _) _
 have h0 : W.cell? ⟨w.heap.size, 0, none⟩ = some (.int .i64 9) := by rw [hb.cell 0, ← hq]; rfl
 have HbW := hid hbW
 unfold reqA
 unfold reqC at hW ⊢
 clear hq hb hbW
 go_enter Tryz.func105, Tryz.ntmps105
 go_wp2
 try rw [hW]
 clear hW
 go_ret
 exact ⟨rfl, HbW.out⟩
theorem part_0 (q : ReqD) (w : World) (hq : ranged q.kind 1 9 = false) : Calls Tryz.prog 105 #[reqA q] w fun e w' => e = .returned .nilIface ∧ Below w.heap.size w w' := by
 obtain ⟨W, hW⟩ : ∃ W, w.alloc (.cells (reqC q) 44) = W := ⟨_, rfl⟩
 have hb : Blk W w.heap.size 44 (reqC q) := by rw [← hW]; exact heap_alloc_new w _
 have hbW : Below w.heap.size w W := by rw [← hW]; exact (Below.refl _ _).alloc (Nat.le_refl _) _
 have h0 : W.cell? ⟨w.heap.size, 0, none⟩ = some (.int .i64 q.kind) := hb.cell 0
 have hk := ranged_not.1 hq
 have d1 : (q.kind == 1) = false := beq_false_of_ne (by omega)
 have d2 : (q.kind == 2) = false := beq_false_of_ne (by omega)
 have d3 : (q.kind == 3) = false := beq_false_of_ne (by omega)
 have d4 : (q.kind == 4) = false := beq_false_of_ne (by omega)
 have d5 : (q.kind == 5) = false := beq_false_of_ne (by omega)
 have d6 : (q.kind == 6) = false := beq_false_of_ne (by omega)
 have d7 : (q.kind == 7) = false := beq_false_of_ne (by omega)
 have d8 : (q.kind == 8) = false := beq_false_of_ne (by omega)
 have d9 : (q.kind == 9) = false := beq_false_of_ne (by omega)
 have HbW := hid hbW
 unfold reqA
 unfold reqC at hW ⊢
 clear hq hb hbW hk
 go_enter Tryz.func105, Tryz.ntmps105
 go_wp2
 try rw [hW]
 clear hW
 go_ret
 exact ⟨rfl, HbW.out⟩
theorem into_none (p : Value) (w : World) : Calls Tryz.prog 401 #[.agg #[], p] w fun e w' => e = .returned (.tuple #[]) ∧ Below w.heap.size w w' := by
 go_enter Tryz.func401, Tryz.ntmps401
 go_wp2
 go_end0
 exact ⟨rfl, (Below.refl _ _).alloc (Nat.le_refl _) _⟩
theorem pcheck_none (w : World) : Calls Tryz.prog 400 #[.agg #[]] w (ErrPost 0 w) := by
 go_enter Tryz.func400, Tryz.ntmps400
 go_wp2
 go_ret
 exact ⟨rfl, (Below.refl _ _).alloc (Nat.le_refl _) _⟩
open Go.RowKit
theorem whole_none (q : ReqD) (w : World) : Calls Tryz.prog 106 #[.int .i64 q.kind, .iface 261 (.agg #[])] w fun e w' => e = .returned (reqA (kindQ q.kind)) ∧ Below w.heap.size w w' := by
 obtain ⟨W, hW⟩ : ∃ W, (w.alloc (.cells (reqC (kindQ 0)) 44)).alloc (.cells (reqC (kindQ q.kind)) 44) = W := ⟨_, rfl⟩
 have hbW : Below w.heap.size w W := by rw [← hW]; exact ((Below.refl _ _).alloc (Nat.le_refl _) _).alloc (by simp) _
 have hr : Blk W w.heap.size 44 (reqC (kindQ 0)) := by rw [← hW]; exact Blk.alloc (show Blk _ _ _ _ from heap_alloc_new w _) _
 have hs : Blk W (w.heap.size + 1) 44 (reqC (kindQ q.kind)) := by
  rw [← hW]
  have := heap_alloc_new (w.alloc (.cells (reqC (kindQ 0)) 44)) (.cells (reqC (kindQ q.kind)) 44)
  rwa [show (w.alloc (.cells (reqC (kindQ 0)) 44)).heap.size = w.heap.size + 1 by simp] at this
 have HI := hid (into_none (.pointer (some ⟨w.heap.size + 1, 0, none⟩)) W)
 have HbW := hid hbW
 have Hr := hid hr
 have Hs := hid hs
 have hm : ∀ w, (method 525 261 (.agg #[]) "bracken/req.into").run Tryz.prog w = .ok (401, .agg #[]) w := fun _ => by kernel_rfl
 clear hbW hr hs
 unfold kindQ reqC noJob noNode noLease at hW
 have HW := hid hW
 clear hW
 go_enter Tryz.func106, Tryz.ntmps106
 go_wp2_with fail
 rw [HW.out]
 clear HW
 refine Calls.mono HI.out ?_
 rintro e w1 ⟨rfl, hb1⟩
 have hr1 : Blk w1 w.heap.size 44 (reqC (kindQ 0)) := Hr.out.below hb1 Hr.out.lt
 have hs1 : Blk w1 (w.heap.size + 1) 44 (reqC (kindQ q.kind)) := Hs.out.below hb1 Hs.out.lt
 have Hfin := hid ((HbW.out.trans (hb1.mono HbW.out.size)))
 obtain ⟨s0, s1, s2, s3, s4, s5, s6, s7, s8, s9, s10, s11, s12, s13⟩ := Blk.c14 (show Blk w1 (w.heap.size + 1) _ #[.int .i64 q.kind, .string ⟨#[]⟩, .int .i64 0, .int .i64 0, .int .i64 0, .string ⟨#[]⟩, .string ⟨#[]⟩, .int .i64 0, .string ⟨#[]⟩, .string ⟨#[]⟩, .string ⟨#[]⟩, .int .i64 0, .string ⟨#[]⟩, .int .i64 0] from hs1)
 obtain ⟨r0, r1, r2, r3, r4, r5, r6, r7, r8, r9, r10, r11, r12, r13⟩ := Blk.c14 (show Blk w1 (w.heap.size) _ #[.int .i64 0, .string ⟨#[]⟩, .int .i64 0, .int .i64 0, .int .i64 0, .string ⟨#[]⟩, .string ⟨#[]⟩, .int .i64 0, .string ⟨#[]⟩, .string ⟨#[]⟩, .string ⟨#[]⟩, .int .i64 0, .string ⟨#[]⟩, .int .i64 0] from hr1)
 obtain ⟨z0, z1, z2, z3, z4, z5, z6, z7, z8, z9, z10, z11, z12, z13⟩ := Blk.z14 (hr1)
 have hl1 := hs1.lt
 have hl2 := hr1.lt
 have Hr1 := hid hr1
 clear hs1 hb1 hr1 HI
 go_wp2
 have hf : Blk (World.setCell (World.setCell (World.setCell (World.setCell (World.setCell (World.setCell (World.setCell (World.setCell (World.setCell (World.setCell (World.setCell (World.setCell (World.setCell (World.setCell w1 ⟨w.heap.size, 0, none⟩ (.int .i64 q.kind)) ⟨w.heap.size, 1, none⟩ (.string ⟨#[]⟩)) ⟨w.heap.size, 2, none⟩ (.int .i64 0)) ⟨w.heap.size, 3, none⟩ (.int .i64 0)) ⟨w.heap.size, 4, none⟩ (.int .i64 0)) ⟨w.heap.size, 5, none⟩ (.string ⟨#[]⟩)) ⟨w.heap.size, 6, none⟩ (.string ⟨#[]⟩)) ⟨w.heap.size, 7, none⟩ (.int .i64 0)) ⟨w.heap.size, 8, none⟩ (.string ⟨#[]⟩)) ⟨w.heap.size, 9, none⟩ (.string ⟨#[]⟩)) ⟨w.heap.size, 10, none⟩ (.string ⟨#[]⟩)) ⟨w.heap.size, 11, none⟩ (.int .i64 0)) ⟨w.heap.size, 12, none⟩ (.string ⟨#[]⟩)) ⟨w.heap.size, 13, none⟩ (.int .i64 0)) w.heap.size 44 (reqC (kindQ q.kind)) := setReq_blk (kindQ q.kind) Hr1.out
 have hB : Below w.heap.size w (World.setCell (World.setCell (World.setCell (World.setCell (World.setCell (World.setCell (World.setCell (World.setCell (World.setCell (World.setCell (World.setCell (World.setCell (World.setCell (World.setCell w1 ⟨w.heap.size, 0, none⟩ (.int .i64 q.kind)) ⟨w.heap.size, 1, none⟩ (.string ⟨#[]⟩)) ⟨w.heap.size, 2, none⟩ (.int .i64 0)) ⟨w.heap.size, 3, none⟩ (.int .i64 0)) ⟨w.heap.size, 4, none⟩ (.int .i64 0)) ⟨w.heap.size, 5, none⟩ (.string ⟨#[]⟩)) ⟨w.heap.size, 6, none⟩ (.string ⟨#[]⟩)) ⟨w.heap.size, 7, none⟩ (.int .i64 0)) ⟨w.heap.size, 8, none⟩ (.string ⟨#[]⟩)) ⟨w.heap.size, 9, none⟩ (.string ⟨#[]⟩)) ⟨w.heap.size, 10, none⟩ (.string ⟨#[]⟩)) ⟨w.heap.size, 11, none⟩ (.int .i64 0)) ⟨w.heap.size, 12, none⟩ (.string ⟨#[]⟩)) ⟨w.heap.size, 13, none⟩ (.int .i64 0)) := Hfin.out.trans (setReq_below w1 w.heap.size (kindQ q.kind))
 generalize (World.setCell (World.setCell (World.setCell (World.setCell (World.setCell (World.setCell (World.setCell (World.setCell (World.setCell (World.setCell (World.setCell (World.setCell (World.setCell (World.setCell w1 ⟨w.heap.size, 0, none⟩ (.int .i64 q.kind)) ⟨w.heap.size, 1, none⟩ (.string ⟨#[]⟩)) ⟨w.heap.size, 2, none⟩ (.int .i64 0)) ⟨w.heap.size, 3, none⟩ (.int .i64 0)) ⟨w.heap.size, 4, none⟩ (.int .i64 0)) ⟨w.heap.size, 5, none⟩ (.string ⟨#[]⟩)) ⟨w.heap.size, 6, none⟩ (.string ⟨#[]⟩)) ⟨w.heap.size, 7, none⟩ (.int .i64 0)) ⟨w.heap.size, 8, none⟩ (.string ⟨#[]⟩)) ⟨w.heap.size, 9, none⟩ (.string ⟨#[]⟩)) ⟨w.heap.size, 10, none⟩ (.string ⟨#[]⟩)) ⟨w.heap.size, 11, none⟩ (.int .i64 0)) ⟨w.heap.size, 12, none⟩ (.string ⟨#[]⟩)) ⟨w.heap.size, 13, none⟩ (.int .i64 0)) = wf at hf hB ⊢
 clear s0 r0 z0 s1 r1 z1 s2 r2 z2 s3 r3 z3 s4 r4 z4 s5 r5 z5 s6 r6 z6 s7 r7 z7 s8 r8 z8 s9 r9 z9 s10 r10 z10 s11 r11 z11 s12 r12 z12 s13 r13 z13 hl1 hl2 hm
 obtain ⟨f0, f1, f2, f3, f4, f5, f6, f7, f8, f9, f10, f11, f12, f13⟩ := Blk.c14 (show Blk wf (w.heap.size) _ #[.int .i64 q.kind, .string ⟨#[]⟩, .int .i64 0, .int .i64 0, .int .i64 0, .string ⟨#[]⟩, .string ⟨#[]⟩, .int .i64 0, .string ⟨#[]⟩, .string ⟨#[]⟩, .string ⟨#[]⟩, .int .i64 0, .string ⟨#[]⟩, .int .i64 0] from hf)
 have HB := hid hB
 clear hf hB
 refine bodyPost_ret (v := .agg #[.int .i64 q.kind, .string ⟨#[]⟩, .int .i64 0, .int .i64 0, .int .i64 0, .string ⟨#[]⟩, .string ⟨#[]⟩, .int .i64 0, .string ⟨#[]⟩, .string ⟨#[]⟩, .string ⟨#[]⟩, .int .i64 0, .string ⟨#[]⟩, .int .i64 0]) (by simp [results, Tryz.results106, go_sem, *]) rfl ?_
 exact ⟨rfl, HB.out⟩
def cknoneV (B : Nat) (q : ReqD) (t : Bool) : Nat → Value → Prop
 | 0, u => u = .pointer (some ⟨B, 0, none⟩)
 | 1, u => u = .int .i64 q.kind
 | 2, u => u = .iface 261 (.agg #[])
 | 3, u => u = .agg #[.int .i64 q.kind, .string ⟨#[]⟩, .int .i64 0, .int .i64 0, .int .i64 0, .string ⟨#[]⟩, .string ⟨#[]⟩, .int .i64 0, .string ⟨#[]⟩, .string ⟨#[]⟩, .string ⟨#[]⟩, .int .i64 0, .string ⟨#[]⟩, .int .i64 0]
 | 4, u => u = .agg #[.int .i64 q.kind, .string q.job.name, .int .i64 q.job.prio, .int .i64 q.job.need, .int .i64 q.job.tries, .string q.job.tag, .string q.node.name, .int .i64 q.node.room, .string q.node.zone, .string q.lease.job, .string q.lease.node, .int .i64 q.lease.till, .string q.name, .int .i64 q.n]
 | 5, u => u = .bool (!t)
 | 6, u => u = .bool (!t)
 | _, _ => False
theorem rcheck_8 (q : ReqD) (w : World) (hq : q.kind = 8) : Calls Tryz.prog 35 #[reqA q] w (ErrPost (reqE q) w) := by
 obtain ⟨W, hW⟩ : ∃ W, w.alloc (.cells (reqC q) 44) = W := ⟨_, rfl⟩
 have hb : Blk W w.heap.size 44 (reqC q) := by rw [← hW]; exact heap_alloc_new w _
 have hbW : Below w.heap.size w W := by rw [← hW]; exact (Below.refl _ _).alloc (Nat.le_refl _) _
 have HPt := hid (part_8 q W hq)
 have how : ownQ q = (kindQ q.kind) := by unfold ownQ kindQ; simp [hq]
 have hpe : partE q = 0 := by unfold partE; simp [hq]
 have hre : (((kindQ q.kind) : ReqD) ≠ q → reqE q = 4) ∧ (((kindQ q.kind) : ReqD) = q → reqE q = partE q) := by
  unfold reqE
  rw [how, if_neg (by rw [hq]; decide)]
  exact ⟨fun h => if_pos h, fun h => if_neg (fun h' => h' h)⟩
 obtain ⟨t, ht, hrun0⟩ := neqv_req (kindQ q.kind) q
 have hrun : ∀ W, (binOp .neq 44 (.agg #[.int .i64 q.kind, .string ⟨#[]⟩, .int .i64 0, .int .i64 0, .int .i64 0, .string ⟨#[]⟩, .string ⟨#[]⟩, .int .i64 0, .string ⟨#[]⟩, .string ⟨#[]⟩, .string ⟨#[]⟩, .int .i64 0, .string ⟨#[]⟩, .int .i64 0]) (.agg (reqL q))).run Tryz.prog W = .ok (.bool (!t)) W := hrun0
 clear hrun0 how
 obtain ⟨c0, c1, c2, c3, c4, c5, c6, c7, c8, c9, c10, c11, c12, c13⟩ := Blk.c14 (hb)
 have hlt := hb.lt
 have Hq := hid hb
 have HbW := hid hbW
 have HRe := hid hre
 have HPe := hid hpe
 have Ht := hid ht
 have Hrun := hid hrun
 have HW := hid hW
 clear hb hbW hre hpe ht hrun hW
 obtain ⟨E0, hE0⟩ : ∃ E0, reqE q = E0 := ⟨_, rfl⟩
 rw [hE0]
 have HE0 := hid hE0
 clear hE0
 unfold reqA at HPt ⊢
 unfold reqC at HPt ⊢
 unfold reqC at HW
 clear hq
 have hn : ∀ (w : World), (binOp .eql 165 (.iface 261 (.agg #[])) .nilIface).run Tryz.prog w = .ok (.bool false) w := fun _ => rfl
 go_enter Tryz.func35, Tryz.ntmps35
 go_wp2_with fail
 try simp only [HW.out]
 clear HW
 refine Calls.mono HPt.out ?_
 rintro e w1 ⟨rfl, hb1⟩
 have H0 : RckAt w q w.heap.size 44 (reqC q) w1 := ⟨Hq.out.below hb1 Hq.out.lt, Hq.out.below hb1 Hq.out.lt, HbW.out.trans (hb1.mono HbW.out.size)⟩
 clear hb1 HPt c0 c1 c2 c3 c4 c5 c6 c7 c8 c9 c10 c11 c12 c13 hlt
 go_wp2_with fail
 have hrun := Hrun.out
 refine rq (Γ := Unit) 18 (fun _ => cknoneV w.heap.size q t) [] (fun _ _ wx => RckAt w q w.heap.size 44 (reqC q) wx) () (H0.next (Below.refl _ _).drew) ?_ ?_
 · refine ⟨?_, ?_, ?_, ?_, ?_, ?_, ?_, trivial⟩
   · exact ok0 0 0 1 rfl fun _ => rfl
   · refine okQ 0 0 fun p γ a wx _ _ hp hk => ?_
     obtain ⟨u1, h1, rfl⟩ := hk.g 0 10 rfl rfl
     have hc0 : wx.cell? ⟨w.heap.size, 0, none⟩ = some (.int .i64 q.kind) := hp.qb.cell 0
     simp [go_sem, Oper.wp, execOp, Act.eval, h1, hc0]
     exact ⟨_, rfl, rfl, hp⟩
   · exact ok0 0 0 3 rfl fun _ => rfl
   · refine okQ 0 0 fun p γ a wx _ _ hp hk => ?_
     obtain ⟨u1, h1, rfl⟩ := hk.g 1 11 rfl rfl
     obtain ⟨u2, h2, rfl⟩ := hk.g 2 12 rfl rfl
     simp [go_sem, Oper.wp, execOp, Act.eval, h1, h2]
     refine (whole_none q wx).mono ?_
     rintro e w' ⟨rfl, hb⟩
     exact ⟨_, rfl, rfl, hp.next hb⟩
   · refine okQ 0 0 fun p γ a wx _ _ hp hk => ?_
     have h1 := hk.k 1 rfl
     obtain ⟨hc0, hc1, hc2, hc3, hc4, hc5, hc6, hc7, hc8, hc9, hc10, hc11, hc12, hc13⟩ := Blk.c14 (hp.qb)
     simp [go_sem, Oper.wp, execOp, Act.eval, h1, hc0, hc1, hc2, hc3, hc4, hc5, hc6, hc7, hc8, hc9, hc10, hc11, hc12, hc13]
     exact ⟨_, rfl, rfl, hp⟩
   · refine okQ 0 0 fun p γ a wx _ _ hp hk => ?_
     obtain ⟨u1, h1, rfl⟩ := hk.g 3 13 rfl rfl
     obtain ⟨u2, h2, rfl⟩ := hk.g 4 14 rfl rfl
     simp [go_sem, Oper.wp, execOp, Act.eval, h1, h2, hrun]
     exact ⟨_, rfl, rfl, hp⟩
   · exact ok1 0 0 5 15 rfl rfl (fun _ _ h => h) fun _ => rfl
 intro γ a wy hd
 have H1 := hid hd.ph
 obtain ⟨fv, rfl, hfv⟩ := hd.frame [10, 11, 12, 13, 14, 15, 9] rfl
 have h9 : fv 9 = .bool (!t) := hfv 6 _ 9 rfl rfl
 clear hd hfv H0 hrun Hrun
 simp only [foldl_cons, foldl_nil, setIfInBounds_toArray, set_cons_succ, set_cons_zero, h9]
 clear h9
 cases t
 · have hE : reqE q = 4 := HRe.out.1 (fun h => by have := Ht.out.2 h; cases this)
   obtain rfl : (4 : Int) = E0 := hE.symm.trans HE0.out
   have Hfin := hid (show ErrPost 4 w (.returned (.int .i64 4)) wy from ⟨rfl, H1.out.below⟩)
   clear hE HRe HPe Ht HE0
   go_wp2
   go_ret
   exact Hfin.out
 · have hE : reqE q = partE q := HRe.out.2 (Ht.out.1 rfl)
   obtain rfl : (0 : Int) = E0 := (hE.trans HPe.out).symm.trans HE0.out
   have HK := hid (pcheck_none wy)
   clear hE HPe HRe HE0
   have hm : ∀ w, (method 525 261 (.agg #[]) "bracken/req.check").run Tryz.prog w = .ok (400, .agg #[]) w := fun _ => by kernel_rfl
   go_wp2_with fail
   refine Calls.mono HK.out ?_
   rintro e w5 ⟨rfl, hb5⟩
   have HB := hid (H1.out.below.trans (hb5.mono H1.out.below.size))
   have Hfin := hid (show ErrPost 0 w (.returned (.int .i64 0)) w5 from ⟨rfl, HB.out⟩)
   clear hb5 HK H1 HB
   go_wp2
   go_ret
   exact Hfin.out
theorem rcheck_9 (q : ReqD) (w : World) (hq : q.kind = 9) : Calls Tryz.prog 35 #[reqA q] w (ErrPost (reqE q) w) := by
 obtain ⟨W, hW⟩ : ∃ W, w.alloc (.cells (reqC q) 44) = W := ⟨_, rfl⟩
 have hb : Blk W w.heap.size 44 (reqC q) := by rw [← hW]; exact heap_alloc_new w _
 have hbW : Below w.heap.size w W := by rw [← hW]; exact (Below.refl _ _).alloc (Nat.le_refl _) _
 have HPt := hid (part_9 q W hq)
 have how : ownQ q = (kindQ q.kind) := by unfold ownQ kindQ; simp [hq]
 have hpe : partE q = 0 := by unfold partE; simp [hq]
 have hre : (((kindQ q.kind) : ReqD) ≠ q → reqE q = 4) ∧ (((kindQ q.kind) : ReqD) = q → reqE q = partE q) := by
  unfold reqE
  rw [how, if_neg (by rw [hq]; decide)]
  exact ⟨fun h => if_pos h, fun h => if_neg (fun h' => h' h)⟩
 obtain ⟨t, ht, hrun0⟩ := neqv_req (kindQ q.kind) q
 have hrun : ∀ W, (binOp .neq 44 (.agg #[.int .i64 q.kind, .string ⟨#[]⟩, .int .i64 0, .int .i64 0, .int .i64 0, .string ⟨#[]⟩, .string ⟨#[]⟩, .int .i64 0, .string ⟨#[]⟩, .string ⟨#[]⟩, .string ⟨#[]⟩, .int .i64 0, .string ⟨#[]⟩, .int .i64 0]) (.agg (reqL q))).run Tryz.prog W = .ok (.bool (!t)) W := hrun0
 clear hrun0 how
 obtain ⟨c0, c1, c2, c3, c4, c5, c6, c7, c8, c9, c10, c11, c12, c13⟩ := Blk.c14 (hb)
 have hlt := hb.lt
 have Hq := hid hb
 have HbW := hid hbW
 have HRe := hid hre
 have HPe := hid hpe
 have Ht := hid ht
 have Hrun := hid hrun
 have HW := hid hW
 clear hb hbW hre hpe ht hrun hW
 obtain ⟨E0, hE0⟩ : ∃ E0, reqE q = E0 := ⟨_, rfl⟩
 rw [hE0]
 have HE0 := hid hE0
 clear hE0
 unfold reqA at HPt ⊢
 unfold reqC at HPt ⊢
 unfold reqC at HW
 clear hq
 have hn : ∀ (w : World), (binOp .eql 165 (.iface 261 (.agg #[])) .nilIface).run Tryz.prog w = .ok (.bool false) w := fun _ => rfl
 go_enter Tryz.func35, Tryz.ntmps35
 go_wp2_with fail
 try simp only [HW.out]
 clear HW
 refine Calls.mono HPt.out ?_
 rintro e w1 ⟨rfl, hb1⟩
 have H0 : RckAt w q w.heap.size 44 (reqC q) w1 := ⟨Hq.out.below hb1 Hq.out.lt, Hq.out.below hb1 Hq.out.lt, HbW.out.trans (hb1.mono HbW.out.size)⟩
 clear hb1 HPt c0 c1 c2 c3 c4 c5 c6 c7 c8 c9 c10 c11 c12 c13 hlt
 go_wp2_with fail
 have hrun := Hrun.out
 refine rq (Γ := Unit) 18 (fun _ => cknoneV w.heap.size q t) [] (fun _ _ wx => RckAt w q w.heap.size 44 (reqC q) wx) () (H0.next (Below.refl _ _).drew) ?_ ?_
 · refine ⟨?_, ?_, ?_, ?_, ?_, ?_, ?_, trivial⟩
   · exact ok0 0 0 1 rfl fun _ => rfl
   · refine okQ 0 0 fun p γ a wx _ _ hp hk => ?_
     obtain ⟨u1, h1, rfl⟩ := hk.g 0 10 rfl rfl
     have hc0 : wx.cell? ⟨w.heap.size, 0, none⟩ = some (.int .i64 q.kind) := hp.qb.cell 0
     simp [go_sem, Oper.wp, execOp, Act.eval, h1, hc0]
     exact ⟨_, rfl, rfl, hp⟩
   · exact ok0 0 0 3 rfl fun _ => rfl
   · refine okQ 0 0 fun p γ a wx _ _ hp hk => ?_
     obtain ⟨u1, h1, rfl⟩ := hk.g 1 11 rfl rfl
     obtain ⟨u2, h2, rfl⟩ := hk.g 2 12 rfl rfl
     simp [go_sem, Oper.wp, execOp, Act.eval, h1, h2]
     refine (whole_none q wx).mono ?_
     rintro e w' ⟨rfl, hb⟩
     exact ⟨_, rfl, rfl, hp.next hb⟩
   · refine okQ 0 0 fun p γ a wx _ _ hp hk => ?_
     have h1 := hk.k 1 rfl
     obtain ⟨hc0, hc1, hc2, hc3, hc4, hc5, hc6, hc7, hc8, hc9, hc10, hc11, hc12, hc13⟩ := Blk.c14 (hp.qb)
     simp [go_sem, Oper.wp, execOp, Act.eval, h1, hc0, hc1, hc2, hc3, hc4, hc5, hc6, hc7, hc8, hc9, hc10, hc11, hc12, hc13]
     exact ⟨_, rfl, rfl, hp⟩
   · refine okQ 0 0 fun p γ a wx _ _ hp hk => ?_
     obtain ⟨u1, h1, rfl⟩ := hk.g 3 13 rfl rfl
     obtain ⟨u2, h2, rfl⟩ := hk.g 4 14 rfl rfl
     simp [go_sem, Oper.wp, execOp, Act.eval, h1, h2, hrun]
     exact ⟨_, rfl, rfl, hp⟩
   · exact ok1 0 0 5 15 rfl rfl (fun _ _ h => h) fun _ => rfl
 intro γ a wy hd
 have H1 := hid hd.ph
 obtain ⟨fv, rfl, hfv⟩ := hd.frame [10, 11, 12, 13, 14, 15, 9] rfl
 have h9 : fv 9 = .bool (!t) := hfv 6 _ 9 rfl rfl
 clear hd hfv H0 hrun Hrun
 simp only [foldl_cons, foldl_nil, setIfInBounds_toArray, set_cons_succ, set_cons_zero, h9]
 clear h9
 cases t
 · have hE : reqE q = 4 := HRe.out.1 (fun h => by have := Ht.out.2 h; cases this)
   obtain rfl : (4 : Int) = E0 := hE.symm.trans HE0.out
   have Hfin := hid (show ErrPost 4 w (.returned (.int .i64 4)) wy from ⟨rfl, H1.out.below⟩)
   clear hE HRe HPe Ht HE0
   go_wp2
   go_ret
   exact Hfin.out
 · have hE : reqE q = partE q := HRe.out.2 (Ht.out.1 rfl)
   obtain rfl : (0 : Int) = E0 := (hE.trans HPe.out).symm.trans HE0.out
   have HK := hid (pcheck_none wy)
   clear hE HPe HRe HE0
   have hm : ∀ w, (method 525 261 (.agg #[]) "bracken/req.check").run Tryz.prog w = .ok (400, .agg #[]) w := fun _ => by kernel_rfl
   go_wp2_with fail
   refine Calls.mono HK.out ?_
   rintro e w5 ⟨rfl, hb5⟩
   have HB := hid (H1.out.below.trans (hb5.mono H1.out.below.size))
   have Hfin := hid (show ErrPost 0 w (.returned (.int .i64 0)) w5 from ⟨rfl, HB.out⟩)
   clear hb5 HK H1 HB
   go_wp2
   go_ret
   exact Hfin.out
theorem rcheck_0 (q : ReqD) (w : World) (hq : ranged q.kind 1 9 = false) : Calls Tryz.prog 35 #[reqA q] w (ErrPost (reqE q) w) := by
 obtain ⟨W, hW⟩ : ∃ W, w.alloc (.cells (reqC q) 44) = W := ⟨_, rfl⟩
 have hb : Blk W w.heap.size 44 (reqC q) := by rw [← hW]; exact heap_alloc_new w _
 have hbW : Below w.heap.size w W := by rw [← hW]; exact (Below.refl _ _).alloc (Nat.le_refl _) _
 have HPt := hid (part_0 q W hq)
 have hre : reqE q = 1 := by unfold reqE; rw [if_pos hq]
 rw [hre]
 obtain ⟨c0, c1, c2, c3, c4, c5, c6, c7, c8, c9, c10, c11, c12, c13⟩ := Blk.c14 (hb)
 have hlt := hb.lt
 have HbW := hid hbW
 have HW := hid hW
 clear hb hbW hre hW hq
 unfold reqA at HPt ⊢
 unfold reqC at HPt ⊢
 unfold reqC at HW
 have hn : ∀ (w : World), (binOp .eql 165 .nilIface .nilIface).run Tryz.prog w = .ok (.bool true) w := fun _ => rfl
 go_enter Tryz.func35, Tryz.ntmps35
 go_wp2_with fail
 try simp only [HW.out]
 clear HW
 refine Calls.mono HPt.out ?_
 rintro e w1 ⟨rfl, hb1⟩
 have Hfin := hid (show ErrPost 1 w (.returned (.int .i64 1)) w1 from ⟨rfl, HbW.out.trans (hb1.mono HbW.out.size)⟩)
 clear hb1 HPt c0 c1 c2 c3 c4 c5 c6 c7 c8 c9 c10 c11 c12 c13 hlt
 go_wp2
 go_ret
 exact Hfin.out
theorem rcheck_any2 (q : ReqD) (w : World) (hok : ROk q) (hT : Tabs w) : Calls Tryz.prog 35 #[reqA q] w (ErrPost (reqE q) w) := by
 cases hr : ranged q.kind 1 9 with
 | false => exact rcheck_0 q w hr
 | true =>
  obtain ⟨h1, h2⟩ := ranged_iff.1 hr
  have : q.kind = 1 ∨ q.kind = 2 ∨ q.kind = 3 ∨ q.kind = 4 ∨ q.kind = 5 ∨ q.kind = 6 ∨ q.kind = 7 ∨ q.kind = 8 ∨ q.kind = 9 := by omega
  rcases this with h | h | h | h | h | h | h | h | h
  · exact rcheck_1 q w h hok hT
  · exact rcheck_2 q w h hok hT
  · exact rcheck_3 q w h hok hT
  · exact rcheck_4 q w h hok hT
  · exact rcheck_5 q w h hok hT
  · exact rcheck_6 q w h hok hT
  · exact rcheck_7 q w h hok hT
  · exact rcheck_8 q w h
  · exact rcheck_9 q w h
end Go.Proofs.YtjgnnobccecpeaaGreatDoor
