/- Of the proof of a statement: RcB. -/
import Derived.Test.YtoeejfhdjmkpcaaGreatDoorTDoA
set_option linter.unusedVariables false
set_option linter.unusedSimpArgs false
set_option maxRecDepth 100000
set_option maxHeartbeats 8000000
/- req.whole: a request with its kind's part alone. -/
namespace Go.Proofs.YtoeejfhdjmkpcaaGreatDoor
open Go.Lib (hid)
open Go.RowKit
def EL (w:World) (S:Nat) (q1:aH):World:=(World.setCell (World.setCell (World.setCell (World.setCell (World.setCell (World.setCell (World.setCell (World.setCell (World.setCell (World.setCell (World.setCell (World.setCell (World.setCell (World.setCell w ⟨S,0,none⟩ (.int .i64 q1.kind)) ⟨S,1,none⟩ (.string q1.job.name)) ⟨S,2,none⟩ (.int .i64 q1.job.prio)) ⟨S,3,none⟩ (.int .i64 q1.job.need)) ⟨S,4,none⟩ (.int .i64 q1.job.tries)) ⟨S,5,none⟩ (.string q1.job.tag)) ⟨S,6,none⟩ (.string q1.node.name)) ⟨S,7,none⟩ (.int .i64 q1.node.room)) ⟨S,8,none⟩ (.string q1.node.zone)) ⟨S,9,none⟩ (.string q1.lease.job)) ⟨S,10,none⟩ (.string q1.lease.node)) ⟨S,11,none⟩ (.int .i64 q1.lease.till)) ⟨S,12,none⟩ (.string q1.name)) ⟨S,13,none⟩ (.int .i64 q1.n))
theorem jm {w:World} {S:Nat} {q0:aH} (q1:aH) (h:Blk w S 40 (aB q0)):Blk (EL w S q1) S 40 (aB q1):=by
 have h14:=(Blk.set (Blk.set (Blk.set (Blk.set (Blk.set (Blk.set (Blk.set (Blk.set (Blk.set (Blk.set (Blk.set (Blk.set (Blk.set (Blk.set h 0 (.int .i64 q1.kind)) 1 (.string q1.job.name)) 2 (.int .i64 q1.job.prio)) 3 (.int .i64 q1.job.need)) 4 (.int .i64 q1.job.tries)) 5 (.string q1.job.tag)) 6 (.string q1.node.name)) 7 (.int .i64 q1.node.room)) 8 (.string q1.node.zone)) 9 (.string q1.lease.job)) 10 (.string q1.lease.node)) 11 (.int .i64 q1.lease.till)) 12 (.string q1.name)) 13 (.int .i64 q1.n))
 refine Blk.eq h14 ?_
 simp [aB]
theorem gT (w:World) (S:Nat) (q1:aH):Below S w (EL w S q1):=(aN ((aN ((aN ((aN ((aN ((aN ((aN ((aN ((aN ((aN ((aN ((aN ((aN ((aN (Below.refl _ _) (Nat.le_refl _))) (Nat.le_refl _))) (Nat.le_refl _))) (Nat.le_refl _))) (Nat.le_refl _))) (Nat.le_refl _))) (Nat.le_refl _))) (Nat.le_refl _))) (Nat.le_refl _))) (Nat.le_refl _))) (Nat.le_refl _))) (Nat.le_refl _))) (Nat.le_refl _))) (Nat.le_refl _))
theorem wF (q:aH) (P:Nat) (w:World) (hp:Blk w P 327 #[.string q.job.name,.int .i64 q.job.prio,.int .i64 q.job.need,.int .i64 q.job.tries,.string q.job.tag]):Calls Tryz.prog 134 #[.int .i64 q.kind,.iface 325 (.pointer (some ⟨P,0,none⟩))] w fun e w'=>e = .returned (bP ⟨q.kind,q.job,aU,aI,⟨#[]⟩,0⟩)∧Below w.heap.size w w':=by
 obtain⟨W,hW⟩:∃ W,(w.alloc (.cells (aB (bq 0)) 40)).alloc (.cells (aB (bq q.kind)) 40)=W:=⟨_,rfl⟩
 have hbW:Below w.heap.size w W:=by rw [← hW]; exact ((Below.refl _ _).alloc (Nat.le_refl _) _).alloc (by simp) _
 have hr:Blk W w.heap.size 40 (aB (bq 0)):=by rw [← hW]; exact Blk.alloc (show Blk _ _ _ _ from heap_alloc_new w _) _
 have hs:Blk W (w.heap.size+1) 40 (aB (bq q.kind)):=by
  rw [← hW]
  have:=heap_alloc_new (w.alloc (.cells (aB (bq 0)) 40)) (.cells (aB (bq q.kind)) 40)
  rwa [show (w.alloc (.cells (aB (bq 0)) 40)).heap.size=w.heap.size+1 by simp] at this
 have HI:=hid (DS q P (w.heap.size+1) W (hp.below hbW hp.lt) hs)
 have HbW:=hid hbW
 have Hr:=hid hr
 have hm : ∀ w, (method 606 325 (.pointer (some ⟨P, 0, none⟩)) "bracken/req.into").run Tryz.prog w = .ok (467, .pointer (some ⟨P, 0, none⟩)) w := fun _ => by kernel_rfl
 clear hp hbW hr hs
 unfold bq aB bZ aU aI at hW
 have HW:=hid hW
 clear hW
 go_enter Tryz.func134,Tryz.ntmps134
 go_wp2_with fail
 rw [HW.out]
 clear HW
 refine Calls.mono HI.out ?_
 rintro e w1 ⟨rfl,hs1,ho,hb1⟩
 have hr1:Blk w1 w.heap.size 40 (aB (bq 0)):=(ho _ Hr.out.lt (by omega)).trans Hr.out
 have aV:=hid ((HbW.out.trans (hb1.mono (Nat.le_succ _))))
 obtain⟨s0,s1,s2,s3,s4,s5,s6,s7,s8,s9,s10,s11,s12,s13⟩:=Blk.c14 (show Blk w1 (w.heap.size+1) _ #[.int .i64 q.kind,.string q.job.name,.int .i64 q.job.prio,.int .i64 q.job.need,.int .i64 q.job.tries,.string q.job.tag,.string ⟨#[]⟩,.int .i64 0,.string ⟨#[]⟩,.string ⟨#[]⟩,.string ⟨#[]⟩,.int .i64 0,.string ⟨#[]⟩,.int .i64 0] from hs1)
 obtain⟨r0,r1,r2,r3,r4,r5,r6,r7,r8,r9,r10,r11,r12,r13⟩:=Blk.c14 (show Blk w1 (w.heap.size) _ #[.int .i64 0,.string ⟨#[]⟩,.int .i64 0,.int .i64 0,.int .i64 0,.string ⟨#[]⟩,.string ⟨#[]⟩,.int .i64 0,.string ⟨#[]⟩,.string ⟨#[]⟩,.string ⟨#[]⟩,.int .i64 0,.string ⟨#[]⟩,.int .i64 0] from hr1)
 obtain⟨z0,z1,z2,z3,z4,z5,z6,z7,z8,z9,z10,z11,z12,z13⟩:=Blk.z14 (hr1)
 have hl1:=hs1.lt
 have hl2:=hr1.lt
 have Hr1:=hid hr1
 clear hs1 ho hb1 hr1 HI
 go_wp2
 have hf:Blk (World.setCell (World.setCell (World.setCell (World.setCell (World.setCell (World.setCell (World.setCell (World.setCell (World.setCell (World.setCell (World.setCell (World.setCell (World.setCell (World.setCell w1 ⟨w.heap.size,0,none⟩ (.int .i64 q.kind)) ⟨w.heap.size,1,none⟩ (.string q.job.name)) ⟨w.heap.size,2,none⟩ (.int .i64 q.job.prio)) ⟨w.heap.size,3,none⟩ (.int .i64 q.job.need)) ⟨w.heap.size,4,none⟩ (.int .i64 q.job.tries)) ⟨w.heap.size,5,none⟩ (.string q.job.tag)) ⟨w.heap.size,6,none⟩ (.string ⟨#[]⟩)) ⟨w.heap.size,7,none⟩ (.int .i64 0)) ⟨w.heap.size,8,none⟩ (.string ⟨#[]⟩)) ⟨w.heap.size,9,none⟩ (.string ⟨#[]⟩)) ⟨w.heap.size,10,none⟩ (.string ⟨#[]⟩)) ⟨w.heap.size,11,none⟩ (.int .i64 0)) ⟨w.heap.size,12,none⟩ (.string ⟨#[]⟩)) ⟨w.heap.size,13,none⟩ (.int .i64 0)) w.heap.size 40 (aB ⟨q.kind,q.job,aU,aI,⟨#[]⟩,0⟩):=jm ⟨q.kind,q.job,aU,aI,⟨#[]⟩,0⟩ Hr1.out
 have hB:Below w.heap.size w (World.setCell (World.setCell (World.setCell (World.setCell (World.setCell (World.setCell (World.setCell (World.setCell (World.setCell (World.setCell (World.setCell (World.setCell (World.setCell (World.setCell w1 ⟨w.heap.size,0,none⟩ (.int .i64 q.kind)) ⟨w.heap.size,1,none⟩ (.string q.job.name)) ⟨w.heap.size,2,none⟩ (.int .i64 q.job.prio)) ⟨w.heap.size,3,none⟩ (.int .i64 q.job.need)) ⟨w.heap.size,4,none⟩ (.int .i64 q.job.tries)) ⟨w.heap.size,5,none⟩ (.string q.job.tag)) ⟨w.heap.size,6,none⟩ (.string ⟨#[]⟩)) ⟨w.heap.size,7,none⟩ (.int .i64 0)) ⟨w.heap.size,8,none⟩ (.string ⟨#[]⟩)) ⟨w.heap.size,9,none⟩ (.string ⟨#[]⟩)) ⟨w.heap.size,10,none⟩ (.string ⟨#[]⟩)) ⟨w.heap.size,11,none⟩ (.int .i64 0)) ⟨w.heap.size,12,none⟩ (.string ⟨#[]⟩)) ⟨w.heap.size,13,none⟩ (.int .i64 0)):=aV.out.trans (gT w1 w.heap.size ⟨q.kind,q.job,aU,aI,⟨#[]⟩,0⟩)
 generalize (World.setCell (World.setCell (World.setCell (World.setCell (World.setCell (World.setCell (World.setCell (World.setCell (World.setCell (World.setCell (World.setCell (World.setCell (World.setCell (World.setCell w1 ⟨w.heap.size,0,none⟩ (.int .i64 q.kind)) ⟨w.heap.size,1,none⟩ (.string q.job.name)) ⟨w.heap.size,2,none⟩ (.int .i64 q.job.prio)) ⟨w.heap.size,3,none⟩ (.int .i64 q.job.need)) ⟨w.heap.size,4,none⟩ (.int .i64 q.job.tries)) ⟨w.heap.size,5,none⟩ (.string q.job.tag)) ⟨w.heap.size,6,none⟩ (.string ⟨#[]⟩)) ⟨w.heap.size,7,none⟩ (.int .i64 0)) ⟨w.heap.size,8,none⟩ (.string ⟨#[]⟩)) ⟨w.heap.size,9,none⟩ (.string ⟨#[]⟩)) ⟨w.heap.size,10,none⟩ (.string ⟨#[]⟩)) ⟨w.heap.size,11,none⟩ (.int .i64 0)) ⟨w.heap.size,12,none⟩ (.string ⟨#[]⟩)) ⟨w.heap.size,13,none⟩ (.int .i64 0))=wf at hf hB ⊢
 clear s0 r0 z0 s1 r1 z1 s2 r2 z2 s3 r3 z3 s4 r4 z4 s5 r5 z5 s6 r6 z6 s7 r7 z7 s8 r8 z8 s9 r9 z9 s10 r10 z10 s11 r11 z11 s12 r12 z12 s13 r13 z13 hl1 hl2 hm
 obtain⟨f0,f1,f2,f3,f4,f5,f6,f7,f8,f9,f10,f11,f12,f13⟩:=Blk.c14 (show Blk wf (w.heap.size) _ #[.int .i64 q.kind,.string q.job.name,.int .i64 q.job.prio,.int .i64 q.job.need,.int .i64 q.job.tries,.string q.job.tag,.string ⟨#[]⟩,.int .i64 0,.string ⟨#[]⟩,.string ⟨#[]⟩,.string ⟨#[]⟩,.int .i64 0,.string ⟨#[]⟩,.int .i64 0] from hf)
 have HB:=hid hB
 clear hf hB
 refine bodyPost_ret (v:=.agg #[.int .i64 q.kind,.string q.job.name,.int .i64 q.job.prio,.int .i64 q.job.need,.int .i64 q.job.tries,.string q.job.tag,.string ⟨#[]⟩,.int .i64 0,.string ⟨#[]⟩,.string ⟨#[]⟩,.string ⟨#[]⟩,.int .i64 0,.string ⟨#[]⟩,.int .i64 0]) (by simp [results,Tryz.results134,go_sem, *]) rfl ?_
 exact⟨rfl,HB.out⟩
theorem A9 (q:aH) (P:Nat) (w:World) (hp:Blk w P 330 #[.string q.node.name,.int .i64 q.node.room,.string q.node.zone]):Calls Tryz.prog 134 #[.int .i64 q.kind,.iface 328 (.pointer (some ⟨P,0,none⟩))] w fun e w'=>e = .returned (bP ⟨q.kind,bZ,q.node,aI,⟨#[]⟩,0⟩)∧Below w.heap.size w w':=by
 obtain⟨W,hW⟩:∃ W,(w.alloc (.cells (aB (bq 0)) 40)).alloc (.cells (aB (bq q.kind)) 40)=W:=⟨_,rfl⟩
 have hbW:Below w.heap.size w W:=by rw [← hW]; exact ((Below.refl _ _).alloc (Nat.le_refl _) _).alloc (by simp) _
 have hr:Blk W w.heap.size 40 (aB (bq 0)):=by rw [← hW]; exact Blk.alloc (show Blk _ _ _ _ from heap_alloc_new w _) _
 have hs:Blk W (w.heap.size+1) 40 (aB (bq q.kind)):=by
  rw [← hW]
  have:=heap_alloc_new (w.alloc (.cells (aB (bq 0)) 40)) (.cells (aB (bq q.kind)) 40)
  rwa [show (w.alloc (.cells (aB (bq 0)) 40)).heap.size=w.heap.size+1 by simp] at this
 have HI:=hid (B8 q P (w.heap.size+1) W (hp.below hbW hp.lt) hs)
 have HbW:=hid hbW
 have Hr:=hid hr
 have hm : ∀ w, (method 606 328 (.pointer (some ⟨P, 0, none⟩)) "bracken/req.into").run Tryz.prog w = .ok (471, .pointer (some ⟨P, 0, none⟩)) w := fun _ => by kernel_rfl
 clear hp hbW hr hs
 unfold bq aB bZ aU aI at hW
 have HW:=hid hW
 clear hW
 go_enter Tryz.func134,Tryz.ntmps134
 go_wp2_with fail
 rw [HW.out]
 clear HW
 refine Calls.mono HI.out ?_
 rintro e w1 ⟨rfl,hs1,ho,hb1⟩
 have hr1:Blk w1 w.heap.size 40 (aB (bq 0)):=(ho _ Hr.out.lt (by omega)).trans Hr.out
 have aV:=hid ((HbW.out.trans (hb1.mono (Nat.le_succ _))))
 obtain⟨s0,s1,s2,s3,s4,s5,s6,s7,s8,s9,s10,s11,s12,s13⟩:=Blk.c14 (show Blk w1 (w.heap.size+1) _ #[.int .i64 q.kind,.string ⟨#[]⟩,.int .i64 0,.int .i64 0,.int .i64 0,.string ⟨#[]⟩,.string q.node.name,.int .i64 q.node.room,.string q.node.zone,.string ⟨#[]⟩,.string ⟨#[]⟩,.int .i64 0,.string ⟨#[]⟩,.int .i64 0] from hs1)
 obtain⟨r0,r1,r2,r3,r4,r5,r6,r7,r8,r9,r10,r11,r12,r13⟩:=Blk.c14 (show Blk w1 (w.heap.size) _ #[.int .i64 0,.string ⟨#[]⟩,.int .i64 0,.int .i64 0,.int .i64 0,.string ⟨#[]⟩,.string ⟨#[]⟩,.int .i64 0,.string ⟨#[]⟩,.string ⟨#[]⟩,.string ⟨#[]⟩,.int .i64 0,.string ⟨#[]⟩,.int .i64 0] from hr1)
 obtain⟨z0,z1,z2,z3,z4,z5,z6,z7,z8,z9,z10,z11,z12,z13⟩:=Blk.z14 (hr1)
 have hl1:=hs1.lt
 have hl2:=hr1.lt
 have Hr1:=hid hr1
 clear hs1 ho hb1 hr1 HI
 go_wp2
 have hf:Blk (World.setCell (World.setCell (World.setCell (World.setCell (World.setCell (World.setCell (World.setCell (World.setCell (World.setCell (World.setCell (World.setCell (World.setCell (World.setCell (World.setCell w1 ⟨w.heap.size,0,none⟩ (.int .i64 q.kind)) ⟨w.heap.size,1,none⟩ (.string ⟨#[]⟩)) ⟨w.heap.size,2,none⟩ (.int .i64 0)) ⟨w.heap.size,3,none⟩ (.int .i64 0)) ⟨w.heap.size,4,none⟩ (.int .i64 0)) ⟨w.heap.size,5,none⟩ (.string ⟨#[]⟩)) ⟨w.heap.size,6,none⟩ (.string q.node.name)) ⟨w.heap.size,7,none⟩ (.int .i64 q.node.room)) ⟨w.heap.size,8,none⟩ (.string q.node.zone)) ⟨w.heap.size,9,none⟩ (.string ⟨#[]⟩)) ⟨w.heap.size,10,none⟩ (.string ⟨#[]⟩)) ⟨w.heap.size,11,none⟩ (.int .i64 0)) ⟨w.heap.size,12,none⟩ (.string ⟨#[]⟩)) ⟨w.heap.size,13,none⟩ (.int .i64 0)) w.heap.size 40 (aB ⟨q.kind,bZ,q.node,aI,⟨#[]⟩,0⟩):=jm ⟨q.kind,bZ,q.node,aI,⟨#[]⟩,0⟩ Hr1.out
 have hB:Below w.heap.size w (World.setCell (World.setCell (World.setCell (World.setCell (World.setCell (World.setCell (World.setCell (World.setCell (World.setCell (World.setCell (World.setCell (World.setCell (World.setCell (World.setCell w1 ⟨w.heap.size,0,none⟩ (.int .i64 q.kind)) ⟨w.heap.size,1,none⟩ (.string ⟨#[]⟩)) ⟨w.heap.size,2,none⟩ (.int .i64 0)) ⟨w.heap.size,3,none⟩ (.int .i64 0)) ⟨w.heap.size,4,none⟩ (.int .i64 0)) ⟨w.heap.size,5,none⟩ (.string ⟨#[]⟩)) ⟨w.heap.size,6,none⟩ (.string q.node.name)) ⟨w.heap.size,7,none⟩ (.int .i64 q.node.room)) ⟨w.heap.size,8,none⟩ (.string q.node.zone)) ⟨w.heap.size,9,none⟩ (.string ⟨#[]⟩)) ⟨w.heap.size,10,none⟩ (.string ⟨#[]⟩)) ⟨w.heap.size,11,none⟩ (.int .i64 0)) ⟨w.heap.size,12,none⟩ (.string ⟨#[]⟩)) ⟨w.heap.size,13,none⟩ (.int .i64 0)):=aV.out.trans (gT w1 w.heap.size ⟨q.kind,bZ,q.node,aI,⟨#[]⟩,0⟩)
 generalize (World.setCell (World.setCell (World.setCell (World.setCell (World.setCell (World.setCell (World.setCell (World.setCell (World.setCell (World.setCell (World.setCell (World.setCell (World.setCell (World.setCell w1 ⟨w.heap.size,0,none⟩ (.int .i64 q.kind)) ⟨w.heap.size,1,none⟩ (.string ⟨#[]⟩)) ⟨w.heap.size,2,none⟩ (.int .i64 0)) ⟨w.heap.size,3,none⟩ (.int .i64 0)) ⟨w.heap.size,4,none⟩ (.int .i64 0)) ⟨w.heap.size,5,none⟩ (.string ⟨#[]⟩)) ⟨w.heap.size,6,none⟩ (.string q.node.name)) ⟨w.heap.size,7,none⟩ (.int .i64 q.node.room)) ⟨w.heap.size,8,none⟩ (.string q.node.zone)) ⟨w.heap.size,9,none⟩ (.string ⟨#[]⟩)) ⟨w.heap.size,10,none⟩ (.string ⟨#[]⟩)) ⟨w.heap.size,11,none⟩ (.int .i64 0)) ⟨w.heap.size,12,none⟩ (.string ⟨#[]⟩)) ⟨w.heap.size,13,none⟩ (.int .i64 0))=wf at hf hB ⊢
 clear s0 r0 z0 s1 r1 z1 s2 r2 z2 s3 r3 z3 s4 r4 z4 s5 r5 z5 s6 r6 z6 s7 r7 z7 s8 r8 z8 s9 r9 z9 s10 r10 z10 s11 r11 z11 s12 r12 z12 s13 r13 z13 hl1 hl2 hm
 obtain⟨f0,f1,f2,f3,f4,f5,f6,f7,f8,f9,f10,f11,f12,f13⟩:=Blk.c14 (show Blk wf (w.heap.size) _ #[.int .i64 q.kind,.string ⟨#[]⟩,.int .i64 0,.int .i64 0,.int .i64 0,.string ⟨#[]⟩,.string q.node.name,.int .i64 q.node.room,.string q.node.zone,.string ⟨#[]⟩,.string ⟨#[]⟩,.int .i64 0,.string ⟨#[]⟩,.int .i64 0] from hf)
 have HB:=hid hB
 clear hf hB
 refine bodyPost_ret (v:=.agg #[.int .i64 q.kind,.string ⟨#[]⟩,.int .i64 0,.int .i64 0,.int .i64 0,.string ⟨#[]⟩,.string q.node.name,.int .i64 q.node.room,.string q.node.zone,.string ⟨#[]⟩,.string ⟨#[]⟩,.int .i64 0,.string ⟨#[]⟩,.int .i64 0]) (by simp [results,Tryz.results134,go_sem, *]) rfl ?_
 exact⟨rfl,HB.out⟩
theorem zF (q:aH) (P:Nat) (w:World) (hp:Blk w P 333 #[.string q.lease.job,.string q.lease.node,.int .i64 q.lease.till]):Calls Tryz.prog 134 #[.int .i64 q.kind,.iface 331 (.pointer (some ⟨P,0,none⟩))] w fun e w'=>e = .returned (bP ⟨q.kind,bZ,aU,q.lease,⟨#[]⟩,0⟩)∧Below w.heap.size w w':=by
 obtain⟨W,hW⟩:∃ W,(w.alloc (.cells (aB (bq 0)) 40)).alloc (.cells (aB (bq q.kind)) 40)=W:=⟨_,rfl⟩
 have hbW:Below w.heap.size w W:=by rw [← hW]; exact ((Below.refl _ _).alloc (Nat.le_refl _) _).alloc (by simp) _
 have hr:Blk W w.heap.size 40 (aB (bq 0)):=by rw [← hW]; exact Blk.alloc (show Blk _ _ _ _ from heap_alloc_new w _) _
 have hs:Blk W (w.heap.size+1) 40 (aB (bq q.kind)):=by
  rw [← hW]
  have:=heap_alloc_new (w.alloc (.cells (aB (bq 0)) 40)) (.cells (aB (bq q.kind)) 40)
  rwa [show (w.alloc (.cells (aB (bq 0)) 40)).heap.size=w.heap.size+1 by simp] at this
 have HI:=hid (Ar q P (w.heap.size+1) W (hp.below hbW hp.lt) hs)
 have HbW:=hid hbW
 have Hr:=hid hr
 have hm : ∀ w, (method 606 331 (.pointer (some ⟨P, 0, none⟩)) "bracken/req.into").run Tryz.prog w = .ok (475, .pointer (some ⟨P, 0, none⟩)) w := fun _ => by kernel_rfl
 clear hp hbW hr hs
 unfold bq aB bZ aU aI at hW
 have HW:=hid hW
 clear hW
 go_enter Tryz.func134,Tryz.ntmps134
 go_wp2_with fail
 rw [HW.out]
 clear HW
 refine Calls.mono HI.out ?_
 rintro e w1 ⟨rfl,hs1,ho,hb1⟩
 have hr1:Blk w1 w.heap.size 40 (aB (bq 0)):=(ho _ Hr.out.lt (by omega)).trans Hr.out
 have aV:=hid ((HbW.out.trans (hb1.mono (Nat.le_succ _))))
 obtain⟨s0,s1,s2,s3,s4,s5,s6,s7,s8,s9,s10,s11,s12,s13⟩:=Blk.c14 (show Blk w1 (w.heap.size+1) _ #[.int .i64 q.kind,.string ⟨#[]⟩,.int .i64 0,.int .i64 0,.int .i64 0,.string ⟨#[]⟩,.string ⟨#[]⟩,.int .i64 0,.string ⟨#[]⟩,.string q.lease.job,.string q.lease.node,.int .i64 q.lease.till,.string ⟨#[]⟩,.int .i64 0] from hs1)
 obtain⟨r0,r1,r2,r3,r4,r5,r6,r7,r8,r9,r10,r11,r12,r13⟩:=Blk.c14 (show Blk w1 (w.heap.size) _ #[.int .i64 0,.string ⟨#[]⟩,.int .i64 0,.int .i64 0,.int .i64 0,.string ⟨#[]⟩,.string ⟨#[]⟩,.int .i64 0,.string ⟨#[]⟩,.string ⟨#[]⟩,.string ⟨#[]⟩,.int .i64 0,.string ⟨#[]⟩,.int .i64 0] from hr1)
 obtain⟨z0,z1,z2,z3,z4,z5,z6,z7,z8,z9,z10,z11,z12,z13⟩:=Blk.z14 (hr1)
 have hl1:=hs1.lt
 have hl2:=hr1.lt
 have Hr1:=hid hr1
 clear hs1 ho hb1 hr1 HI
 go_wp2
 have hf:Blk (World.setCell (World.setCell (World.setCell (World.setCell (World.setCell (World.setCell (World.setCell (World.setCell (World.setCell (World.setCell (World.setCell (World.setCell (World.setCell (World.setCell w1 ⟨w.heap.size,0,none⟩ (.int .i64 q.kind)) ⟨w.heap.size,1,none⟩ (.string ⟨#[]⟩)) ⟨w.heap.size,2,none⟩ (.int .i64 0)) ⟨w.heap.size,3,none⟩ (.int .i64 0)) ⟨w.heap.size,4,none⟩ (.int .i64 0)) ⟨w.heap.size,5,none⟩ (.string ⟨#[]⟩)) ⟨w.heap.size,6,none⟩ (.string ⟨#[]⟩)) ⟨w.heap.size,7,none⟩ (.int .i64 0)) ⟨w.heap.size,8,none⟩ (.string ⟨#[]⟩)) ⟨w.heap.size,9,none⟩ (.string q.lease.job)) ⟨w.heap.size,10,none⟩ (.string q.lease.node)) ⟨w.heap.size,11,none⟩ (.int .i64 q.lease.till)) ⟨w.heap.size,12,none⟩ (.string ⟨#[]⟩)) ⟨w.heap.size,13,none⟩ (.int .i64 0)) w.heap.size 40 (aB ⟨q.kind,bZ,aU,q.lease,⟨#[]⟩,0⟩):=jm ⟨q.kind,bZ,aU,q.lease,⟨#[]⟩,0⟩ Hr1.out
 have hB:Below w.heap.size w (World.setCell (World.setCell (World.setCell (World.setCell (World.setCell (World.setCell (World.setCell (World.setCell (World.setCell (World.setCell (World.setCell (World.setCell (World.setCell (World.setCell w1 ⟨w.heap.size,0,none⟩ (.int .i64 q.kind)) ⟨w.heap.size,1,none⟩ (.string ⟨#[]⟩)) ⟨w.heap.size,2,none⟩ (.int .i64 0)) ⟨w.heap.size,3,none⟩ (.int .i64 0)) ⟨w.heap.size,4,none⟩ (.int .i64 0)) ⟨w.heap.size,5,none⟩ (.string ⟨#[]⟩)) ⟨w.heap.size,6,none⟩ (.string ⟨#[]⟩)) ⟨w.heap.size,7,none⟩ (.int .i64 0)) ⟨w.heap.size,8,none⟩ (.string ⟨#[]⟩)) ⟨w.heap.size,9,none⟩ (.string q.lease.job)) ⟨w.heap.size,10,none⟩ (.string q.lease.node)) ⟨w.heap.size,11,none⟩ (.int .i64 q.lease.till)) ⟨w.heap.size,12,none⟩ (.string ⟨#[]⟩)) ⟨w.heap.size,13,none⟩ (.int .i64 0)):=aV.out.trans (gT w1 w.heap.size ⟨q.kind,bZ,aU,q.lease,⟨#[]⟩,0⟩)
 generalize (World.setCell (World.setCell (World.setCell (World.setCell (World.setCell (World.setCell (World.setCell (World.setCell (World.setCell (World.setCell (World.setCell (World.setCell (World.setCell (World.setCell w1 ⟨w.heap.size,0,none⟩ (.int .i64 q.kind)) ⟨w.heap.size,1,none⟩ (.string ⟨#[]⟩)) ⟨w.heap.size,2,none⟩ (.int .i64 0)) ⟨w.heap.size,3,none⟩ (.int .i64 0)) ⟨w.heap.size,4,none⟩ (.int .i64 0)) ⟨w.heap.size,5,none⟩ (.string ⟨#[]⟩)) ⟨w.heap.size,6,none⟩ (.string ⟨#[]⟩)) ⟨w.heap.size,7,none⟩ (.int .i64 0)) ⟨w.heap.size,8,none⟩ (.string ⟨#[]⟩)) ⟨w.heap.size,9,none⟩ (.string q.lease.job)) ⟨w.heap.size,10,none⟩ (.string q.lease.node)) ⟨w.heap.size,11,none⟩ (.int .i64 q.lease.till)) ⟨w.heap.size,12,none⟩ (.string ⟨#[]⟩)) ⟨w.heap.size,13,none⟩ (.int .i64 0))=wf at hf hB ⊢
 clear s0 r0 z0 s1 r1 z1 s2 r2 z2 s3 r3 z3 s4 r4 z4 s5 r5 z5 s6 r6 z6 s7 r7 z7 s8 r8 z8 s9 r9 z9 s10 r10 z10 s11 r11 z11 s12 r12 z12 s13 r13 z13 hl1 hl2 hm
 obtain⟨f0,f1,f2,f3,f4,f5,f6,f7,f8,f9,f10,f11,f12,f13⟩:=Blk.c14 (show Blk wf (w.heap.size) _ #[.int .i64 q.kind,.string ⟨#[]⟩,.int .i64 0,.int .i64 0,.int .i64 0,.string ⟨#[]⟩,.string ⟨#[]⟩,.int .i64 0,.string ⟨#[]⟩,.string q.lease.job,.string q.lease.node,.int .i64 q.lease.till,.string ⟨#[]⟩,.int .i64 0] from hf)
 have HB:=hid hB
 clear hf hB
 refine bodyPost_ret (v:=.agg #[.int .i64 q.kind,.string ⟨#[]⟩,.int .i64 0,.int .i64 0,.int .i64 0,.string ⟨#[]⟩,.string ⟨#[]⟩,.int .i64 0,.string ⟨#[]⟩,.string q.lease.job,.string q.lease.node,.int .i64 q.lease.till,.string ⟨#[]⟩,.int .i64 0]) (by simp [results,Tryz.results134,go_sem, *]) rfl ?_
 exact⟨rfl,HB.out⟩
theorem pE (q:aH) (P:Nat) (w:World) (hp:Blk w P 334 #[.string q.name]):Calls Tryz.prog 134 #[.int .i64 q.kind,.iface 335 (.pointer (some ⟨P,0,none⟩))] w fun e w'=>e = .returned (bP ⟨q.kind,bZ,aU,aI,q.name,0⟩)∧Below w.heap.size w w':=by
 obtain⟨W,hW⟩:∃ W,(w.alloc (.cells (aB (bq 0)) 40)).alloc (.cells (aB (bq q.kind)) 40)=W:=⟨_,rfl⟩
 have hbW:Below w.heap.size w W:=by rw [← hW]; exact ((Below.refl _ _).alloc (Nat.le_refl _) _).alloc (by simp) _
 have hr:Blk W w.heap.size 40 (aB (bq 0)):=by rw [← hW]; exact Blk.alloc (show Blk _ _ _ _ from heap_alloc_new w _) _
 have hs:Blk W (w.heap.size+1) 40 (aB (bq q.kind)):=by
  rw [← hW]
  have:=heap_alloc_new (w.alloc (.cells (aB (bq 0)) 40)) (.cells (aB (bq q.kind)) 40)
  rwa [show (w.alloc (.cells (aB (bq 0)) 40)).heap.size=w.heap.size+1 by simp] at this
 have HI:=hid (B9 q P (w.heap.size+1) W (hp.below hbW hp.lt) hs)
 have HbW:=hid hbW
 have Hr:=hid hr
 have hm : ∀ w, (method 606 335 (.pointer (some ⟨P, 0, none⟩)) "bracken/req.into").run Tryz.prog w = .ok (479, .pointer (some ⟨P, 0, none⟩)) w := fun _ => by kernel_rfl
 clear hp hbW hr hs
 unfold bq aB bZ aU aI at hW
 have HW:=hid hW
 clear hW
 go_enter Tryz.func134,Tryz.ntmps134
 go_wp2_with fail
 rw [HW.out]
 clear HW
 refine Calls.mono HI.out ?_
 rintro e w1 ⟨rfl,hs1,ho,hb1⟩
 have hr1:Blk w1 w.heap.size 40 (aB (bq 0)):=(ho _ Hr.out.lt (by omega)).trans Hr.out
 have aV:=hid ((HbW.out.trans (hb1.mono (Nat.le_succ _))))
 obtain⟨s0,s1,s2,s3,s4,s5,s6,s7,s8,s9,s10,s11,s12,s13⟩:=Blk.c14 (show Blk w1 (w.heap.size+1) _ #[.int .i64 q.kind,.string ⟨#[]⟩,.int .i64 0,.int .i64 0,.int .i64 0,.string ⟨#[]⟩,.string ⟨#[]⟩,.int .i64 0,.string ⟨#[]⟩,.string ⟨#[]⟩,.string ⟨#[]⟩,.int .i64 0,.string q.name,.int .i64 0] from hs1)
 obtain⟨r0,r1,r2,r3,r4,r5,r6,r7,r8,r9,r10,r11,r12,r13⟩:=Blk.c14 (show Blk w1 (w.heap.size) _ #[.int .i64 0,.string ⟨#[]⟩,.int .i64 0,.int .i64 0,.int .i64 0,.string ⟨#[]⟩,.string ⟨#[]⟩,.int .i64 0,.string ⟨#[]⟩,.string ⟨#[]⟩,.string ⟨#[]⟩,.int .i64 0,.string ⟨#[]⟩,.int .i64 0] from hr1)
 obtain⟨z0,z1,z2,z3,z4,z5,z6,z7,z8,z9,z10,z11,z12,z13⟩:=Blk.z14 (hr1)
 have hl1:=hs1.lt
 have hl2:=hr1.lt
 have Hr1:=hid hr1
 clear hs1 ho hb1 hr1 HI
 go_wp2
 have hf:Blk (World.setCell (World.setCell (World.setCell (World.setCell (World.setCell (World.setCell (World.setCell (World.setCell (World.setCell (World.setCell (World.setCell (World.setCell (World.setCell (World.setCell w1 ⟨w.heap.size,0,none⟩ (.int .i64 q.kind)) ⟨w.heap.size,1,none⟩ (.string ⟨#[]⟩)) ⟨w.heap.size,2,none⟩ (.int .i64 0)) ⟨w.heap.size,3,none⟩ (.int .i64 0)) ⟨w.heap.size,4,none⟩ (.int .i64 0)) ⟨w.heap.size,5,none⟩ (.string ⟨#[]⟩)) ⟨w.heap.size,6,none⟩ (.string ⟨#[]⟩)) ⟨w.heap.size,7,none⟩ (.int .i64 0)) ⟨w.heap.size,8,none⟩ (.string ⟨#[]⟩)) ⟨w.heap.size,9,none⟩ (.string ⟨#[]⟩)) ⟨w.heap.size,10,none⟩ (.string ⟨#[]⟩)) ⟨w.heap.size,11,none⟩ (.int .i64 0)) ⟨w.heap.size,12,none⟩ (.string q.name)) ⟨w.heap.size,13,none⟩ (.int .i64 0)) w.heap.size 40 (aB ⟨q.kind,bZ,aU,aI,q.name,0⟩):=jm ⟨q.kind,bZ,aU,aI,q.name,0⟩ Hr1.out
 have hB:Below w.heap.size w (World.setCell (World.setCell (World.setCell (World.setCell (World.setCell (World.setCell (World.setCell (World.setCell (World.setCell (World.setCell (World.setCell (World.setCell (World.setCell (World.setCell w1 ⟨w.heap.size,0,none⟩ (.int .i64 q.kind)) ⟨w.heap.size,1,none⟩ (.string ⟨#[]⟩)) ⟨w.heap.size,2,none⟩ (.int .i64 0)) ⟨w.heap.size,3,none⟩ (.int .i64 0)) ⟨w.heap.size,4,none⟩ (.int .i64 0)) ⟨w.heap.size,5,none⟩ (.string ⟨#[]⟩)) ⟨w.heap.size,6,none⟩ (.string ⟨#[]⟩)) ⟨w.heap.size,7,none⟩ (.int .i64 0)) ⟨w.heap.size,8,none⟩ (.string ⟨#[]⟩)) ⟨w.heap.size,9,none⟩ (.string ⟨#[]⟩)) ⟨w.heap.size,10,none⟩ (.string ⟨#[]⟩)) ⟨w.heap.size,11,none⟩ (.int .i64 0)) ⟨w.heap.size,12,none⟩ (.string q.name)) ⟨w.heap.size,13,none⟩ (.int .i64 0)):=aV.out.trans (gT w1 w.heap.size ⟨q.kind,bZ,aU,aI,q.name,0⟩)
 generalize (World.setCell (World.setCell (World.setCell (World.setCell (World.setCell (World.setCell (World.setCell (World.setCell (World.setCell (World.setCell (World.setCell (World.setCell (World.setCell (World.setCell w1 ⟨w.heap.size,0,none⟩ (.int .i64 q.kind)) ⟨w.heap.size,1,none⟩ (.string ⟨#[]⟩)) ⟨w.heap.size,2,none⟩ (.int .i64 0)) ⟨w.heap.size,3,none⟩ (.int .i64 0)) ⟨w.heap.size,4,none⟩ (.int .i64 0)) ⟨w.heap.size,5,none⟩ (.string ⟨#[]⟩)) ⟨w.heap.size,6,none⟩ (.string ⟨#[]⟩)) ⟨w.heap.size,7,none⟩ (.int .i64 0)) ⟨w.heap.size,8,none⟩ (.string ⟨#[]⟩)) ⟨w.heap.size,9,none⟩ (.string ⟨#[]⟩)) ⟨w.heap.size,10,none⟩ (.string ⟨#[]⟩)) ⟨w.heap.size,11,none⟩ (.int .i64 0)) ⟨w.heap.size,12,none⟩ (.string q.name)) ⟨w.heap.size,13,none⟩ (.int .i64 0))=wf at hf hB ⊢
 clear s0 r0 z0 s1 r1 z1 s2 r2 z2 s3 r3 z3 s4 r4 z4 s5 r5 z5 s6 r6 z6 s7 r7 z7 s8 r8 z8 s9 r9 z9 s10 r10 z10 s11 r11 z11 s12 r12 z12 s13 r13 z13 hl1 hl2 hm
 obtain⟨f0,f1,f2,f3,f4,f5,f6,f7,f8,f9,f10,f11,f12,f13⟩:=Blk.c14 (show Blk wf (w.heap.size) _ #[.int .i64 q.kind,.string ⟨#[]⟩,.int .i64 0,.int .i64 0,.int .i64 0,.string ⟨#[]⟩,.string ⟨#[]⟩,.int .i64 0,.string ⟨#[]⟩,.string ⟨#[]⟩,.string ⟨#[]⟩,.int .i64 0,.string q.name,.int .i64 0] from hf)
 have HB:=hid hB
 clear hf hB
 refine bodyPost_ret (v:=.agg #[.int .i64 q.kind,.string ⟨#[]⟩,.int .i64 0,.int .i64 0,.int .i64 0,.string ⟨#[]⟩,.string ⟨#[]⟩,.int .i64 0,.string ⟨#[]⟩,.string ⟨#[]⟩,.string ⟨#[]⟩,.int .i64 0,.string q.name,.int .i64 0]) (by simp [results,Tryz.results134,go_sem, *]) rfl ?_
 exact⟨rfl,HB.out⟩
theorem zG (q:aH) (P:Nat) (w:World) (hp:Blk w P 336 #[.int .i64 q.n]):Calls Tryz.prog 134 #[.int .i64 q.kind,.iface 337 (.pointer (some ⟨P,0,none⟩))] w fun e w'=>e = .returned (bP ⟨q.kind,bZ,aU,aI,⟨#[]⟩,q.n⟩)∧Below w.heap.size w w':=by
 obtain⟨W,hW⟩:∃ W,(w.alloc (.cells (aB (bq 0)) 40)).alloc (.cells (aB (bq q.kind)) 40)=W:=⟨_,rfl⟩
 have hbW:Below w.heap.size w W:=by rw [← hW]; exact ((Below.refl _ _).alloc (Nat.le_refl _) _).alloc (by simp) _
 have hr:Blk W w.heap.size 40 (aB (bq 0)):=by rw [← hW]; exact Blk.alloc (show Blk _ _ _ _ from heap_alloc_new w _) _
 have hs:Blk W (w.heap.size+1) 40 (aB (bq q.kind)):=by
  rw [← hW]
  have:=heap_alloc_new (w.alloc (.cells (aB (bq 0)) 40)) (.cells (aB (bq q.kind)) 40)
  rwa [show (w.alloc (.cells (aB (bq 0)) 40)).heap.size=w.heap.size+1 by simp] at this
 have HI:=hid (As q P (w.heap.size+1) W (hp.below hbW hp.lt) hs)
 have HbW:=hid hbW
 have Hr:=hid hr
 have hm : ∀ w, (method 606 337 (.pointer (some ⟨P, 0, none⟩)) "bracken/req.into").run Tryz.prog w = .ok (483, .pointer (some ⟨P, 0, none⟩)) w := fun _ => by kernel_rfl
 clear hp hbW hr hs
 unfold bq aB bZ aU aI at hW
 have HW:=hid hW
 clear hW
 go_enter Tryz.func134,Tryz.ntmps134
 go_wp2_with fail
 rw [HW.out]
 clear HW
 refine Calls.mono HI.out ?_
 rintro e w1 ⟨rfl,hs1,ho,hb1⟩
 have hr1:Blk w1 w.heap.size 40 (aB (bq 0)):=(ho _ Hr.out.lt (by omega)).trans Hr.out
 have aV:=hid ((HbW.out.trans (hb1.mono (Nat.le_succ _))))
 obtain⟨s0,s1,s2,s3,s4,s5,s6,s7,s8,s9,s10,s11,s12,s13⟩:=Blk.c14 (show Blk w1 (w.heap.size+1) _ #[.int .i64 q.kind,.string ⟨#[]⟩,.int .i64 0,.int .i64 0,.int .i64 0,.string ⟨#[]⟩,.string ⟨#[]⟩,.int .i64 0,.string ⟨#[]⟩,.string ⟨#[]⟩,.string ⟨#[]⟩,.int .i64 0,.string ⟨#[]⟩,.int .i64 q.n] from hs1)
 obtain⟨r0,r1,r2,r3,r4,r5,r6,r7,r8,r9,r10,r11,r12,r13⟩:=Blk.c14 (show Blk w1 (w.heap.size) _ #[.int .i64 0,.string ⟨#[]⟩,.int .i64 0,.int .i64 0,.int .i64 0,.string ⟨#[]⟩,.string ⟨#[]⟩,.int .i64 0,.string ⟨#[]⟩,.string ⟨#[]⟩,.string ⟨#[]⟩,.int .i64 0,.string ⟨#[]⟩,.int .i64 0] from hr1)
 obtain⟨z0,z1,z2,z3,z4,z5,z6,z7,z8,z9,z10,z11,z12,z13⟩:=Blk.z14 (hr1)
 have hl1:=hs1.lt
 have hl2:=hr1.lt
 have Hr1:=hid hr1
 clear hs1 ho hb1 hr1 HI
 go_wp2
 have hf:Blk (World.setCell (World.setCell (World.setCell (World.setCell (World.setCell (World.setCell (World.setCell (World.setCell (World.setCell (World.setCell (World.setCell (World.setCell (World.setCell (World.setCell w1 ⟨w.heap.size,0,none⟩ (.int .i64 q.kind)) ⟨w.heap.size,1,none⟩ (.string ⟨#[]⟩)) ⟨w.heap.size,2,none⟩ (.int .i64 0)) ⟨w.heap.size,3,none⟩ (.int .i64 0)) ⟨w.heap.size,4,none⟩ (.int .i64 0)) ⟨w.heap.size,5,none⟩ (.string ⟨#[]⟩)) ⟨w.heap.size,6,none⟩ (.string ⟨#[]⟩)) ⟨w.heap.size,7,none⟩ (.int .i64 0)) ⟨w.heap.size,8,none⟩ (.string ⟨#[]⟩)) ⟨w.heap.size,9,none⟩ (.string ⟨#[]⟩)) ⟨w.heap.size,10,none⟩ (.string ⟨#[]⟩)) ⟨w.heap.size,11,none⟩ (.int .i64 0)) ⟨w.heap.size,12,none⟩ (.string ⟨#[]⟩)) ⟨w.heap.size,13,none⟩ (.int .i64 q.n)) w.heap.size 40 (aB ⟨q.kind,bZ,aU,aI,⟨#[]⟩,q.n⟩):=jm ⟨q.kind,bZ,aU,aI,⟨#[]⟩,q.n⟩ Hr1.out
 have hB:Below w.heap.size w (World.setCell (World.setCell (World.setCell (World.setCell (World.setCell (World.setCell (World.setCell (World.setCell (World.setCell (World.setCell (World.setCell (World.setCell (World.setCell (World.setCell w1 ⟨w.heap.size,0,none⟩ (.int .i64 q.kind)) ⟨w.heap.size,1,none⟩ (.string ⟨#[]⟩)) ⟨w.heap.size,2,none⟩ (.int .i64 0)) ⟨w.heap.size,3,none⟩ (.int .i64 0)) ⟨w.heap.size,4,none⟩ (.int .i64 0)) ⟨w.heap.size,5,none⟩ (.string ⟨#[]⟩)) ⟨w.heap.size,6,none⟩ (.string ⟨#[]⟩)) ⟨w.heap.size,7,none⟩ (.int .i64 0)) ⟨w.heap.size,8,none⟩ (.string ⟨#[]⟩)) ⟨w.heap.size,9,none⟩ (.string ⟨#[]⟩)) ⟨w.heap.size,10,none⟩ (.string ⟨#[]⟩)) ⟨w.heap.size,11,none⟩ (.int .i64 0)) ⟨w.heap.size,12,none⟩ (.string ⟨#[]⟩)) ⟨w.heap.size,13,none⟩ (.int .i64 q.n)):=aV.out.trans (gT w1 w.heap.size ⟨q.kind,bZ,aU,aI,⟨#[]⟩,q.n⟩)
 generalize (World.setCell (World.setCell (World.setCell (World.setCell (World.setCell (World.setCell (World.setCell (World.setCell (World.setCell (World.setCell (World.setCell (World.setCell (World.setCell (World.setCell w1 ⟨w.heap.size,0,none⟩ (.int .i64 q.kind)) ⟨w.heap.size,1,none⟩ (.string ⟨#[]⟩)) ⟨w.heap.size,2,none⟩ (.int .i64 0)) ⟨w.heap.size,3,none⟩ (.int .i64 0)) ⟨w.heap.size,4,none⟩ (.int .i64 0)) ⟨w.heap.size,5,none⟩ (.string ⟨#[]⟩)) ⟨w.heap.size,6,none⟩ (.string ⟨#[]⟩)) ⟨w.heap.size,7,none⟩ (.int .i64 0)) ⟨w.heap.size,8,none⟩ (.string ⟨#[]⟩)) ⟨w.heap.size,9,none⟩ (.string ⟨#[]⟩)) ⟨w.heap.size,10,none⟩ (.string ⟨#[]⟩)) ⟨w.heap.size,11,none⟩ (.int .i64 0)) ⟨w.heap.size,12,none⟩ (.string ⟨#[]⟩)) ⟨w.heap.size,13,none⟩ (.int .i64 q.n))=wf at hf hB ⊢
 clear s0 r0 z0 s1 r1 z1 s2 r2 z2 s3 r3 z3 s4 r4 z4 s5 r5 z5 s6 r6 z6 s7 r7 z7 s8 r8 z8 s9 r9 z9 s10 r10 z10 s11 r11 z11 s12 r12 z12 s13 r13 z13 hl1 hl2 hm
 obtain⟨f0,f1,f2,f3,f4,f5,f6,f7,f8,f9,f10,f11,f12,f13⟩:=Blk.c14 (show Blk wf (w.heap.size) _ #[.int .i64 q.kind,.string ⟨#[]⟩,.int .i64 0,.int .i64 0,.int .i64 0,.string ⟨#[]⟩,.string ⟨#[]⟩,.int .i64 0,.string ⟨#[]⟩,.string ⟨#[]⟩,.string ⟨#[]⟩,.int .i64 0,.string ⟨#[]⟩,.int .i64 q.n] from hf)
 have HB:=hid hB
 clear hf hB
 refine bodyPost_ret (v:=.agg #[.int .i64 q.kind,.string ⟨#[]⟩,.int .i64 0,.int .i64 0,.int .i64 0,.string ⟨#[]⟩,.string ⟨#[]⟩,.int .i64 0,.string ⟨#[]⟩,.string ⟨#[]⟩,.string ⟨#[]⟩,.int .i64 0,.string ⟨#[]⟩,.int .i64 q.n]) (by simp [results,Tryz.results134,go_sem, *]) rfl ?_
 exact⟨rfl,HB.out⟩
end Go.Proofs.YtoeejfhdjmkpcaaGreatDoor
