/- Of the proof of a statement: RcA, RcB, RcC. -/
import Derived.Test.YtoeejfhdjmkpcaaGreatDoorUDoA
set_option linter.unusedVariables false
set_option linter.unusedSimpArgs false
set_option maxRecDepth 100000
set_option maxHeartbeats 8000000
/- req.partOf: the part of a request that its kind names; the parts' into; req.whole: a request with its kind's part alone. -/
namespace Go.Proofs.YtoeejfhdjmkpcaaGreatDoor
open Go.Lib (hid)
open Go.RowKit
def mI (T t:TypeId) (cs:Array Value) (w:World) (e:Ending) (w':World):Prop:=
 ∃ P,e = .returned (.iface T (.pointer (some ⟨P,0,none⟩)))∧w.heap.size≤P∧Blk w' P t cs∧Below w.heap.size w w'
def nQ (S:Nat) (q:aU) (w:World) (e:Ending) (w':World):Prop:=
 e = .returned (.tuple #[])∧Blk w' S 40 (aT q)∧(∀ g,g<w.heap.size→g≠S→w'.heap[g]? = w.heap[g]?)∧Below S w w'
def iZ (k:Int):aU:=⟨k,kO,dZ,cV,⟨#[]⟩,0⟩
theorem Dq (q:aU) (w:World) (hq:q.kind=1):Calls Tryz.prog 133 #[bT q] w (mI 325 327 #[.string q.job.name,.int .i64 q.job.prio,.int .i64 q.job.need,.int .i64 q.job.tries,.string q.job.tag] w):=by
 obtain⟨W,hW⟩:∃ W,w.alloc (.cells (aT q) 40)=W:=⟨_,rfl⟩
 have hb:Blk W w.heap.size 40 (aT q):=by rw [← hW]; exact heap_alloc_new w _
 have hbW:Below w.heap.size w W:=by rw [← hW]; exact (Below.refl _ _).alloc (Nat.le_refl _) _
 have h0:W.cell? ⟨w.heap.size,0,none⟩=some (.int .i64 1):=by rw [hb.cell 0,← hq]; rfl
 have h1:W.cell? ⟨w.heap.size,1,none⟩=some (.string q.job.name):=hb.cell 1
 have h2:W.cell? ⟨w.heap.size,2,none⟩=some (.int .i64 q.job.prio):=hb.cell 2
 have h3:W.cell? ⟨w.heap.size,3,none⟩=some (.int .i64 q.job.need):=hb.cell 3
 have h4:W.cell? ⟨w.heap.size,4,none⟩=some (.int .i64 q.job.tries):=hb.cell 4
 have h5:W.cell? ⟨w.heap.size,5,none⟩=some (.string q.job.tag):=hb.cell 5
 have HbW:=hid hbW
 unfold bT
 unfold aT at hW ⊢
 clear hq hb hbW
 go_enter Tryz.func133,Tryz.ntmps133
 go_wp2
 try rw [hW]
 clear hW
 go_ret
 exact⟨_,rfl,HbW.out.size,heap_alloc_new W _,HbW.out.alloc HbW.out.size _⟩
theorem I1 (q:aU) (P S:Nat) (w:World) (hp:Blk w P 327 #[.string q.job.name,.int .i64 q.job.prio,.int .i64 q.job.need,.int .i64 q.job.tries,.string q.job.tag]) (hs:Blk w S 40 (aT (iZ q.kind))):Calls Tryz.prog 467 #[.pointer (some ⟨P,0,none⟩),.pointer (some ⟨S,0,none⟩)] w (nQ S ⟨q.kind,q.job,dZ,cV,⟨#[]⟩,0⟩ w):=by
 obtain⟨p0,p1,p2,p3,p4⟩:=Blk.c5 (hp)
 have s1:w.cell? ⟨S,1,none⟩=some (.string ⟨#[]⟩):=hs.cell 1
 have s2:w.cell? ⟨S,2,none⟩=some (.int .i64 0):=hs.cell 2
 have s3:w.cell? ⟨S,3,none⟩=some (.int .i64 0):=hs.cell 3
 have s4:w.cell? ⟨S,4,none⟩=some (.int .i64 0):=hs.cell 4
 have s5:w.cell? ⟨S,5,none⟩=some (.string ⟨#[]⟩):=hs.cell 5
 have z1:w.frozen? ⟨S,1,none⟩=false:=hs.thaw 1
 have z2:w.frozen? ⟨S,2,none⟩=false:=hs.thaw 2
 have z3:w.frozen? ⟨S,3,none⟩=false:=hs.thaw 3
 have z4:w.frozen? ⟨S,4,none⟩=false:=hs.thaw 4
 have z5:w.frozen? ⟨S,5,none⟩=false:=hs.thaw 5
 have hlp:=hp.lt
 have hls:=hs.lt
 have Hs:=hid hs
 clear hp hs
 go_enter Tryz.func467,Tryz.ntmps467
 go_wp2
 go_end0
 exact⟨rfl,Blk.eq (Blk.set (Blk.set (Blk.set (Blk.set (Blk.set Hs.out 1 _) 2 _) 3 _) 4 _) 5 _) rfl,fun g hg hne=>(Below.heap_setCell _ ⟨S,5,none⟩ _ g hne).trans ((Below.heap_setCell _ ⟨S,4,none⟩ _ g hne).trans ((Below.heap_setCell _ ⟨S,3,none⟩ _ g hne).trans ((Below.heap_setCell _ ⟨S,2,none⟩ _ g hne).trans ((Below.heap_setCell _ ⟨S,1,none⟩ _ g hne).trans (rfl))))),aO (aO (aO (aO (aO (Below.refl _ _) (Nat.le_refl _)) (Nat.le_refl _)) (Nat.le_refl _)) (Nat.le_refl _)) (Nat.le_refl _)⟩
theorem Mh (q:aU) (w:World) (hq:q.kind=2):Calls Tryz.prog 133 #[bT q] w (mI 328 330 #[.string q.node.name,.int .i64 q.node.room,.string q.node.zone] w):=by
 obtain⟨W,hW⟩:∃ W,w.alloc (.cells (aT q) 40)=W:=⟨_,rfl⟩
 have hb:Blk W w.heap.size 40 (aT q):=by rw [← hW]; exact heap_alloc_new w _
 have hbW:Below w.heap.size w W:=by rw [← hW]; exact (Below.refl _ _).alloc (Nat.le_refl _) _
 have h0:W.cell? ⟨w.heap.size,0,none⟩=some (.int .i64 2):=by rw [hb.cell 0,← hq]; rfl
 have h6:W.cell? ⟨w.heap.size,6,none⟩=some (.string q.node.name):=hb.cell 6
 have h7:W.cell? ⟨w.heap.size,7,none⟩=some (.int .i64 q.node.room):=hb.cell 7
 have h8:W.cell? ⟨w.heap.size,8,none⟩=some (.string q.node.zone):=hb.cell 8
 have HbW:=hid hbW
 unfold bT
 unfold aT at hW ⊢
 clear hq hb hbW
 go_enter Tryz.func133,Tryz.ntmps133
 go_wp2
 try rw [hW]
 clear hW
 go_ret
 exact⟨_,rfl,HbW.out.size,heap_alloc_new W _,HbW.out.alloc HbW.out.size _⟩
theorem FX (q:aU) (P S:Nat) (w:World) (hp:Blk w P 330 #[.string q.node.name,.int .i64 q.node.room,.string q.node.zone]) (hs:Blk w S 40 (aT (iZ q.kind))):Calls Tryz.prog 471 #[.pointer (some ⟨P,0,none⟩),.pointer (some ⟨S,0,none⟩)] w (nQ S ⟨q.kind,kO,q.node,cV,⟨#[]⟩,0⟩ w):=by
 have p0:w.cell? ⟨P,0,none⟩=some (.string q.node.name):=hp.cell 0
 have p1:w.cell? ⟨P,1,none⟩=some (.int .i64 q.node.room):=hp.cell 1
 have p2:w.cell? ⟨P,2,none⟩=some (.string q.node.zone):=hp.cell 2
 have s6:w.cell? ⟨S,6,none⟩=some (.string ⟨#[]⟩):=hs.cell 6
 have s7:w.cell? ⟨S,7,none⟩=some (.int .i64 0):=hs.cell 7
 have s8:w.cell? ⟨S,8,none⟩=some (.string ⟨#[]⟩):=hs.cell 8
 have z6:w.frozen? ⟨S,6,none⟩=false:=hs.thaw 6
 have z7:w.frozen? ⟨S,7,none⟩=false:=hs.thaw 7
 have z8:w.frozen? ⟨S,8,none⟩=false:=hs.thaw 8
 have hlp:=hp.lt
 have hls:=hs.lt
 have Hs:=hid hs
 clear hp hs
 go_enter Tryz.func471,Tryz.ntmps471
 go_wp2
 go_end0
 exact⟨rfl,Blk.eq (Blk.set (Blk.set (Blk.set Hs.out 6 _) 7 _) 8 _) rfl,fun g hg hne=>(Below.heap_setCell _ ⟨S,8,none⟩ _ g hne).trans ((Below.heap_setCell _ ⟨S,7,none⟩ _ g hne).trans ((Below.heap_setCell _ ⟨S,6,none⟩ _ g hne).trans (rfl))),aO (aO (aO (Below.refl _ _) (Nat.le_refl _)) (Nat.le_refl _)) (Nat.le_refl _)⟩
theorem Mi (q:aU) (w:World) (hq:q.kind=5):Calls Tryz.prog 133 #[bT q] w (mI 331 333 #[.string q.lease.job,.string q.lease.node,.int .i64 q.lease.till] w):=by
 obtain⟨W,hW⟩:∃ W,w.alloc (.cells (aT q) 40)=W:=⟨_,rfl⟩
 have hb:Blk W w.heap.size 40 (aT q):=by rw [← hW]; exact heap_alloc_new w _
 have hbW:Below w.heap.size w W:=by rw [← hW]; exact (Below.refl _ _).alloc (Nat.le_refl _) _
 have h0:W.cell? ⟨w.heap.size,0,none⟩=some (.int .i64 5):=by rw [hb.cell 0,← hq]; rfl
 have h9:W.cell? ⟨w.heap.size,9,none⟩=some (.string q.lease.job):=hb.cell 9
 have h10:W.cell? ⟨w.heap.size,10,none⟩=some (.string q.lease.node):=hb.cell 10
 have h11:W.cell? ⟨w.heap.size,11,none⟩=some (.int .i64 q.lease.till):=hb.cell 11
 have HbW:=hid hbW
 unfold bT
 unfold aT at hW ⊢
 clear hq hb hbW
 go_enter Tryz.func133,Tryz.ntmps133
 go_wp2
 try rw [hW]
 clear hW
 go_ret
 exact⟨_,rfl,HbW.out.size,heap_alloc_new W _,HbW.out.alloc HbW.out.size _⟩
theorem DK (q:aU) (P S:Nat) (w:World) (hp:Blk w P 333 #[.string q.lease.job,.string q.lease.node,.int .i64 q.lease.till]) (hs:Blk w S 40 (aT (iZ q.kind))):Calls Tryz.prog 475 #[.pointer (some ⟨P,0,none⟩),.pointer (some ⟨S,0,none⟩)] w (nQ S ⟨q.kind,kO,dZ,q.lease,⟨#[]⟩,0⟩ w):=by
 have p0:w.cell? ⟨P,0,none⟩=some (.string q.lease.job):=hp.cell 0
 have p1:w.cell? ⟨P,1,none⟩=some (.string q.lease.node):=hp.cell 1
 have p2:w.cell? ⟨P,2,none⟩=some (.int .i64 q.lease.till):=hp.cell 2
 have s9:w.cell? ⟨S,9,none⟩=some (.string ⟨#[]⟩):=hs.cell 9
 have s10:w.cell? ⟨S,10,none⟩=some (.string ⟨#[]⟩):=hs.cell 10
 have s11:w.cell? ⟨S,11,none⟩=some (.int .i64 0):=hs.cell 11
 have z9:w.frozen? ⟨S,9,none⟩=false:=hs.thaw 9
 have z10:w.frozen? ⟨S,10,none⟩=false:=hs.thaw 10
 have z11:w.frozen? ⟨S,11,none⟩=false:=hs.thaw 11
 have hlp:=hp.lt
 have hls:=hs.lt
 have Hs:=hid hs
 clear hp hs
 go_enter Tryz.func475,Tryz.ntmps475
 go_wp2
 go_end0
 exact⟨rfl,Blk.eq (Blk.set (Blk.set (Blk.set Hs.out 9 _) 10 _) 11 _) rfl,fun g hg hne=>(Below.heap_setCell _ ⟨S,11,none⟩ _ g hne).trans ((Below.heap_setCell _ ⟨S,10,none⟩ _ g hne).trans ((Below.heap_setCell _ ⟨S,9,none⟩ _ g hne).trans (rfl))),aO (aO (aO (Below.refl _ _) (Nat.le_refl _)) (Nat.le_refl _)) (Nat.le_refl _)⟩
theorem Mk (q:aU) (w:World) (hq:q.kind=3):Calls Tryz.prog 133 #[bT q] w (mI 335 334 #[.string q.name] w):=by
 obtain⟨W,hW⟩:∃ W,w.alloc (.cells (aT q) 40)=W:=⟨_,rfl⟩
 have hb:Blk W w.heap.size 40 (aT q):=by rw [← hW]; exact heap_alloc_new w _
 have hbW:Below w.heap.size w W:=by rw [← hW]; exact (Below.refl _ _).alloc (Nat.le_refl _) _
 have h0:W.cell? ⟨w.heap.size,0,none⟩=some (.int .i64 3):=by rw [hb.cell 0,← hq]; rfl
 have h12:W.cell? ⟨w.heap.size,12,none⟩=some (.string q.name):=hb.cell 12
 have HbW:=hid hbW
 unfold bT
 unfold aT at hW ⊢
 clear hq hb hbW
 go_enter Tryz.func133,Tryz.ntmps133
 go_wp2
 try rw [hW]
 clear hW
 go_ret
 exact⟨_,rfl,HbW.out.size,heap_alloc_new W _,HbW.out.alloc HbW.out.size _⟩
theorem Mm (q:aU) (w:World) (hq:q.kind=4):Calls Tryz.prog 133 #[bT q] w (mI 335 334 #[.string q.name] w):=by
 obtain⟨W,hW⟩:∃ W,w.alloc (.cells (aT q) 40)=W:=⟨_,rfl⟩
 have hb:Blk W w.heap.size 40 (aT q):=by rw [← hW]; exact heap_alloc_new w _
 have hbW:Below w.heap.size w W:=by rw [← hW]; exact (Below.refl _ _).alloc (Nat.le_refl _) _
 have h0:W.cell? ⟨w.heap.size,0,none⟩=some (.int .i64 4):=by rw [hb.cell 0,← hq]; rfl
 have h12:W.cell? ⟨w.heap.size,12,none⟩=some (.string q.name):=hb.cell 12
 have HbW:=hid hbW
 unfold bT
 unfold aT at hW ⊢
 clear hq hb hbW
 go_enter Tryz.func133,Tryz.ntmps133
 go_wp2
 try rw [hW]
 clear hW
 go_ret
 exact⟨_,rfl,HbW.out.size,heap_alloc_new W _,HbW.out.alloc HbW.out.size _⟩
theorem Mo (q:aU) (w:World) (hq:q.kind=6):Calls Tryz.prog 133 #[bT q] w (mI 335 334 #[.string q.name] w):=by
 obtain⟨W,hW⟩:∃ W,w.alloc (.cells (aT q) 40)=W:=⟨_,rfl⟩
 have hb:Blk W w.heap.size 40 (aT q):=by rw [← hW]; exact heap_alloc_new w _
 have hbW:Below w.heap.size w W:=by rw [← hW]; exact (Below.refl _ _).alloc (Nat.le_refl _) _
 have h0:W.cell? ⟨w.heap.size,0,none⟩=some (.int .i64 6):=by rw [hb.cell 0,← hq]; rfl
 have h12:W.cell? ⟨w.heap.size,12,none⟩=some (.string q.name):=hb.cell 12
 have HbW:=hid hbW
 unfold bT
 unfold aT at hW ⊢
 clear hq hb hbW
 go_enter Tryz.func133,Tryz.ntmps133
 go_wp2
 try rw [hW]
 clear hW
 go_ret
 exact⟨_,rfl,HbW.out.size,heap_alloc_new W _,HbW.out.alloc HbW.out.size _⟩
theorem FY (q:aU) (P S:Nat) (w:World) (hp:Blk w P 334 #[.string q.name]) (hs:Blk w S 40 (aT (iZ q.kind))):Calls Tryz.prog 479 #[.pointer (some ⟨P,0,none⟩),.pointer (some ⟨S,0,none⟩)] w (nQ S ⟨q.kind,kO,dZ,cV,q.name,0⟩ w):=by
 have p0:w.cell? ⟨P,0,none⟩=some (.string q.name):=hp.cell 0
 have s12:w.cell? ⟨S,12,none⟩=some (.string ⟨#[]⟩):=hs.cell 12
 have z12:w.frozen? ⟨S,12,none⟩=false:=hs.thaw 12
 have hlp:=hp.lt
 have hls:=hs.lt
 have Hs:=hid hs
 clear hp hs
 go_enter Tryz.func479,Tryz.ntmps479
 go_wp2
 go_end0
 exact⟨rfl,Blk.eq (Blk.set Hs.out 12 _) rfl,fun g hg hne=>(Below.heap_setCell _ ⟨S,12,none⟩ _ g hne).trans (rfl),aO (Below.refl _ _) (Nat.le_refl _)⟩
theorem Mp (q:aU) (w:World) (hq:q.kind=7):Calls Tryz.prog 133 #[bT q] w (mI 337 336 #[.int .i64 q.n] w):=by
 obtain⟨W,hW⟩:∃ W,w.alloc (.cells (aT q) 40)=W:=⟨_,rfl⟩
 have hb:Blk W w.heap.size 40 (aT q):=by rw [← hW]; exact heap_alloc_new w _
 have hbW:Below w.heap.size w W:=by rw [← hW]; exact (Below.refl _ _).alloc (Nat.le_refl _) _
 have h0:W.cell? ⟨w.heap.size,0,none⟩=some (.int .i64 7):=by rw [hb.cell 0,← hq]; rfl
 have h13:W.cell? ⟨w.heap.size,13,none⟩=some (.int .i64 q.n):=hb.cell 13
 have HbW:=hid hbW
 unfold bT
 unfold aT at hW ⊢
 clear hq hb hbW
 go_enter Tryz.func133,Tryz.ntmps133
 go_wp2
 try rw [hW]
 clear hW
 go_ret
 exact⟨_,rfl,HbW.out.size,heap_alloc_new W _,HbW.out.alloc HbW.out.size _⟩
theorem DL (q:aU) (P S:Nat) (w:World) (hp:Blk w P 336 #[.int .i64 q.n]) (hs:Blk w S 40 (aT (iZ q.kind))):Calls Tryz.prog 483 #[.pointer (some ⟨P,0,none⟩),.pointer (some ⟨S,0,none⟩)] w (nQ S ⟨q.kind,kO,dZ,cV,⟨#[]⟩,q.n⟩ w):=by
 have p0:w.cell? ⟨P,0,none⟩=some (.int .i64 q.n):=hp.cell 0
 have s13:w.cell? ⟨S,13,none⟩=some (.int .i64 0):=hs.cell 13
 have z13:w.frozen? ⟨S,13,none⟩=false:=hs.thaw 13
 have hlp:=hp.lt
 have hls:=hs.lt
 have Hs:=hid hs
 clear hp hs
 go_enter Tryz.func483,Tryz.ntmps483
 go_wp2
 go_end0
 exact⟨rfl,Blk.eq (Blk.set Hs.out 13 _) rfl,fun g hg hne=>(Below.heap_setCell _ ⟨S,13,none⟩ _ g hne).trans (rfl),aO (Below.refl _ _) (Nat.le_refl _)⟩
end Go.Proofs.YtoeejfhdjmkpcaaGreatDoor
/- req.whole: a request with its kind's part alone. -/
namespace Go.Proofs.YtoeejfhdjmkpcaaGreatDoor
open Go.Lib (hid)
open Go.RowKit
def AO (w:World) (S:Nat) (h:aU):World:=World.setCell (World.setCell (World.setCell (World.setCell (World.setCell (World.setCell (World.setCell (World.setCell (World.setCell (World.setCell (World.setCell (World.setCell (World.setCell (World.setCell w ⟨S,0,none⟩ (.int .i64 h.kind)) ⟨S,1,none⟩ (.string h.job.name)) ⟨S,2,none⟩ (.int .i64 h.job.prio)) ⟨S,3,none⟩ (.int .i64 h.job.need)) ⟨S,4,none⟩ (.int .i64 h.job.tries)) ⟨S,5,none⟩ (.string h.job.tag)) ⟨S,6,none⟩ (.string h.node.name)) ⟨S,7,none⟩ (.int .i64 h.node.room)) ⟨S,8,none⟩ (.string h.node.zone)) ⟨S,9,none⟩ (.string h.lease.job)) ⟨S,10,none⟩ (.string h.lease.node)) ⟨S,11,none⟩ (.int .i64 h.lease.till)) ⟨S,12,none⟩ (.string h.name)) ⟨S,13,none⟩ (.int .i64 h.n)
theorem DM {w:World} {S:Nat} {q0:aU} (h:aU) (h0:Blk w S 40 (aT q0)):Blk (AO w S h) S 40 (aT h):=by
 have h14:=Blk.set (Blk.set (Blk.set (Blk.set (Blk.set (Blk.set (Blk.set (Blk.set (Blk.set (Blk.set (Blk.set (Blk.set (Blk.set (Blk.set h0 0 (.int .i64 h.kind)) 1 (.string h.job.name)) 2 (.int .i64 h.job.prio)) 3 (.int .i64 h.job.need)) 4 (.int .i64 h.job.tries)) 5 (.string h.job.tag)) 6 (.string h.node.name)) 7 (.int .i64 h.node.room)) 8 (.string h.node.zone)) 9 (.string h.lease.job)) 10 (.string h.lease.node)) 11 (.int .i64 h.lease.till)) 12 (.string h.name)) 13 (.int .i64 h.n)
 refine Blk.eq h14 ?_
 simp [aT]
theorem AP (w:World) (S:Nat) (h:aU):Below S w (AO w S h):=aO (aO (aO (aO (aO (aO (aO (aO (aO (aO (aO (aO (aO (aO (Below.refl _ _) (Nat.le_refl _)) (Nat.le_refl _)) (Nat.le_refl _)) (Nat.le_refl _)) (Nat.le_refl _)) (Nat.le_refl _)) (Nat.le_refl _)) (Nat.le_refl _)) (Nat.le_refl _)) (Nat.le_refl _)) (Nat.le_refl _)) (Nat.le_refl _)) (Nat.le_refl _)) (Nat.le_refl _)
theorem lL (k:Int) (h:aU) (T:TypeId) (F:FuncId) (v:Value) (w:World)
 (hm : ∀ w, (method 606 T v "bracken/req.into").run Tryz.prog w = .ok (F, v) w)
 (hc:∀ a (w:World),(callFunc F a).run Tryz.prog w = .ok (.enter F a) w)
 (HI:∀ W S,Below w.heap.size w W→w.heap.size≤S→Blk W S 40 (aT (iZ k))→Calls Tryz.prog F #[v,.pointer (some ⟨S,0,none⟩)] W (nQ S h W)) :
 Calls Tryz.prog 134 #[.int .i64 k,.iface T v] w fun e w'=>e = .returned (bT h)∧Below w.heap.size w w':=by
 obtain⟨W,hW⟩:∃ W,(w.alloc (.cells (aT (iZ 0)) 40)).alloc (.cells (aT (iZ k)) 40)=W:=⟨_,rfl⟩
 have hbW:Below w.heap.size w W:=by rw [← hW]; exact ((Below.refl _ _).alloc (Nat.le_refl _) _).alloc (by simp) _
 have hr:Blk W w.heap.size 40 (aT (iZ 0)):=by rw [← hW]; exact Blk.alloc (show Blk _ _ _ _ from heap_alloc_new w _) _
 have hs:Blk W (w.heap.size+1) 40 (aT (iZ k)):=by
  rw [← hW]
  have:=heap_alloc_new (w.alloc (.cells (aT (iZ 0)) 40)) (.cells (aT (iZ k)) 40)
  rwa [show (w.alloc (.cells (aT (iZ 0)) 40)).heap.size=w.heap.size+1 by simp] at this
 have HI:=hid (HI W (w.heap.size+1) hbW (Nat.le_succ _) hs)
 have HbW:=hid hbW
 have Hr:=hid hr
 clear hbW hr hs
 unfold iZ aT kO dZ cV at hW
 have HW:=hid hW
 clear hW
 unfold bT aT
 go_enter Tryz.func134,Tryz.ntmps134
 go_wp2_with fail
 rw [HW.out]
 clear HW
 refine Calls.mono HI.out ?_
 rintro e w1 ⟨rfl,hs1,ho,hb1⟩
 have hr1:Blk w1 w.heap.size 40 (aT (iZ 0)):=(ho _ Hr.out.lt (by omega)).trans Hr.out
 have bO:=hid ((HbW.out.trans (hb1.mono (Nat.le_succ _))))
 obtain⟨s0,s1,s2,s3,s4,s5,s6,s7,s8,s9,s10,s11,s12,s13⟩:=Blk.c14 (hs1)
 obtain⟨r0,r1,r2,r3,r4,r5,r6,r7,r8,r9,r10,r11,r12,r13⟩:=Blk.c14 (show Blk w1 (w.heap.size) _ #[.int .i64 0,.string ⟨#[]⟩,.int .i64 0,.int .i64 0,.int .i64 0,.string ⟨#[]⟩,.string ⟨#[]⟩,.int .i64 0,.string ⟨#[]⟩,.string ⟨#[]⟩,.string ⟨#[]⟩,.int .i64 0,.string ⟨#[]⟩,.int .i64 0] from hr1)
 obtain⟨z0,z1,z2,z3,z4,z5,z6,z7,z8,z9,z10,z11,z12,z13⟩:=Blk.z14 (hr1)
 have hl1:=hs1.lt
 have hl2:=hr1.lt
 have Hr1:=hid hr1
 clear hs1 ho hb1 hr1 HI
 go_wp2
 have hf:=DM h Hr1.out
 have hB:=bO.out.trans (AP w1 w.heap.size h)
 obtain⟨wf,hwf⟩:∃ wf,AO w1 w.heap.size h=wf:=⟨_,rfl⟩
 rw [hwf] at hf hB
 unfold AO at hwf
 simp only [hwf]
 clear hwf s0 r0 z0 s1 r1 z1 s2 r2 z2 s3 r3 z3 s4 r4 z4 s5 r5 z5 s6 r6 z6 s7 r7 z7 s8 r8 z8 s9 r9 z9 s10 r10 z10 s11 r11 z11 s12 r12 z12 s13 r13 z13 hl1 hl2 hm hc Hr1 bO
 obtain⟨f0,f1,f2,f3,f4,f5,f6,f7,f8,f9,f10,f11,f12,f13⟩:=Blk.c14 (hf)
 have HB:=hid hB
 clear hf hB
 refine bodyPost_ret (v:=.agg #[.int .i64 h.kind,.string h.job.name,.int .i64 h.job.prio,.int .i64 h.job.need,.int .i64 h.job.tries,.string h.job.tag,.string h.node.name,.int .i64 h.node.room,.string h.node.zone,.string h.lease.job,.string h.lease.node,.int .i64 h.lease.till,.string h.name,.int .i64 h.n]) (by simp [results,Tryz.results134,go_sem, *]) rfl ?_
 exact⟨rfl,HB.out⟩
theorem zW (q:aU) (P:Nat) (w:World) (hp:Blk w P 327 #[.string q.job.name,.int .i64 q.job.prio,.int .i64 q.job.need,.int .i64 q.job.tries,.string q.job.tag]):Calls Tryz.prog 134 #[.int .i64 q.kind,.iface 325 (.pointer (some ⟨P,0,none⟩))] w fun e w'=>e = .returned (bT ⟨q.kind,q.job,dZ,cV,⟨#[]⟩,0⟩)∧Below w.heap.size w w':=
 lL q.kind _ _ 467 _ w (fun _=>by kernel_rfl) (fun _ _=>by kernel_rfl) (fun W S hb _ hs=>I1 q P S W (hp.below hb hp.lt) hs)
theorem DN (q:aU) (P:Nat) (w:World) (hp:Blk w P 330 #[.string q.node.name,.int .i64 q.node.room,.string q.node.zone]):Calls Tryz.prog 134 #[.int .i64 q.kind,.iface 328 (.pointer (some ⟨P,0,none⟩))] w fun e w'=>e = .returned (bT ⟨q.kind,kO,q.node,cV,⟨#[]⟩,0⟩)∧Below w.heap.size w w':=
 lL q.kind _ _ 471 _ w (fun _=>by kernel_rfl) (fun _ _=>by kernel_rfl) (fun W S hb _ hs=>FX q P S W (hp.below hb hp.lt) hs)
theorem Cg (q:aU) (P:Nat) (w:World) (hp:Blk w P 333 #[.string q.lease.job,.string q.lease.node,.int .i64 q.lease.till]):Calls Tryz.prog 134 #[.int .i64 q.kind,.iface 331 (.pointer (some ⟨P,0,none⟩))] w fun e w'=>e = .returned (bT ⟨q.kind,kO,dZ,q.lease,⟨#[]⟩,0⟩)∧Below w.heap.size w w':=
 lL q.kind _ _ 475 _ w (fun _=>by kernel_rfl) (fun _ _=>by kernel_rfl) (fun W S hb _ hs=>DK q P S W (hp.below hb hp.lt) hs)
theorem rU (q:aU) (P:Nat) (w:World) (hp:Blk w P 334 #[.string q.name]):Calls Tryz.prog 134 #[.int .i64 q.kind,.iface 335 (.pointer (some ⟨P,0,none⟩))] w fun e w'=>e = .returned (bT ⟨q.kind,kO,dZ,cV,q.name,0⟩)∧Below w.heap.size w w':=
 lL q.kind _ _ 479 _ w (fun _=>by kernel_rfl) (fun _ _=>by kernel_rfl) (fun W S hb _ hs=>FY q P S W (hp.below hb hp.lt) hs)
theorem Ch (q:aU) (P:Nat) (w:World) (hp:Blk w P 336 #[.int .i64 q.n]):Calls Tryz.prog 134 #[.int .i64 q.kind,.iface 337 (.pointer (some ⟨P,0,none⟩))] w fun e w'=>e = .returned (bT ⟨q.kind,kO,dZ,cV,⟨#[]⟩,q.n⟩)∧Below w.heap.size w w':=
 lL q.kind _ _ 483 _ w (fun _=>by kernel_rfl) (fun _ _=>by kernel_rfl) (fun W S hb _ hs=>DL q P S W (hp.below hb hp.lt) hs)
end Go.Proofs.YtoeejfhdjmkpcaaGreatDoor
/- req.isTime, the parts' check. -/
namespace Go.Proofs.YtoeejfhdjmkpcaaGreatDoor
open Go.Lib (hid)
open Go.RowKit
def cL (E:Int) (w:World) (e:Ending) (w':World):Prop:=e = .returned (.int .i64 E)∧Below w.heap.size w w'
theorem yD (n:Int) (w:World):Calls Tryz.prog 420 #[.int .i64 n] w fun e w'=>e = .returned (.bool (ranged n 0 1099511627776))∧Below w.heap.size w w':=by
 by_cases h0:0≤n
 · by_cases h1:n≤1099511627776
   · have hr:ranged n 0 1099511627776=true:=aZ.2 ⟨h0,h1⟩
     have d0:decide (0≤n)=true:=decide_eq_true h0
     have d1:decide (n≤1099511627776)=true:=decide_eq_true h1
     rw [hr]
     go_enter Tryz.func420,Tryz.ntmps420
     go_wp2
     go_ret
     exact⟨rfl,Below.refl _ _⟩
   · have hr:ranged n 0 1099511627776=false:=iw.2 (by omega)
     have d0:decide (0≤n)=true:=decide_eq_true h0
     have d1:decide (n≤1099511627776)=false:=decide_eq_false h1
     rw [hr]
     go_enter Tryz.func420,Tryz.ntmps420
     go_wp2
     go_ret
     exact⟨rfl,Below.refl _ _⟩
 · have hr:ranged n 0 1099511627776=false:=iw.2 (by omega)
   have d0:decide (0≤n)=false:=decide_eq_false h0
   rw [hr]
   go_enter Tryz.func420,Tryz.ntmps420
   go_wp2
   go_ret
   exact⟨rfl,Below.refl _ _⟩
theorem DO (j:aA) (P:Nat) (w:World) (hp:Blk w P 327 #[.string j.name,.int .i64 j.prio,.int .i64 j.need,.int .i64 j.tries,.string j.tag]) (h1:j.name.size≤9223372036854775807) (h2:j.tag.size≤9223372036854775807) (hT:Tabs w):Calls Tryz.prog 466 #[.pointer (some ⟨P,0,none⟩)] w (cL (fE j) w):=by
 obtain⟨p0,p1,p2,p3,p4⟩:=Blk.c5 (hp)
 have hlp:=hp.lt
 have HC:=hid (show Calls Tryz.prog _ #[.agg #[.string j.name,.int .i64 j.prio,.int .i64 j.need,.int .i64 j.tries,.string j.tag]] w _ from tZ j w h1 h2 hT)
 obtain⟨E,hE⟩:∃ E,fE j=E:=⟨_,rfl⟩
 rw [hE] at HC ⊢
 clear hp hE
 go_enter Tryz.func466,Tryz.ntmps466
 go_wp2_with fail
 refine Calls.mono HC.out ?_
 rintro e w5 ⟨rfl,hb5⟩
 have HB:=hid hb5
 clear hb5 HC
 go_wp2
 go_ret
 exact⟨rfl,HB.out⟩
theorem Ci (j:av) (P:Nat) (w:World) (hp:Blk w P 330 #[.string j.name,.int .i64 j.room,.string j.zone]) (h1:j.name.size≤9223372036854775807) (h2:j.zone.size≤9223372036854775807) (hT:Tabs w):Calls Tryz.prog 470 #[.pointer (some ⟨P,0,none⟩)] w (cL (eH j) w):=by
 have p0:w.cell? ⟨P,0,none⟩=some (.string j.name):=hp.cell 0
 have p1:w.cell? ⟨P,1,none⟩=some (.int .i64 j.room):=hp.cell 1
 have p2:w.cell? ⟨P,2,none⟩=some (.string j.zone):=hp.cell 2
 have hlp:=hp.lt
 have HC:=hid (show Calls Tryz.prog _ #[.agg #[.string j.name,.int .i64 j.room,.string j.zone]] w _ from qS j w h1 h2 hT)
 obtain⟨E,hE⟩:∃ E,eH j=E:=⟨_,rfl⟩
 rw [hE] at HC ⊢
 clear hp hE
 go_enter Tryz.func470,Tryz.ntmps470
 go_wp2_with fail
 refine Calls.mono HC.out ?_
 rintro e w5 ⟨rfl,hb5⟩
 have HB:=hid hb5
 clear hb5 HC
 go_wp2
 go_ret
 exact⟨rfl,HB.out⟩
theorem pS (s:ByteArray) (P:Nat) (w:World) (hp:Blk w P 334 #[.string s]) (hs:s.size≤9223372036854775807) (hT:Tabs w):Calls Tryz.prog 478 #[.pointer (some ⟨P,0,none⟩)] w (cL (if bR s then 0 else 4) w):=by
 have p0:w.cell? ⟨P,0,none⟩=some (.string s):=hp.cell 0
 have hlp:=hp.lt
 have HC:=hid (fU s w hs hT)
 obtain⟨b,hb⟩:∃ b,bR s=b:=⟨_,rfl⟩
 rw [hb] at HC ⊢
 obtain⟨E,hE⟩:∃ E:Int,(if b=true then (0:Int) else 4)=E:=⟨_,rfl⟩
 rw [hE]
 have HE:=hid hE
 clear hp hb hE
 go_enter Tryz.func478,Tryz.ntmps478
 go_wp2_with fail
 refine Calls.mono HC.out ?_
 rintro e w5 ⟨rfl,hb5⟩
 have HB:=hid hb5
 clear hb5 HC
 cases b
 · obtain rfl:(4:Int)=E:=HE.out
   go_wp2
   go_ret
   exact⟨rfl,HB.out⟩
 · obtain rfl:(0:Int)=E:=HE.out
   go_wp2
   go_ret
   exact⟨rfl,HB.out⟩
theorem AQ (s:Int) (P:Nat) (w:World) (hp:Blk w P 336 #[.int .i64 s]):Calls Tryz.prog 482 #[.pointer (some ⟨P,0,none⟩)] w (cL (if ranged s 0 1099511627776 then 0 else 1) w):=by
 have p0:w.cell? ⟨P,0,none⟩=some (.int .i64 s):=hp.cell 0
 have hlp:=hp.lt
 have HC:=hid (yD s w)
 obtain⟨b,hb⟩:∃ b,ranged s 0 1099511627776=b:=⟨_,rfl⟩
 rw [hb] at HC ⊢
 obtain⟨E,hE⟩:∃ E:Int,(if b=true then (0:Int) else 1)=E:=⟨_,rfl⟩
 rw [hE]
 have HE:=hid hE
 clear hp hb hE
 go_enter Tryz.func482,Tryz.ntmps482
 go_wp2_with fail
 refine Calls.mono HC.out ?_
 rintro e w5 ⟨rfl,hb5⟩
 have HB:=hid hb5
 clear hb5 HC
 cases b
 · obtain rfl:(1:Int)=E:=HE.out
   go_wp2
   go_ret
   exact⟨rfl,HB.out⟩
 · obtain rfl:(0:Int)=E:=HE.out
   go_wp2
   go_ret
   exact⟨rfl,HB.out⟩
theorem AR (l:ah) (P:Nat) (w:World) (hp:Blk w P 333 #[.string l.job,.string l.node,.int .i64 l.till]) (h1:l.job.size≤9223372036854775807) (h2:l.node.size≤9223372036854775807) (hT:Tabs w):Calls Tryz.prog 474 #[.pointer (some ⟨P,0,none⟩)] w (cL (lsE l) w):=by
 have p0:w.cell? ⟨P,0,none⟩=some (.string l.job):=hp.cell 0
 have hlp:=hp.lt
 have HP:=hid hp
 have HT:=hid hT
 have HJ:=hid (fU l.job w h1 hT)
 obtain⟨a,ha⟩:∃ a,bR l.job=a:=⟨_,rfl⟩
 obtain⟨b,hb⟩:∃ b,bR l.node=b:=⟨_,rfl⟩
 obtain⟨c,hc⟩:∃ c,ranged l.till 0 1099511627776=c:=⟨_,rfl⟩
 obtain⟨E,hE⟩:∃ E,lsE l=E:=⟨_,rfl⟩
 rw [hE]
 unfold lsE at hE
 rw [ha,hb,hc] at hE
 rw [ha] at HJ
 have HE:=hid hE
 have Hb:=hid hb
 have Hc:=hid hc
 clear hp hT ha hb hc hE
 go_enter Tryz.func474,Tryz.ntmps474
 go_wp2_with fail
 refine Calls.mono HJ.out ?_
 rintro e w1 ⟨rfl,hb1⟩
 have HB1:=hid hb1
 have HP1:=hid (HP.out.below hb1 HP.out.lt)
 clear hb1 HJ p0 hlp
 cases a
 · obtain rfl:(4:Int)=E:=HE.out
   go_wp2
   go_ret
   exact⟨rfl,HB1.out⟩
 have p1:w1.cell? ⟨P,1,none⟩=some (.string l.node):=HP1.out.cell 1
 have hlp:=HP1.out.lt
 have HN:=hid (fU l.node w1 h2 (HT.out.below HB1.out))
 rw [Hb.out] at HN
 go_wp2_with fail
 refine Calls.mono HN.out ?_
 rintro e w2 ⟨rfl,hb2⟩
 have HB2:=hid (HB1.out.trans (hb2.mono HB1.out.size))
 have HP2:=hid (HP1.out.below hb2 HP1.out.lt)
 clear hb2 HN p1 hlp
 cases b
 · obtain rfl:(4:Int)=E:=HE.out
   go_wp2
   go_ret
   exact⟨rfl,HB2.out⟩
 have p2:w2.cell? ⟨P,2,none⟩=some (.int .i64 l.till):=HP2.out.cell 2
 have hlp:=HP2.out.lt
 have HR:=hid (yD l.till w2)
 rw [Hc.out] at HR
 go_wp2_with fail
 refine Calls.mono HR.out ?_
 rintro e w3 ⟨rfl,hb3⟩
 have HB3:=hid (HB2.out.trans (hb3.mono HB2.out.size))
 clear hb3 HR p2 hlp
 cases c
 · obtain rfl:(1:Int)=E:=HE.out
   go_wp2
   go_ret
   exact⟨rfl,HB3.out⟩
 · obtain rfl:(0:Int)=E:=HE.out
   go_wp2
   go_ret
   exact⟨rfl,HB3.out⟩
end Go.Proofs.YtoeejfhdjmkpcaaGreatDoor
