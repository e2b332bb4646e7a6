/- Of the proof of a statement: RcA, RcB, RcC. -/
import Derived.Test.YtbllgmociapjeaaGreatDoorVDoA
set_option linter.unusedVariables false
set_option linter.unusedSimpArgs false
set_option maxRecDepth 100000
set_option maxHeartbeats 8000000
/- req.partOf: the part of a request that its kind names; the parts' into; req.whole: a request with its kind's part alone. -/
namespace Go.Proofs.YtbllgmociapjeaaGreatDoor
open Go.Lib (hid)
open Go.RowKit
def lW (T t:TypeId) (cs:Array Value) (w:World) (e:Ending) (w':World):Prop:=
 ∃ P,e = .returned (.iface T (.pointer (some ⟨P,0,none⟩)))∧w.heap.size≤P∧Blk w' P t cs∧Below w.heap.size w w'
def mX (S:Nat) (q:aF) (w:World) (e:Ending) (w':World):Prop:=
 e = .returned (.tuple #[])∧Blk w' S 38 (aN q)∧(∀ g,g<w.heap.size→g≠S→w'.heap[g]? = w.heap[g]?)∧Below S w w'
def eI (k:Int):aF:=⟨k,gV,dw,cC,⟨#[]⟩,0⟩
theorem Cy (q:aF) (w:World) (hq:q.kind=1):Calls Tryz.prog 56 #[bH q] w (lW 169 171 #[.string q.job.name,.int .i64 q.job.prio,.int .i64 q.job.need,.int .i64 q.job.tries,.string q.job.tag] w):=by
 obtain⟨W,hW⟩:∃ W,w.alloc (.cells (aN q) 38)=W:=⟨_,rfl⟩
 have hb:Blk W w.heap.size 38 (aN q):=by rw [← hW]; exact heap_alloc_new w _
 have hbW:Below w.heap.size w W:=by rw [← hW]; exact (Below.refl _ _).alloc (Nat.le_refl _) _
 have h0:W.cell? ⟨w.heap.size,0,none⟩=some (.int .i64 1):=by rw [hb.cell 0,← hq]; rfl
 have h1:W.cell? ⟨w.heap.size,1,none⟩=some (.string q.job.name):=hb.cell 1
 have h2:W.cell? ⟨w.heap.size,2,none⟩=some (.int .i64 q.job.prio):=hb.cell 2
 have h3:W.cell? ⟨w.heap.size,3,none⟩=some (.int .i64 q.job.need):=hb.cell 3
 have h4:W.cell? ⟨w.heap.size,4,none⟩=some (.int .i64 q.job.tries):=hb.cell 4
 have h5:W.cell? ⟨w.heap.size,5,none⟩=some (.string q.job.tag):=hb.cell 5
 have HbW:=hid hbW
 unfold bH
 unfold aN at hW ⊢
 clear hq hb hbW
 go_enter Tryz.func56,Tryz.ntmps56
 go_wp2
 try rw [hW]
 clear hW
 go_ret
 exact⟨_,rfl,HbW.out.size,heap_alloc_new W _,HbW.out.alloc HbW.out.size _⟩
theorem GZ (q:aF) (P S:Nat) (w:World) (hp:Blk w P 171 #[.string q.job.name,.int .i64 q.job.prio,.int .i64 q.job.need,.int .i64 q.job.tries,.string q.job.tag]) (hs:Blk w S 38 (aN (eI q.kind))):Calls Tryz.prog 271 #[.pointer (some ⟨P,0,none⟩),.pointer (some ⟨S,0,none⟩)] w (mX S ⟨q.kind,q.job,dw,cC,⟨#[]⟩,0⟩ w):=by
 obtain⟨p0,p1,p2,p3,p4⟩:=Blk.c5 (hp)
 have s1:w.cell? ⟨S,1,none⟩=some (.string ⟨#[]⟩):=hs.cell 1
 have s2:w.cell? ⟨S,2,none⟩=some (.int .i64 0):=hs.cell 2
 have s3:w.cell? ⟨S,3,none⟩=some (.int .i64 0):=hs.cell 3
 have s4:w.cell? ⟨S,4,none⟩=some (.int .i64 0):=hs.cell 4
 have s5:w.cell? ⟨S,5,none⟩=some (.string ⟨#[]⟩):=hs.cell 5
 have z1:w.frozen? ⟨S,1,none⟩=false:=hs.thaw 1
 have z2:w.frozen? ⟨S,2,none⟩=false:=hs.thaw 2
 have z3:w.frozen? ⟨S,3,none⟩=false:=hs.thaw 3
 have z4:w.frozen? ⟨S,4,none⟩=false:=hs.thaw 4
 have z5:w.frozen? ⟨S,5,none⟩=false:=hs.thaw 5
 have hlp:=hp.lt
 have hls:=hs.lt
 have Hs:=hid hs
 clear hp hs
 go_enter Tryz.func271,Tryz.ntmps271
 go_wp2
 go_end0
 exact⟨rfl,Blk.eq (Blk.set (Blk.set (Blk.set (Blk.set (Blk.set Hs.out 1 _) 2 _) 3 _) 4 _) 5 _) rfl,fun g hg hne=>(Below.heap_setCell _ ⟨S,5,none⟩ _ g hne).trans ((Below.heap_setCell _ ⟨S,4,none⟩ _ g hne).trans ((Below.heap_setCell _ ⟨S,3,none⟩ _ g hne).trans ((Below.heap_setCell _ ⟨S,2,none⟩ _ g hne).trans ((Below.heap_setCell _ ⟨S,1,none⟩ _ g hne).trans (rfl))))),aM (aM (aM (aM (aM (Below.refl _ _) (Nat.le_refl _)) (Nat.le_refl _)) (Nat.le_refl _)) (Nat.le_refl _)) (Nat.le_refl _)⟩
theorem Cz (q:aF) (w:World) (hq:q.kind=2):Calls Tryz.prog 56 #[bH q] w (lW 172 174 #[.string q.node.name,.int .i64 q.node.room,.string q.node.zone] w):=by
 obtain⟨W,hW⟩:∃ W,w.alloc (.cells (aN q) 38)=W:=⟨_,rfl⟩
 have hb:Blk W w.heap.size 38 (aN q):=by rw [← hW]; exact heap_alloc_new w _
 have hbW:Below w.heap.size w W:=by rw [← hW]; exact (Below.refl _ _).alloc (Nat.le_refl _) _
 have h0:W.cell? ⟨w.heap.size,0,none⟩=some (.int .i64 2):=by rw [hb.cell 0,← hq]; rfl
 have h6:W.cell? ⟨w.heap.size,6,none⟩=some (.string q.node.name):=hb.cell 6
 have h7:W.cell? ⟨w.heap.size,7,none⟩=some (.int .i64 q.node.room):=hb.cell 7
 have h8:W.cell? ⟨w.heap.size,8,none⟩=some (.string q.node.zone):=hb.cell 8
 have HbW:=hid hbW
 unfold bH
 unfold aN at hW ⊢
 clear hq hb hbW
 go_enter Tryz.func56,Tryz.ntmps56
 go_wp2
 try rw [hW]
 clear hW
 go_ret
 exact⟨_,rfl,HbW.out.size,heap_alloc_new W _,HbW.out.alloc HbW.out.size _⟩
theorem EC (q:aF) (P S:Nat) (w:World) (hp:Blk w P 174 #[.string q.node.name,.int .i64 q.node.room,.string q.node.zone]) (hs:Blk w S 38 (aN (eI q.kind))):Calls Tryz.prog 280 #[.pointer (some ⟨P,0,none⟩),.pointer (some ⟨S,0,none⟩)] w (mX S ⟨q.kind,gV,q.node,cC,⟨#[]⟩,0⟩ w):=by
 have p0:w.cell? ⟨P,0,none⟩=some (.string q.node.name):=hp.cell 0
 have p1:w.cell? ⟨P,1,none⟩=some (.int .i64 q.node.room):=hp.cell 1
 have p2:w.cell? ⟨P,2,none⟩=some (.string q.node.zone):=hp.cell 2
 have s6:w.cell? ⟨S,6,none⟩=some (.string ⟨#[]⟩):=hs.cell 6
 have s7:w.cell? ⟨S,7,none⟩=some (.int .i64 0):=hs.cell 7
 have s8:w.cell? ⟨S,8,none⟩=some (.string ⟨#[]⟩):=hs.cell 8
 have z6:w.frozen? ⟨S,6,none⟩=false:=hs.thaw 6
 have z7:w.frozen? ⟨S,7,none⟩=false:=hs.thaw 7
 have z8:w.frozen? ⟨S,8,none⟩=false:=hs.thaw 8
 have hlp:=hp.lt
 have hls:=hs.lt
 have Hs:=hid hs
 clear hp hs
 go_enter Tryz.func280,Tryz.ntmps280
 go_wp2
 go_end0
 exact⟨rfl,Blk.eq (Blk.set (Blk.set (Blk.set Hs.out 6 _) 7 _) 8 _) rfl,fun g hg hne=>(Below.heap_setCell _ ⟨S,8,none⟩ _ g hne).trans ((Below.heap_setCell _ ⟨S,7,none⟩ _ g hne).trans ((Below.heap_setCell _ ⟨S,6,none⟩ _ g hne).trans (rfl))),aM (aM (aM (Below.refl _ _) (Nat.le_refl _)) (Nat.le_refl _)) (Nat.le_refl _)⟩
theorem CA (q:aF) (w:World) (hq:q.kind=5):Calls Tryz.prog 56 #[bH q] w (lW 175 177 #[.string q.lease.job,.string q.lease.node,.int .i64 q.lease.till] w):=by
 obtain⟨W,hW⟩:∃ W,w.alloc (.cells (aN q) 38)=W:=⟨_,rfl⟩
 have hb:Blk W w.heap.size 38 (aN q):=by rw [← hW]; exact heap_alloc_new w _
 have hbW:Below w.heap.size w W:=by rw [← hW]; exact (Below.refl _ _).alloc (Nat.le_refl _) _
 have h0:W.cell? ⟨w.heap.size,0,none⟩=some (.int .i64 5):=by rw [hb.cell 0,← hq]; rfl
 have h9:W.cell? ⟨w.heap.size,9,none⟩=some (.string q.lease.job):=hb.cell 9
 have h10:W.cell? ⟨w.heap.size,10,none⟩=some (.string q.lease.node):=hb.cell 10
 have h11:W.cell? ⟨w.heap.size,11,none⟩=some (.int .i64 q.lease.till):=hb.cell 11
 have HbW:=hid hbW
 unfold bH
 unfold aN at hW ⊢
 clear hq hb hbW
 go_enter Tryz.func56,Tryz.ntmps56
 go_wp2
 try rw [hW]
 clear hW
 go_ret
 exact⟨_,rfl,HbW.out.size,heap_alloc_new W _,HbW.out.alloc HbW.out.size _⟩
theorem CB (q:aF) (P S:Nat) (w:World) (hp:Blk w P 177 #[.string q.lease.job,.string q.lease.node,.int .i64 q.lease.till]) (hs:Blk w S 38 (aN (eI q.kind))):Calls Tryz.prog 285 #[.pointer (some ⟨P,0,none⟩),.pointer (some ⟨S,0,none⟩)] w (mX S ⟨q.kind,gV,dw,q.lease,⟨#[]⟩,0⟩ w):=by
 have p0:w.cell? ⟨P,0,none⟩=some (.string q.lease.job):=hp.cell 0
 have p1:w.cell? ⟨P,1,none⟩=some (.string q.lease.node):=hp.cell 1
 have p2:w.cell? ⟨P,2,none⟩=some (.int .i64 q.lease.till):=hp.cell 2
 have s9:w.cell? ⟨S,9,none⟩=some (.string ⟨#[]⟩):=hs.cell 9
 have s10:w.cell? ⟨S,10,none⟩=some (.string ⟨#[]⟩):=hs.cell 10
 have s11:w.cell? ⟨S,11,none⟩=some (.int .i64 0):=hs.cell 11
 have z9:w.frozen? ⟨S,9,none⟩=false:=hs.thaw 9
 have z10:w.frozen? ⟨S,10,none⟩=false:=hs.thaw 10
 have z11:w.frozen? ⟨S,11,none⟩=false:=hs.thaw 11
 have hlp:=hp.lt
 have hls:=hs.lt
 have Hs:=hid hs
 clear hp hs
 go_enter Tryz.func285,Tryz.ntmps285
 go_wp2
 go_end0
 exact⟨rfl,Blk.eq (Blk.set (Blk.set (Blk.set Hs.out 9 _) 10 _) 11 _) rfl,fun g hg hne=>(Below.heap_setCell _ ⟨S,11,none⟩ _ g hne).trans ((Below.heap_setCell _ ⟨S,10,none⟩ _ g hne).trans ((Below.heap_setCell _ ⟨S,9,none⟩ _ g hne).trans (rfl))),aM (aM (aM (Below.refl _ _) (Nat.le_refl _)) (Nat.le_refl _)) (Nat.le_refl _)⟩
theorem CC (q:aF) (w:World) (hq:q.kind=3):Calls Tryz.prog 56 #[bH q] w (lW 179 178 #[.string q.name] w):=by
 obtain⟨W,hW⟩:∃ W,w.alloc (.cells (aN q) 38)=W:=⟨_,rfl⟩
 have hb:Blk W w.heap.size 38 (aN q):=by rw [← hW]; exact heap_alloc_new w _
 have hbW:Below w.heap.size w W:=by rw [← hW]; exact (Below.refl _ _).alloc (Nat.le_refl _) _
 have h0:W.cell? ⟨w.heap.size,0,none⟩=some (.int .i64 3):=by rw [hb.cell 0,← hq]; rfl
 have h12:W.cell? ⟨w.heap.size,12,none⟩=some (.string q.name):=hb.cell 12
 have HbW:=hid hbW
 unfold bH
 unfold aN at hW ⊢
 clear hq hb hbW
 go_enter Tryz.func56,Tryz.ntmps56
 go_wp2
 try rw [hW]
 clear hW
 go_ret
 exact⟨_,rfl,HbW.out.size,heap_alloc_new W _,HbW.out.alloc HbW.out.size _⟩
theorem CD (q:aF) (w:World) (hq:q.kind=4):Calls Tryz.prog 56 #[bH q] w (lW 179 178 #[.string q.name] w):=by
 obtain⟨W,hW⟩:∃ W,w.alloc (.cells (aN q) 38)=W:=⟨_,rfl⟩
 have hb:Blk W w.heap.size 38 (aN q):=by rw [← hW]; exact heap_alloc_new w _
 have hbW:Below w.heap.size w W:=by rw [← hW]; exact (Below.refl _ _).alloc (Nat.le_refl _) _
 have h0:W.cell? ⟨w.heap.size,0,none⟩=some (.int .i64 4):=by rw [hb.cell 0,← hq]; rfl
 have h12:W.cell? ⟨w.heap.size,12,none⟩=some (.string q.name):=hb.cell 12
 have HbW:=hid hbW
 unfold bH
 unfold aN at hW ⊢
 clear hq hb hbW
 go_enter Tryz.func56,Tryz.ntmps56
 go_wp2
 try rw [hW]
 clear hW
 go_ret
 exact⟨_,rfl,HbW.out.size,heap_alloc_new W _,HbW.out.alloc HbW.out.size _⟩
theorem CF (q:aF) (w:World) (hq:q.kind=6):Calls Tryz.prog 56 #[bH q] w (lW 179 178 #[.string q.name] w):=by
 obtain⟨W,hW⟩:∃ W,w.alloc (.cells (aN q) 38)=W:=⟨_,rfl⟩
 have hb:Blk W w.heap.size 38 (aN q):=by rw [← hW]; exact heap_alloc_new w _
 have hbW:Below w.heap.size w W:=by rw [← hW]; exact (Below.refl _ _).alloc (Nat.le_refl _) _
 have h0:W.cell? ⟨w.heap.size,0,none⟩=some (.int .i64 6):=by rw [hb.cell 0,← hq]; rfl
 have h12:W.cell? ⟨w.heap.size,12,none⟩=some (.string q.name):=hb.cell 12
 have HbW:=hid hbW
 unfold bH
 unfold aN at hW ⊢
 clear hq hb hbW
 go_enter Tryz.func56,Tryz.ntmps56
 go_wp2
 try rw [hW]
 clear hW
 go_ret
 exact⟨_,rfl,HbW.out.size,heap_alloc_new W _,HbW.out.alloc HbW.out.size _⟩
theorem ED (q:aF) (P S:Nat) (w:World) (hp:Blk w P 178 #[.string q.name]) (hs:Blk w S 38 (aN (eI q.kind))):Calls Tryz.prog 290 #[.pointer (some ⟨P,0,none⟩),.pointer (some ⟨S,0,none⟩)] w (mX S ⟨q.kind,gV,dw,cC,q.name,0⟩ w):=by
 have p0:w.cell? ⟨P,0,none⟩=some (.string q.name):=hp.cell 0
 have s12:w.cell? ⟨S,12,none⟩=some (.string ⟨#[]⟩):=hs.cell 12
 have z12:w.frozen? ⟨S,12,none⟩=false:=hs.thaw 12
 have hlp:=hp.lt
 have hls:=hs.lt
 have Hs:=hid hs
 clear hp hs
 go_enter Tryz.func290,Tryz.ntmps290
 go_wp2
 go_end0
 exact⟨rfl,Blk.eq (Blk.set Hs.out 12 _) rfl,fun g hg hne=>(Below.heap_setCell _ ⟨S,12,none⟩ _ g hne).trans (rfl),aM (Below.refl _ _) (Nat.le_refl _)⟩
theorem CG (q:aF) (w:World) (hq:q.kind=7):Calls Tryz.prog 56 #[bH q] w (lW 181 180 #[.int .i64 q.n] w):=by
 obtain⟨W,hW⟩:∃ W,w.alloc (.cells (aN q) 38)=W:=⟨_,rfl⟩
 have hb:Blk W w.heap.size 38 (aN q):=by rw [← hW]; exact heap_alloc_new w _
 have hbW:Below w.heap.size w W:=by rw [← hW]; exact (Below.refl _ _).alloc (Nat.le_refl _) _
 have h0:W.cell? ⟨w.heap.size,0,none⟩=some (.int .i64 7):=by rw [hb.cell 0,← hq]; rfl
 have h13:W.cell? ⟨w.heap.size,13,none⟩=some (.int .i64 q.n):=hb.cell 13
 have HbW:=hid hbW
 unfold bH
 unfold aN at hW ⊢
 clear hq hb hbW
 go_enter Tryz.func56,Tryz.ntmps56
 go_wp2
 try rw [hW]
 clear hW
 go_ret
 exact⟨_,rfl,HbW.out.size,heap_alloc_new W _,HbW.out.alloc HbW.out.size _⟩
theorem CI (q:aF) (P S:Nat) (w:World) (hp:Blk w P 180 #[.int .i64 q.n]) (hs:Blk w S 38 (aN (eI q.kind))):Calls Tryz.prog 294 #[.pointer (some ⟨P,0,none⟩),.pointer (some ⟨S,0,none⟩)] w (mX S ⟨q.kind,gV,dw,cC,⟨#[]⟩,q.n⟩ w):=by
 have p0:w.cell? ⟨P,0,none⟩=some (.int .i64 q.n):=hp.cell 0
 have s13:w.cell? ⟨S,13,none⟩=some (.int .i64 0):=hs.cell 13
 have z13:w.frozen? ⟨S,13,none⟩=false:=hs.thaw 13
 have hlp:=hp.lt
 have hls:=hs.lt
 have Hs:=hid hs
 clear hp hs
 go_enter Tryz.func294,Tryz.ntmps294
 go_wp2
 go_end0
 exact⟨rfl,Blk.eq (Blk.set Hs.out 13 _) rfl,fun g hg hne=>(Below.heap_setCell _ ⟨S,13,none⟩ _ g hne).trans (rfl),aM (Below.refl _ _) (Nat.le_refl _)⟩
end Go.Proofs.YtbllgmociapjeaaGreatDoor
/- req.whole: a request with its kind's part alone. -/
namespace Go.Proofs.YtbllgmociapjeaaGreatDoor
open Go.Lib (hid)
open Go.RowKit
def sY (w:World) (S:Nat) (h:aF):World:=World.setCell (World.setCell (World.setCell (World.setCell (World.setCell (World.setCell (World.setCell (World.setCell (World.setCell (World.setCell (World.setCell (World.setCell (World.setCell (World.setCell w ⟨S,0,none⟩ (.int .i64 h.kind)) ⟨S,1,none⟩ (.string h.job.name)) ⟨S,2,none⟩ (.int .i64 h.job.prio)) ⟨S,3,none⟩ (.int .i64 h.job.need)) ⟨S,4,none⟩ (.int .i64 h.job.tries)) ⟨S,5,none⟩ (.string h.job.tag)) ⟨S,6,none⟩ (.string h.node.name)) ⟨S,7,none⟩ (.int .i64 h.node.room)) ⟨S,8,none⟩ (.string h.node.zone)) ⟨S,9,none⟩ (.string h.lease.job)) ⟨S,10,none⟩ (.string h.lease.node)) ⟨S,11,none⟩ (.int .i64 h.lease.till)) ⟨S,12,none⟩ (.string h.name)) ⟨S,13,none⟩ (.int .i64 h.n)
theorem wH {w:World} {S:Nat} {q0:aF} (h:aF) (h0:Blk w S 38 (aN q0)):Blk (sY w S h) S 38 (aN h):=by
 have h14:=Blk.set (Blk.set (Blk.set (Blk.set (Blk.set (Blk.set (Blk.set (Blk.set (Blk.set (Blk.set (Blk.set (Blk.set (Blk.set (Blk.set h0 0 (.int .i64 h.kind)) 1 (.string h.job.name)) 2 (.int .i64 h.job.prio)) 3 (.int .i64 h.job.need)) 4 (.int .i64 h.job.tries)) 5 (.string h.job.tag)) 6 (.string h.node.name)) 7 (.int .i64 h.node.room)) 8 (.string h.node.zone)) 9 (.string h.lease.job)) 10 (.string h.lease.node)) 11 (.int .i64 h.lease.till)) 12 (.string h.name)) 13 (.int .i64 h.n)
 refine Blk.eq h14 ?_
 simp [aN]
theorem rO (w:World) (S:Nat) (h:aF):Below S w (sY w S h):=aM (aM (aM (aM (aM (aM (aM (aM (aM (aM (aM (aM (aM (aM (Below.refl _ _) (Nat.le_refl _)) (Nat.le_refl _)) (Nat.le_refl _)) (Nat.le_refl _)) (Nat.le_refl _)) (Nat.le_refl _)) (Nat.le_refl _)) (Nat.le_refl _)) (Nat.le_refl _)) (Nat.le_refl _)) (Nat.le_refl _)) (Nat.le_refl _)) (Nat.le_refl _)) (Nat.le_refl _)
theorem lg (k:Int) (h:aF) (T:TypeId) (F:FuncId) (v:Value) (w:World)
 (hm : ∀ w, (method 424 T v "bracken/req.into").run Tryz.prog w = .ok (F, v) w)
 (hc:∀ a (w:World),(callFunc F a).run Tryz.prog w = .ok (.enter F a) w)
 (HI:∀ W S,Below w.heap.size w W→w.heap.size≤S→Blk W S 38 (aN (eI k))→Calls Tryz.prog F #[v,.pointer (some ⟨S,0,none⟩)] W (mX S h W)) :
 Calls Tryz.prog 86 #[.int .i64 k,.iface T v] w fun e w'=>e = .returned (bH h)∧Below w.heap.size w w':=by
 obtain⟨W,hW⟩:∃ W,(w.alloc (.cells (aN (eI 0)) 38)).alloc (.cells (aN (eI k)) 38)=W:=⟨_,rfl⟩
 have hbW:Below w.heap.size w W:=by rw [← hW]; exact ((Below.refl _ _).alloc (Nat.le_refl _) _).alloc (by simp) _
 have hr:Blk W w.heap.size 38 (aN (eI 0)):=by rw [← hW]; exact Blk.alloc (show Blk _ _ _ _ from heap_alloc_new w _) _
 have hs:Blk W (w.heap.size+1) 38 (aN (eI k)):=by
  rw [← hW]
  have:=heap_alloc_new (w.alloc (.cells (aN (eI 0)) 38)) (.cells (aN (eI k)) 38)
  rwa [show (w.alloc (.cells (aN (eI 0)) 38)).heap.size=w.heap.size+1 by simp] at this
 have HI:=hid (HI W (w.heap.size+1) hbW (Nat.le_succ _) hs)
 have HbW:=hid hbW
 have Hr:=hid hr
 clear hbW hr hs
 unfold eI aN gV dw cC at hW
 have HW:=hid hW
 clear hW
 unfold bH aN
 go_enter Tryz.func86,Tryz.ntmps86
 go_wp2_with fail
 rw [HW.out]
 clear HW
 refine Calls.mono HI.out ?_
 rintro e w1 ⟨rfl,hs1,ho,hb1⟩
 have hr1:Blk w1 w.heap.size 38 (aN (eI 0)):=(ho _ Hr.out.lt (by omega)).trans Hr.out
 have bI:=hid ((HbW.out.trans (hb1.mono (Nat.le_succ _))))
 obtain⟨s0,s1,s2,s3,s4,s5,s6,s7,s8,s9,s10,s11,s12,s13⟩:=Blk.c14 (hs1)
 obtain⟨r0,r1,r2,r3,r4,r5,r6,r7,r8,r9,r10,r11,r12,r13⟩:=Blk.c14 (show Blk w1 (w.heap.size) _ #[.int .i64 0,.string ⟨#[]⟩,.int .i64 0,.int .i64 0,.int .i64 0,.string ⟨#[]⟩,.string ⟨#[]⟩,.int .i64 0,.string ⟨#[]⟩,.string ⟨#[]⟩,.string ⟨#[]⟩,.int .i64 0,.string ⟨#[]⟩,.int .i64 0] from hr1)
 obtain⟨z0,z1,z2,z3,z4,z5,z6,z7,z8,z9,z10,z11,z12,z13⟩:=Blk.z14 (hr1)
 have hl1:=hs1.lt
 have hl2:=hr1.lt
 have Hr1:=hid hr1
 clear hs1 ho hb1 hr1 HI
 go_wp2
 have hf:=wH h Hr1.out
 have hB:=bI.out.trans (rO w1 w.heap.size h)
 obtain⟨wf,hwf⟩:∃ wf,sY w1 w.heap.size h=wf:=⟨_,rfl⟩
 rw [hwf] at hf hB
 unfold sY at hwf
 simp only [hwf]
 clear hwf s0 r0 z0 s1 r1 z1 s2 r2 z2 s3 r3 z3 s4 r4 z4 s5 r5 z5 s6 r6 z6 s7 r7 z7 s8 r8 z8 s9 r9 z9 s10 r10 z10 s11 r11 z11 s12 r12 z12 s13 r13 z13 hl1 hl2 hm hc Hr1 bI
 obtain⟨f0,f1,f2,f3,f4,f5,f6,f7,f8,f9,f10,f11,f12,f13⟩:=Blk.c14 (hf)
 have HB:=hid hB
 clear hf hB
 refine bodyPost_ret (v:=.agg #[.int .i64 h.kind,.string h.job.name,.int .i64 h.job.prio,.int .i64 h.job.need,.int .i64 h.job.tries,.string h.job.tag,.string h.node.name,.int .i64 h.node.room,.string h.node.zone,.string h.lease.job,.string h.lease.node,.int .i64 h.lease.till,.string h.name,.int .i64 h.n]) (by simp [results,Tryz.results86,go_sem, *]) rfl ?_
 exact⟨rfl,HB.out⟩
theorem yt (q:aF) (P:Nat) (w:World) (hp:Blk w P 171 #[.string q.job.name,.int .i64 q.job.prio,.int .i64 q.job.need,.int .i64 q.job.tries,.string q.job.tag]):Calls Tryz.prog 86 #[.int .i64 q.kind,.iface 169 (.pointer (some ⟨P,0,none⟩))] w fun e w'=>e = .returned (bH ⟨q.kind,q.job,dw,cC,⟨#[]⟩,0⟩)∧Below w.heap.size w w':=
 lg q.kind _ _ 271 _ w (fun _=>by kernel_rfl) (fun _ _=>by kernel_rfl) (fun W S hb _ hs=>GZ q P S W (hp.below hb hp.lt) hs)
theorem wI (q:aF) (P:Nat) (w:World) (hp:Blk w P 174 #[.string q.node.name,.int .i64 q.node.room,.string q.node.zone]):Calls Tryz.prog 86 #[.int .i64 q.kind,.iface 172 (.pointer (some ⟨P,0,none⟩))] w fun e w'=>e = .returned (bH ⟨q.kind,gV,q.node,cC,⟨#[]⟩,0⟩)∧Below w.heap.size w w':=
 lg q.kind _ _ 280 _ w (fun _=>by kernel_rfl) (fun _ _=>by kernel_rfl) (fun W S hb _ hs=>EC q P S W (hp.below hb hp.lt) hs)
theorem tW (q:aF) (P:Nat) (w:World) (hp:Blk w P 177 #[.string q.lease.job,.string q.lease.node,.int .i64 q.lease.till]):Calls Tryz.prog 86 #[.int .i64 q.kind,.iface 175 (.pointer (some ⟨P,0,none⟩))] w fun e w'=>e = .returned (bH ⟨q.kind,gV,dw,q.lease,⟨#[]⟩,0⟩)∧Below w.heap.size w w':=
 lg q.kind _ _ 285 _ w (fun _=>by kernel_rfl) (fun _ _=>by kernel_rfl) (fun W S hb _ hs=>CB q P S W (hp.below hb hp.lt) hs)
theorem jN (q:aF) (P:Nat) (w:World) (hp:Blk w P 178 #[.string q.name]):Calls Tryz.prog 86 #[.int .i64 q.kind,.iface 179 (.pointer (some ⟨P,0,none⟩))] w fun e w'=>e = .returned (bH ⟨q.kind,gV,dw,cC,q.name,0⟩)∧Below w.heap.size w w':=
 lg q.kind _ _ 290 _ w (fun _=>by kernel_rfl) (fun _ _=>by kernel_rfl) (fun W S hb _ hs=>ED q P S W (hp.below hb hp.lt) hs)
theorem tX (q:aF) (P:Nat) (w:World) (hp:Blk w P 180 #[.int .i64 q.n]):Calls Tryz.prog 86 #[.int .i64 q.kind,.iface 181 (.pointer (some ⟨P,0,none⟩))] w fun e w'=>e = .returned (bH ⟨q.kind,gV,dw,cC,⟨#[]⟩,q.n⟩)∧Below w.heap.size w w':=
 lg q.kind _ _ 294 _ w (fun _=>by kernel_rfl) (fun _ _=>by kernel_rfl) (fun W S hb _ hs=>CI q P S W (hp.below hb hp.lt) hs)
end Go.Proofs.YtbllgmociapjeaaGreatDoor
/- req.isTime, the parts' check. -/
namespace Go.Proofs.YtbllgmociapjeaaGreatDoor
open Go.Lib (hid)
open Go.RowKit
def cF (E:Int) (w:World) (e:Ending) (w':World):Prop:=e = .returned (.int .i64 E)∧Below w.heap.size w w'
theorem wJ (n:Int) (w:World):Calls Tryz.prog 209 #[.int .i64 n] w fun e w'=>e = .returned (.bool (ranged n 0 1099511627776))∧Below w.heap.size w w':=by
 by_cases h0:0≤n
 · by_cases h1:n≤1099511627776
   · have hr:ranged n 0 1099511627776=true:=aL.2 ⟨h0,h1⟩
     have d0:decide (0≤n)=true:=decide_eq_true h0
     have d1:decide (n≤1099511627776)=true:=decide_eq_true h1
     rw [hr]
     go_enter Tryz.func209,Tryz.ntmps209
     go_wp2
     go_ret
     exact⟨rfl,Below.refl _ _⟩
   · have hr:ranged n 0 1099511627776=false:=gT.2 (by omega)
     have d0:decide (0≤n)=true:=decide_eq_true h0
     have d1:decide (n≤1099511627776)=false:=decide_eq_false h1
     rw [hr]
     go_enter Tryz.func209,Tryz.ntmps209
     go_wp2
     go_ret
     exact⟨rfl,Below.refl _ _⟩
 · have hr:ranged n 0 1099511627776=false:=gT.2 (by omega)
   have d0:decide (0≤n)=false:=decide_eq_false h0
   rw [hr]
   go_enter Tryz.func209,Tryz.ntmps209
   go_wp2
   go_ret
   exact⟨rfl,Below.refl _ _⟩
theorem CJ (j:aC) (P:Nat) (w:World) (hp:Blk w P 171 #[.string j.name,.int .i64 j.prio,.int .i64 j.need,.int .i64 j.tries,.string j.tag]) (h1:j.name.size≤9223372036854775807) (h2:j.tag.size≤9223372036854775807) (hT:Tabs w):Calls Tryz.prog 270 #[.pointer (some ⟨P,0,none⟩)] w (cF (fB j) w):=by
 obtain⟨p0,p1,p2,p3,p4⟩:=Blk.c5 (hp)
 have hlp:=hp.lt
 have HC:=hid (show Calls Tryz.prog _ #[.agg #[.string j.name,.int .i64 j.prio,.int .i64 j.need,.int .i64 j.tries,.string j.tag]] w _ from rM j w h1 h2 hT)
 obtain⟨E,hE⟩:∃ E,fB j=E:=⟨_,rfl⟩
 rw [hE] at HC ⊢
 clear hp hE
 go_enter Tryz.func270,Tryz.ntmps270
 go_wp2_with fail
 refine Calls.mono HC.out ?_
 rintro e w5 ⟨rfl,hb5⟩
 have HB:=hid hb5
 clear hb5 HC
 go_wp2
 go_ret
 exact⟨rfl,HB.out⟩
theorem AY (j:aA) (P:Nat) (w:World) (hp:Blk w P 174 #[.string j.name,.int .i64 j.room,.string j.zone]) (h1:j.name.size≤9223372036854775807) (h2:j.zone.size≤9223372036854775807) (hT:Tabs w):Calls Tryz.prog 279 #[.pointer (some ⟨P,0,none⟩)] w (cF (dO j) w):=by
 have p0:w.cell? ⟨P,0,none⟩=some (.string j.name):=hp.cell 0
 have p1:w.cell? ⟨P,1,none⟩=some (.int .i64 j.room):=hp.cell 1
 have p2:w.cell? ⟨P,2,none⟩=some (.string j.zone):=hp.cell 2
 have hlp:=hp.lt
 have HC:=hid (show Calls Tryz.prog _ #[.agg #[.string j.name,.int .i64 j.room,.string j.zone]] w _ from pQ j w h1 h2 hT)
 obtain⟨E,hE⟩:∃ E,dO j=E:=⟨_,rfl⟩
 rw [hE] at HC ⊢
 clear hp hE
 go_enter Tryz.func279,Tryz.ntmps279
 go_wp2_with fail
 refine Calls.mono HC.out ?_
 rintro e w5 ⟨rfl,hb5⟩
 have HB:=hid hb5
 clear hb5 HC
 go_wp2
 go_ret
 exact⟨rfl,HB.out⟩
theorem oK (s:ByteArray) (P:Nat) (w:World) (hp:Blk w P 178 #[.string s]) (hs:s.size≤9223372036854775807) (hT:Tabs w):Calls Tryz.prog 289 #[.pointer (some ⟨P,0,none⟩)] w (cF (if bF s then 0 else 4) w):=by
 have p0:w.cell? ⟨P,0,none⟩=some (.string s):=hp.cell 0
 have hlp:=hp.lt
 have HC:=hid (fI s w hs hT)
 obtain⟨b,hb⟩:∃ b,bF s=b:=⟨_,rfl⟩
 rw [hb] at HC ⊢
 obtain⟨E,hE⟩:∃ E:Int,(if b=true then (0:Int) else 4)=E:=⟨_,rfl⟩
 rw [hE]
 have HE:=hid hE
 clear hp hb hE
 go_enter Tryz.func289,Tryz.ntmps289
 go_wp2_with fail
 refine Calls.mono HC.out ?_
 rintro e w5 ⟨rfl,hb5⟩
 have HB:=hid hb5
 clear hb5 HC
 cases b
 · obtain rfl:(4:Int)=E:=HE.out
   go_wp2
   go_ret
   exact⟨rfl,HB.out⟩
 · obtain rfl:(0:Int)=E:=HE.out
   go_wp2
   go_ret
   exact⟨rfl,HB.out⟩
theorem zk (s:Int) (P:Nat) (w:World) (hp:Blk w P 180 #[.int .i64 s]):Calls Tryz.prog 293 #[.pointer (some ⟨P,0,none⟩)] w (cF (if ranged s 0 1099511627776 then 0 else 1) w):=by
 have p0:w.cell? ⟨P,0,none⟩=some (.int .i64 s):=hp.cell 0
 have hlp:=hp.lt
 have HC:=hid (wJ s w)
 obtain⟨b,hb⟩:∃ b,ranged s 0 1099511627776=b:=⟨_,rfl⟩
 rw [hb] at HC ⊢
 obtain⟨E,hE⟩:∃ E:Int,(if b=true then (0:Int) else 1)=E:=⟨_,rfl⟩
 rw [hE]
 have HE:=hid hE
 clear hp hb hE
 go_enter Tryz.func293,Tryz.ntmps293
 go_wp2_with fail
 refine Calls.mono HC.out ?_
 rintro e w5 ⟨rfl,hb5⟩
 have HB:=hid hb5
 clear hb5 HC
 cases b
 · obtain rfl:(1:Int)=E:=HE.out
   go_wp2
   go_ret
   exact⟨rfl,HB.out⟩
 · obtain rfl:(0:Int)=E:=HE.out
   go_wp2
   go_ret
   exact⟨rfl,HB.out⟩
theorem zl (l:ak) (P:Nat) (w:World) (hp:Blk w P 177 #[.string l.job,.string l.node,.int .i64 l.till]) (h1:l.job.size≤9223372036854775807) (h2:l.node.size≤9223372036854775807) (hT:Tabs w):Calls Tryz.prog 284 #[.pointer (some ⟨P,0,none⟩)] w (cF (lsE l) w):=by
 have p0:w.cell? ⟨P,0,none⟩=some (.string l.job):=hp.cell 0
 have hlp:=hp.lt
 have HP:=hid hp
 have HT:=hid hT
 have HJ:=hid (fI l.job w h1 hT)
 obtain⟨a,ha⟩:∃ a,bF l.job=a:=⟨_,rfl⟩
 obtain⟨b,hb⟩:∃ b,bF l.node=b:=⟨_,rfl⟩
 obtain⟨c,hc⟩:∃ c,ranged l.till 0 1099511627776=c:=⟨_,rfl⟩
 obtain⟨E,hE⟩:∃ E,lsE l=E:=⟨_,rfl⟩
 rw [hE]
 unfold lsE at hE
 rw [ha,hb,hc] at hE
 rw [ha] at HJ
 have HE:=hid hE
 have Hb:=hid hb
 have Hc:=hid hc
 clear hp hT ha hb hc hE
 go_enter Tryz.func284,Tryz.ntmps284
 go_wp2_with fail
 refine Calls.mono HJ.out ?_
 rintro e w1 ⟨rfl,hb1⟩
 have HB1:=hid hb1
 have HP1:=hid (HP.out.below hb1 HP.out.lt)
 clear hb1 HJ p0 hlp
 cases a
 · obtain rfl:(4:Int)=E:=HE.out
   go_wp2
   go_ret
   exact⟨rfl,HB1.out⟩
 have p1:w1.cell? ⟨P,1,none⟩=some (.string l.node):=HP1.out.cell 1
 have hlp:=HP1.out.lt
 have HN:=hid (fI l.node w1 h2 (HT.out.below HB1.out))
 rw [Hb.out] at HN
 go_wp2_with fail
 refine Calls.mono HN.out ?_
 rintro e w2 ⟨rfl,hb2⟩
 have HB2:=hid (HB1.out.trans (hb2.mono HB1.out.size))
 have HP2:=hid (HP1.out.below hb2 HP1.out.lt)
 clear hb2 HN p1 hlp
 cases b
 · obtain rfl:(4:Int)=E:=HE.out
   go_wp2
   go_ret
   exact⟨rfl,HB2.out⟩
 have p2:w2.cell? ⟨P,2,none⟩=some (.int .i64 l.till):=HP2.out.cell 2
 have hlp:=HP2.out.lt
 have HR:=hid (wJ l.till w2)
 rw [Hc.out] at HR
 go_wp2_with fail
 refine Calls.mono HR.out ?_
 rintro e w3 ⟨rfl,hb3⟩
 have HB3:=hid (HB2.out.trans (hb3.mono HB2.out.size))
 clear hb3 HR p2 hlp
 cases c
 · obtain rfl:(1:Int)=E:=HE.out
   go_wp2
   go_ret
   exact⟨rfl,HB3.out⟩
 · obtain rfl:(0:Int)=E:=HE.out
   go_wp2
   go_ret
   exact⟨rfl,HB3.out⟩
end Go.Proofs.YtbllgmociapjeaaGreatDoor
