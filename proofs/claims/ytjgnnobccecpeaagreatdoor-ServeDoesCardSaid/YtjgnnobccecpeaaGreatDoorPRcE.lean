/- Of the proof. -/
import Derived.Test.YtjgnnobccecpeaaGreatDoorPArgSt
import Derived.Test.YtjgnnobccecpeaaGreatDoorPDoB
import Derived.Test.YtjgnnobccecpeaaGreatDoorPRcB
set_option linter.unusedVariables false
set_option linter.unusedSimpArgs false
set_option maxRecDepth 100000
set_option maxHeartbeats 8000000
namespace Go.Proofs.YtjgnnobccecpeaaGreatDoor
open Go.Lib (hid)
open List (foldl_cons foldl_nil setIfInBounds_toArray set_cons_succ set_cons_zero)
open Go.RowKit
theorem neqv_req0 (xk yk : Int) (xjn yjn : ByteArray) (xjp yjp : Int) (xjd yjd : Int) (xjt yjt : Int) (xjg yjg : ByteArray) (xnn ynn : ByteArray) (xnr ynr : Int) (xnz ynz : ByteArray) (xlj ylj : ByteArray) (xln yln : ByteArray) (xlt ylt : Int) (xnm ynm : ByteArray) (xn yn : Int) (h : (⟨xk, ⟨xjn, xjp, xjd, xjt, xjg⟩, ⟨xnn, xnr, xnz⟩, ⟨xlj, xln, xlt⟩, xnm, xn⟩ : ReqD) ≠ (⟨yk, ⟨yjn, yjp, yjd, yjt, yjg⟩, ⟨ynn, ynr, ynz⟩, ⟨ylj, yln, ylt⟩, ynm, yn⟩ : ReqD)) (W : World) : (binOp .neq 44 (.agg #[.int .i64 xk, .string xjn, .int .i64 xjp, .int .i64 xjd, .int .i64 xjt, .string xjg, .string xnn, .int .i64 xnr, .string xnz, .string xlj, .string xln, .int .i64 xlt, .string xnm, .int .i64 xn]) (.agg #[.int .i64 yk, .string yjn, .int .i64 yjp, .int .i64 yjd, .int .i64 yjt, .string yjg, .string ynn, .int .i64 ynr, .string ynz, .string ylj, .string yln, .int .i64 ylt, .string ynm, .int .i64 yn])).run Tryz.prog W = .ok (.bool true) W := by
 by_cases e_k : xk = yk
 rotate_left
 · simp [go_sem, e_k]
 by_cases e_jn : xjn.toList = yjn.toList
 rotate_left
 · simp [go_sem, e_k, e_jn]
 by_cases e_jp : xjp = yjp
 rotate_left
 · simp [go_sem, e_k, e_jn, e_jp]
 by_cases e_jd : xjd = yjd
 rotate_left
 · simp [go_sem, e_k, e_jn, e_jp, e_jd]
 by_cases e_jt : xjt = yjt
 rotate_left
 · simp [go_sem, e_k, e_jn, e_jp, e_jd, e_jt]
 by_cases e_jg : xjg.toList = yjg.toList
 rotate_left
 · simp [go_sem, e_k, e_jn, e_jp, e_jd, e_jt, e_jg]
 by_cases e_nn : xnn.toList = ynn.toList
 rotate_left
 · simp [go_sem, e_k, e_jn, e_jp, e_jd, e_jt, e_jg, e_nn]
 by_cases e_nr : xnr = ynr
 rotate_left
 · simp [go_sem, e_k, e_jn, e_jp, e_jd, e_jt, e_jg, e_nn, e_nr]
 by_cases e_nz : xnz.toList = ynz.toList
 rotate_left
 · simp [go_sem, e_k, e_jn, e_jp, e_jd, e_jt, e_jg, e_nn, e_nr, e_nz]
 by_cases e_lj : xlj.toList = ylj.toList
 rotate_left
 · simp [go_sem, e_k, e_jn, e_jp, e_jd, e_jt, e_jg, e_nn, e_nr, e_nz, e_lj]
 by_cases e_ln : xln.toList = yln.toList
 rotate_left
 · simp [go_sem, e_k, e_jn, e_jp, e_jd, e_jt, e_jg, e_nn, e_nr, e_nz, e_lj, e_ln]
 by_cases e_lt : xlt = ylt
 rotate_left
 · simp [go_sem, e_k, e_jn, e_jp, e_jd, e_jt, e_jg, e_nn, e_nr, e_nz, e_lj, e_ln, e_lt]
 by_cases e_nm : xnm.toList = ynm.toList
 rotate_left
 · simp [go_sem, e_k, e_jn, e_jp, e_jd, e_jt, e_jg, e_nn, e_nr, e_nz, e_lj, e_ln, e_lt, e_nm]
 by_cases e_n : xn = yn
 rotate_left
 · simp [go_sem, e_k, e_jn, e_jp, e_jd, e_jt, e_jg, e_nn, e_nr, e_nz, e_lj, e_ln, e_lt, e_nm, e_n]
 refine absurd ?_ h
 subst e_k
 have e_jn := bytes_ext e_jn; subst e_jn
 subst e_jp
 subst e_jd
 subst e_jt
 have e_jg := bytes_ext e_jg; subst e_jg
 have e_nn := bytes_ext e_nn; subst e_nn
 subst e_nr
 have e_nz := bytes_ext e_nz; subst e_nz
 have e_lj := bytes_ext e_lj; subst e_lj
 have e_ln := bytes_ext e_ln; subst e_ln
 subst e_lt
 have e_nm := bytes_ext e_nm; subst e_nm
 subst e_n
 rfl
theorem neqv_req (a b : ReqD) : ∃ t : Bool, (t = true ↔ a = b) ∧ ∀ W, (binOp .neq 44 (reqA a) (reqA b)).run Tryz.prog W = .ok (.bool (!t)) W := by
 by_cases h : a = b
 · subst h
   exact ⟨true, ⟨fun _ => rfl, fun _ => rfl⟩, fun W => by simp [go_sem, reqA, reqC]⟩
 · exact ⟨false, ⟨fun h' => (by cases h'), fun h' => absurd h' h⟩, fun W => neqv_req0 _ _ _ _ _ _ _ _ _ _ _ _ _ _ _ _ _ _ _ _ _ _ _ _ _ _ _ _ h W⟩
open Go.RowKit
structure RckAt (w : World) (q : ReqD) (P : Nat) (T : TypeId) (cs : Array Value) (wx : World) : Prop where
 qb : Blk wx w.heap.size 44 (reqC q)
 pb : Blk wx P T cs
 below : Below w.heap.size w wx
theorem RckAt.next {w w' wx : World} {q : ReqD} {P : Nat} {T : TypeId} {cs : Array Value} (h : RckAt w q P T cs wx) (hb : Below wx.heap.size wx w') : RckAt w q P T cs w' :=
 ⟨h.qb.below hb h.qb.lt, h.pb.below hb h.pb.lt, h.below.trans (hb.mono h.below.size)⟩
structure ROk (q : ReqD) : Prop where
 j1 : q.job.name.size ≤ 9223372036854775807
 j2 : q.job.tag.size ≤ 9223372036854775807
 n1 : q.node.name.size ≤ 9223372036854775807
 n2 : q.node.zone.size ≤ 9223372036854775807
 l1 : q.lease.job.size ≤ 9223372036854775807
 l2 : q.lease.node.size ≤ 9223372036854775807
 s : q.name.size ≤ 9223372036854775807
def ckjobV (B P : Nat) (q : ReqD) (t : Bool) : Nat → Value → Prop
 | 0, u => u = .pointer (some ⟨B, 0, none⟩)
 | 1, u => u = .int .i64 q.kind
 | 2, u => u = .iface 247 (.pointer (some ⟨P, 0, none⟩))
 | 3, u => u = .agg #[.int .i64 q.kind, .string q.job.name, .int .i64 q.job.prio, .int .i64 q.job.need, .int .i64 q.job.tries, .string q.job.tag, .string ⟨#[]⟩, .int .i64 0, .string ⟨#[]⟩, .string ⟨#[]⟩, .string ⟨#[]⟩, .int .i64 0, .string ⟨#[]⟩, .int .i64 0]
 | 4, u => u = .agg #[.int .i64 q.kind, .string q.job.name, .int .i64 q.job.prio, .int .i64 q.job.need, .int .i64 q.job.tries, .string q.job.tag, .string q.node.name, .int .i64 q.node.room, .string q.node.zone, .string q.lease.job, .string q.lease.node, .int .i64 q.lease.till, .string q.name, .int .i64 q.n]
 | 5, u => u = .bool (!t)
 | 6, u => u = .bool (!t)
 | _, _ => False
theorem rcheck_1 (q : ReqD) (w : World) (hq : q.kind = 1) (hok : ROk q) (hT : Tabs w) : Calls Tryz.prog 35 #[reqA q] w (ErrPost (reqE q) w) := by
 obtain ⟨W, hW⟩ : ∃ W, w.alloc (.cells (reqC q) 44) = W := ⟨_, rfl⟩
 have hb : Blk W w.heap.size 44 (reqC q) := by rw [← hW]; exact heap_alloc_new w _
 have hbW : Below w.heap.size w W := by rw [← hW]; exact (Below.refl _ _).alloc (Nat.le_refl _) _
 have HPt := hid (part_1 q W hq)
 have how : ownQ q = ⟨q.kind, q.job, noNode, noLease, ⟨#[]⟩, 0⟩ := by unfold ownQ; simp [hq]
 have hpe : partE q = jobE q.job := by unfold partE; simp [hq]
 have hre : ((⟨q.kind, q.job, noNode, noLease, ⟨#[]⟩, 0⟩ : ReqD) ≠ q → reqE q = 4) ∧ ((⟨q.kind, q.job, noNode, noLease, ⟨#[]⟩, 0⟩ : ReqD) = q → reqE q = partE q) := by
  unfold reqE
  rw [how, if_neg (by rw [hq]; decide)]
  exact ⟨fun h => if_pos h, fun h => if_neg (fun h' => h' h)⟩
 obtain ⟨t, ht, hrun0⟩ := neqv_req ⟨q.kind, q.job, noNode, noLease, ⟨#[]⟩, 0⟩ q
 have hrun : ∀ W, (binOp .neq 44 (.agg #[.int .i64 q.kind, .string q.job.name, .int .i64 q.job.prio, .int .i64 q.job.need, .int .i64 q.job.tries, .string q.job.tag, .string ⟨#[]⟩, .int .i64 0, .string ⟨#[]⟩, .string ⟨#[]⟩, .string ⟨#[]⟩, .int .i64 0, .string ⟨#[]⟩, .int .i64 0]) (.agg (reqL q))).run Tryz.prog W = .ok (.bool (!t)) W := hrun0
 clear hrun0 how
 have h14 := hb
 obtain ⟨c0, c1, c2, c3, c4, c5, c6, c7, c8, c9, c10, c11, c12, c13⟩ := Blk.c14 (hb)
 have hlt := hb.lt
 have Hq := hid hb
 have HbW := hid hbW
 have HRe := hid hre
 have HPe := hid hpe
 have Ht := hid ht
 have Hrun := hid hrun
 have HW := hid hW
 clear hb hbW hre hpe ht hrun hW h14
 obtain ⟨E0, hE0⟩ : ∃ E0, reqE q = E0 := ⟨_, rfl⟩
 rw [hE0]
 have HE0 := hid hE0
 clear hE0
 unfold reqA at HPt ⊢
 unfold reqC at HPt ⊢
 unfold reqC at HW
 clear hq
 have hn : ∀ (w : World) (a : Addr), (binOp .eql 165 (.iface 247 (.pointer (some a))) .nilIface).run Tryz.prog w = .ok (.bool false) w := fun _ _ => rfl
 go_enter Tryz.func35, Tryz.ntmps35
 go_wp2_with fail
 try simp only [HW.out]
 clear HW
 refine Calls.mono HPt.out ?_
 rintro e w1 ⟨P, rfl, hP, hpb, hb1⟩
 have H0 : RckAt w q P 249 #[.string q.job.name, .int .i64 q.job.prio, .int .i64 q.job.need, .int .i64 q.job.tries, .string q.job.tag] w1 := ⟨Hq.out.below hb1 Hq.out.lt, hpb, HbW.out.trans (hb1.mono HbW.out.size)⟩
 have HWh := hid (fun (wx : World) (hp : RckAt w q P 249 #[.string q.job.name, .int .i64 q.job.prio, .int .i64 q.job.need, .int .i64 q.job.tries, .string q.job.tag] wx) => whole_job q P wx hp.pb)
 clear hP hpb hb1 HPt c0 c1 c2 c3 c4 c5 c6 c7 c8 c9 c10 c11 c12 c13 hlt
 go_wp2_with fail
 have hrun := Hrun.out
 refine rq (Γ := Unit) 18 (fun _ => ckjobV w.heap.size P q t) [] (fun _ _ wx => RckAt w q P 249 #[.string q.job.name, .int .i64 q.job.prio, .int .i64 q.job.need, .int .i64 q.job.tries, .string q.job.tag] wx) () (H0.next (Below.refl _ _).drew) ?_ ?_
 · refine ⟨?_, ?_, ?_, ?_, ?_, ?_, ?_, trivial⟩
   · exact ok0 0 0 1 rfl fun _ => rfl
   · refine okQ 0 0 fun p γ a wx _ _ hp hk => ?_
     obtain ⟨u1, h1, rfl⟩ := hk.g 0 10 rfl rfl
     have hc0 : wx.cell? ⟨w.heap.size, 0, none⟩ = some (.int .i64 q.kind) := hp.qb.cell 0
     simp [go_sem, Oper.wp, execOp, Act.eval, h1, hc0]
     exact ⟨_, rfl, rfl, hp⟩
   · exact ok0 0 0 3 rfl fun _ => rfl
   · refine okQ 0 0 fun p γ a wx _ _ hp hk => ?_
     obtain ⟨u1, h1, rfl⟩ := hk.g 1 11 rfl rfl
     obtain ⟨u2, h2, rfl⟩ := hk.g 2 12 rfl rfl
     simp [go_sem, Oper.wp, execOp, Act.eval, h1, h2]
     refine (HWh.out wx hp).mono ?_
     rintro e w' ⟨rfl, hb⟩
     exact ⟨_, rfl, rfl, hp.next hb⟩
   · refine okQ 0 0 fun p γ a wx _ _ hp hk => ?_
     have h1 := hk.k 1 rfl
     obtain ⟨hc0, hc1, hc2, hc3, hc4, hc5, hc6, hc7, hc8, hc9, hc10, hc11, hc12, hc13⟩ := Blk.c14 (hp.qb)
     simp [go_sem, Oper.wp, execOp, Act.eval, h1, hc0, hc1, hc2, hc3, hc4, hc5, hc6, hc7, hc8, hc9, hc10, hc11, hc12, hc13]
     exact ⟨_, rfl, rfl, hp⟩
   · refine okQ 0 0 fun p γ a wx _ _ hp hk => ?_
     obtain ⟨u1, h1, rfl⟩ := hk.g 3 13 rfl rfl
     obtain ⟨u2, h2, rfl⟩ := hk.g 4 14 rfl rfl
     simp [go_sem, Oper.wp, execOp, Act.eval, h1, h2, hrun]
     exact ⟨_, rfl, rfl, hp⟩
   · exact ok1 0 0 5 15 rfl rfl (fun _ _ h => h) fun _ => rfl
 intro γ a wy hd
 have H1 := hid hd.ph
 obtain ⟨fv, rfl, hfv⟩ := hd.frame [10, 11, 12, 13, 14, 15, 9] rfl
 have h9 : fv 9 = .bool (!t) := hfv 6 _ 9 rfl rfl
 clear hd hfv H0 HWh hrun Hrun
 simp only [foldl_cons, foldl_nil, setIfInBounds_toArray, set_cons_succ, set_cons_zero, h9]
 clear h9
 cases t
 · have hE : reqE q = 4 := HRe.out.1 (fun h => by have := Ht.out.2 h; cases this)
   obtain rfl : (4 : Int) = E0 := hE.symm.trans HE0.out
   have Hfin := hid (show ErrPost 4 w (.returned (.int .i64 4)) wy from ⟨rfl, H1.out.below⟩)
   clear hE HRe HPe Ht HE0
   go_wp2
   go_ret
   exact Hfin.out
 · have hE : reqE q = partE q := HRe.out.2 (Ht.out.1 rfl)
   have HK := hid (pcheck_job q.job P wy H1.out.pb hok.j1 hok.j2 (hT.below H1.out.below))
   obtain ⟨E, hEE⟩ : ∃ E : Int, (jobE q.job) = E := ⟨_, rfl⟩
   rw [hEE] at HK
   obtain rfl : E = E0 := (hEE.symm.trans (HPe.out.symm.trans hE.symm)).trans HE0.out
   clear hEE hE HPe HRe HE0
   have hm : ∀ w, (method 525 247 (.pointer (some ⟨P, 0, none⟩)) "bracken/req.check").run Tryz.prog w = .ok (379, .pointer (some ⟨P, 0, none⟩)) w := fun _ => by kernel_rfl
   go_wp2_with fail
   refine Calls.mono HK.out ?_
   rintro e w5 ⟨rfl, hb5⟩
   have HB := hid (H1.out.below.trans (hb5.mono H1.out.below.size))
   have Hfin := hid (show ErrPost E w (.returned (.int .i64 E)) w5 from ⟨rfl, HB.out⟩)
   clear hb5 HK H1 HB
   go_wp2
   go_ret
   exact Hfin.out
def cknodeV (B P : Nat) (q : ReqD) (t : Bool) : Nat → Value → Prop
 | 0, u => u = .pointer (some ⟨B, 0, none⟩)
 | 1, u => u = .int .i64 q.kind
 | 2, u => u = .iface 250 (.pointer (some ⟨P, 0, none⟩))
 | 3, u => u = .agg #[.int .i64 q.kind, .string ⟨#[]⟩, .int .i64 0, .int .i64 0, .int .i64 0, .string ⟨#[]⟩, .string q.node.name, .int .i64 q.node.room, .string q.node.zone, .string ⟨#[]⟩, .string ⟨#[]⟩, .int .i64 0, .string ⟨#[]⟩, .int .i64 0]
 | 4, u => u = .agg #[.int .i64 q.kind, .string q.job.name, .int .i64 q.job.prio, .int .i64 q.job.need, .int .i64 q.job.tries, .string q.job.tag, .string q.node.name, .int .i64 q.node.room, .string q.node.zone, .string q.lease.job, .string q.lease.node, .int .i64 q.lease.till, .string q.name, .int .i64 q.n]
 | 5, u => u = .bool (!t)
 | 6, u => u = .bool (!t)
 | _, _ => False
theorem rcheck_2 (q : ReqD) (w : World) (hq : q.kind = 2) (hok : ROk q) (hT : Tabs w) : Calls Tryz.prog 35 #[reqA q] w (ErrPost (reqE q) w) := by
 obtain ⟨W, hW⟩ : ∃ W, w.alloc (.cells (reqC q) 44) = W := ⟨_, rfl⟩
 have hb : Blk W w.heap.size 44 (reqC q) := by rw [← hW]; exact heap_alloc_new w _
 have hbW : Below w.heap.size w W := by rw [← hW]; exact (Below.refl _ _).alloc (Nat.le_refl _) _
 have HPt := hid (part_2 q W hq)
 have how : ownQ q = ⟨q.kind, noJob, q.node, noLease, ⟨#[]⟩, 0⟩ := by unfold ownQ; simp [hq]
 have hpe : partE q = nodeE q.node := by unfold partE; simp [hq]
 have hre : ((⟨q.kind, noJob, q.node, noLease, ⟨#[]⟩, 0⟩ : ReqD) ≠ q → reqE q = 4) ∧ ((⟨q.kind, noJob, q.node, noLease, ⟨#[]⟩, 0⟩ : ReqD) = q → reqE q = partE q) := by
  unfold reqE
  rw [how, if_neg (by rw [hq]; decide)]
  exact ⟨fun h => if_pos h, fun h => if_neg (fun h' => h' h)⟩
 obtain ⟨t, ht, hrun0⟩ := neqv_req ⟨q.kind, noJob, q.node, noLease, ⟨#[]⟩, 0⟩ q
 have hrun : ∀ W, (binOp .neq 44 (.agg #[.int .i64 q.kind, .string ⟨#[]⟩, .int .i64 0, .int .i64 0, .int .i64 0, .string ⟨#[]⟩, .string q.node.name, .int .i64 q.node.room, .string q.node.zone, .string ⟨#[]⟩, .string ⟨#[]⟩, .int .i64 0, .string ⟨#[]⟩, .int .i64 0]) (.agg (reqL q))).run Tryz.prog W = .ok (.bool (!t)) W := hrun0
 clear hrun0 how
 have h14 := hb
 obtain ⟨c0, c1, c2, c3, c4, c5, c6, c7, c8, c9, c10, c11, c12, c13⟩ := Blk.c14 (hb)
 have hlt := hb.lt
 have Hq := hid hb
 have HbW := hid hbW
 have HRe := hid hre
 have HPe := hid hpe
 have Ht := hid ht
 have Hrun := hid hrun
 have HW := hid hW
 clear hb hbW hre hpe ht hrun hW h14
 obtain ⟨E0, hE0⟩ : ∃ E0, reqE q = E0 := ⟨_, rfl⟩
 rw [hE0]
 have HE0 := hid hE0
 clear hE0
 unfold reqA at HPt ⊢
 unfold reqC at HPt ⊢
 unfold reqC at HW
 clear hq
 have hn : ∀ (w : World) (a : Addr), (binOp .eql 165 (.iface 250 (.pointer (some a))) .nilIface).run Tryz.prog w = .ok (.bool false) w := fun _ _ => rfl
 go_enter Tryz.func35, Tryz.ntmps35
 go_wp2_with fail
 try simp only [HW.out]
 clear HW
 refine Calls.mono HPt.out ?_
 rintro e w1 ⟨P, rfl, hP, hpb, hb1⟩
 have H0 : RckAt w q P 252 #[.string q.node.name, .int .i64 q.node.room, .string q.node.zone] w1 := ⟨Hq.out.below hb1 Hq.out.lt, hpb, HbW.out.trans (hb1.mono HbW.out.size)⟩
 have HWh := hid (fun (wx : World) (hp : RckAt w q P 252 #[.string q.node.name, .int .i64 q.node.room, .string q.node.zone] wx) => whole_node q P wx hp.pb)
 clear hP hpb hb1 HPt c0 c1 c2 c3 c4 c5 c6 c7 c8 c9 c10 c11 c12 c13 hlt
 go_wp2_with fail
 have hrun := Hrun.out
 refine rq (Γ := Unit) 18 (fun _ => cknodeV w.heap.size P q t) [] (fun _ _ wx => RckAt w q P 252 #[.string q.node.name, .int .i64 q.node.room, .string q.node.zone] wx) () (H0.next (Below.refl _ _).drew) ?_ ?_
 · refine ⟨?_, ?_, ?_, ?_, ?_, ?_, ?_, trivial⟩
   · exact ok0 0 0 1 rfl fun _ => rfl
   · refine okQ 0 0 fun p γ a wx _ _ hp hk => ?_
     obtain ⟨u1, h1, rfl⟩ := hk.g 0 10 rfl rfl
     have hc0 : wx.cell? ⟨w.heap.size, 0, none⟩ = some (.int .i64 q.kind) := hp.qb.cell 0
     simp [go_sem, Oper.wp, execOp, Act.eval, h1, hc0]
     exact ⟨_, rfl, rfl, hp⟩
   · exact ok0 0 0 3 rfl fun _ => rfl
   · refine okQ 0 0 fun p γ a wx _ _ hp hk => ?_
     obtain ⟨u1, h1, rfl⟩ := hk.g 1 11 rfl rfl
     obtain ⟨u2, h2, rfl⟩ := hk.g 2 12 rfl rfl
     simp [go_sem, Oper.wp, execOp, Act.eval, h1, h2]
     refine (HWh.out wx hp).mono ?_
     rintro e w' ⟨rfl, hb⟩
     exact ⟨_, rfl, rfl, hp.next hb⟩
   · refine okQ 0 0 fun p γ a wx _ _ hp hk => ?_
     have h1 := hk.k 1 rfl
     obtain ⟨hc0, hc1, hc2, hc3, hc4, hc5, hc6, hc7, hc8, hc9, hc10, hc11, hc12, hc13⟩ := Blk.c14 (hp.qb)
     simp [go_sem, Oper.wp, execOp, Act.eval, h1, hc0, hc1, hc2, hc3, hc4, hc5, hc6, hc7, hc8, hc9, hc10, hc11, hc12, hc13]
     exact ⟨_, rfl, rfl, hp⟩
   · refine okQ 0 0 fun p γ a wx _ _ hp hk => ?_
     obtain ⟨u1, h1, rfl⟩ := hk.g 3 13 rfl rfl
     obtain ⟨u2, h2, rfl⟩ := hk.g 4 14 rfl rfl
     simp [go_sem, Oper.wp, execOp, Act.eval, h1, h2, hrun]
     exact ⟨_, rfl, rfl, hp⟩
   · exact ok1 0 0 5 15 rfl rfl (fun _ _ h => h) fun _ => rfl
 intro γ a wy hd
 have H1 := hid hd.ph
 obtain ⟨fv, rfl, hfv⟩ := hd.frame [10, 11, 12, 13, 14, 15, 9] rfl
 have h9 : fv 9 = .bool (!t) := hfv 6 _ 9 rfl rfl
 clear hd hfv H0 HWh hrun Hrun
 simp only [foldl_cons, foldl_nil, setIfInBounds_toArray, set_cons_succ, set_cons_zero, h9]
 clear h9
 cases t
 · have hE : reqE q = 4 := HRe.out.1 (fun h => by have := Ht.out.2 h; cases this)
   obtain rfl : (4 : Int) = E0 := hE.symm.trans HE0.out
   have Hfin := hid (show ErrPost 4 w (.returned (.int .i64 4)) wy from ⟨rfl, H1.out.below⟩)
   clear hE HRe HPe Ht HE0
   go_wp2
   go_ret
   exact Hfin.out
 · have hE : reqE q = partE q := HRe.out.2 (Ht.out.1 rfl)
   have HK := hid (pcheck_node q.node P wy H1.out.pb hok.n1 hok.n2 (hT.below H1.out.below))
   obtain ⟨E, hEE⟩ : ∃ E : Int, (nodeE q.node) = E := ⟨_, rfl⟩
   rw [hEE] at HK
   obtain rfl : E = E0 := (hEE.symm.trans (HPe.out.symm.trans hE.symm)).trans HE0.out
   clear hEE hE HPe HRe HE0
   have hm : ∀ w, (method 525 250 (.pointer (some ⟨P, 0, none⟩)) "bracken/req.check").run Tryz.prog w = .ok (383, .pointer (some ⟨P, 0, none⟩)) w := fun _ => by kernel_rfl
   go_wp2_with fail
   refine Calls.mono HK.out ?_
   rintro e w5 ⟨rfl, hb5⟩
   have HB := hid (H1.out.below.trans (hb5.mono H1.out.below.size))
   have Hfin := hid (show ErrPost E w (.returned (.int .i64 E)) w5 from ⟨rfl, HB.out⟩)
   clear hb5 HK H1 HB
   go_wp2
   go_ret
   exact Hfin.out
def ckleaseV (B P : Nat) (q : ReqD) (t : Bool) : Nat → Value → Prop
 | 0, u => u = .pointer (some ⟨B, 0, none⟩)
 | 1, u => u = .int .i64 q.kind
 | 2, u => u = .iface 253 (.pointer (some ⟨P, 0, none⟩))
 | 3, u => u = .agg #[.int .i64 q.kind, .string ⟨#[]⟩, .int .i64 0, .int .i64 0, .int .i64 0, .string ⟨#[]⟩, .string ⟨#[]⟩, .int .i64 0, .string ⟨#[]⟩, .string q.lease.job, .string q.lease.node, .int .i64 q.lease.till, .string ⟨#[]⟩, .int .i64 0]
 | 4, u => u = .agg #[.int .i64 q.kind, .string q.job.name, .int .i64 q.job.prio, .int .i64 q.job.need, .int .i64 q.job.tries, .string q.job.tag, .string q.node.name, .int .i64 q.node.room, .string q.node.zone, .string q.lease.job, .string q.lease.node, .int .i64 q.lease.till, .string q.name, .int .i64 q.n]
 | 5, u => u = .bool (!t)
 | 6, u => u = .bool (!t)
 | _, _ => False
theorem rcheck_5 (q : ReqD) (w : World) (hq : q.kind = 5) (hok : ROk q) (hT : Tabs w) : Calls Tryz.prog 35 #[reqA q] w (ErrPost (reqE q) w) := by
 obtain ⟨W, hW⟩ : ∃ W, w.alloc (.cells (reqC q) 44) = W := ⟨_, rfl⟩
 have hb : Blk W w.heap.size 44 (reqC q) := by rw [← hW]; exact heap_alloc_new w _
 have hbW : Below w.heap.size w W := by rw [← hW]; exact (Below.refl _ _).alloc (Nat.le_refl _) _
 have HPt := hid (part_5 q W hq)
 have how : ownQ q = ⟨q.kind, noJob, noNode, q.lease, ⟨#[]⟩, 0⟩ := by unfold ownQ; simp [hq]
 have hpe : partE q = lsE q.lease := by unfold partE; simp [hq]
 have hre : ((⟨q.kind, noJob, noNode, q.lease, ⟨#[]⟩, 0⟩ : ReqD) ≠ q → reqE q = 4) ∧ ((⟨q.kind, noJob, noNode, q.lease, ⟨#[]⟩, 0⟩ : ReqD) = q → reqE q = partE q) := by
  unfold reqE
  rw [how, if_neg (by rw [hq]; decide)]
  exact ⟨fun h => if_pos h, fun h => if_neg (fun h' => h' h)⟩
 obtain ⟨t, ht, hrun0⟩ := neqv_req ⟨q.kind, noJob, noNode, q.lease, ⟨#[]⟩, 0⟩ q
 have hrun : ∀ W, (binOp .neq 44 (.agg #[.int .i64 q.kind, .string ⟨#[]⟩, .int .i64 0, .int .i64 0, .int .i64 0, .string ⟨#[]⟩, .string ⟨#[]⟩, .int .i64 0, .string ⟨#[]⟩, .string q.lease.job, .string q.lease.node, .int .i64 q.lease.till, .string ⟨#[]⟩, .int .i64 0]) (.agg (reqL q))).run Tryz.prog W = .ok (.bool (!t)) W := hrun0
 clear hrun0 how
 have h14 := hb
 obtain ⟨c0, c1, c2, c3, c4, c5, c6, c7, c8, c9, c10, c11, c12, c13⟩ := Blk.c14 (hb)
 have hlt := hb.lt
 have Hq := hid hb
 have HbW := hid hbW
 have HRe := hid hre
 have HPe := hid hpe
 have Ht := hid ht
 have Hrun := hid hrun
 have HW := hid hW
 clear hb hbW hre hpe ht hrun hW h14
 obtain ⟨E0, hE0⟩ : ∃ E0, reqE q = E0 := ⟨_, rfl⟩
 rw [hE0]
 have HE0 := hid hE0
 clear hE0
 unfold reqA at HPt ⊢
 unfold reqC at HPt ⊢
 unfold reqC at HW
 clear hq
 have hn : ∀ (w : World) (a : Addr), (binOp .eql 165 (.iface 253 (.pointer (some a))) .nilIface).run Tryz.prog w = .ok (.bool false) w := fun _ _ => rfl
 go_enter Tryz.func35, Tryz.ntmps35
 go_wp2_with fail
 try simp only [HW.out]
 clear HW
 refine Calls.mono HPt.out ?_
 rintro e w1 ⟨P, rfl, hP, hpb, hb1⟩
 have H0 : RckAt w q P 255 #[.string q.lease.job, .string q.lease.node, .int .i64 q.lease.till] w1 := ⟨Hq.out.below hb1 Hq.out.lt, hpb, HbW.out.trans (hb1.mono HbW.out.size)⟩
 have HWh := hid (fun (wx : World) (hp : RckAt w q P 255 #[.string q.lease.job, .string q.lease.node, .int .i64 q.lease.till] wx) => whole_lease q P wx hp.pb)
 clear hP hpb hb1 HPt c0 c1 c2 c3 c4 c5 c6 c7 c8 c9 c10 c11 c12 c13 hlt
 go_wp2_with fail
 have hrun := Hrun.out
 refine rq (Γ := Unit) 18 (fun _ => ckleaseV w.heap.size P q t) [] (fun _ _ wx => RckAt w q P 255 #[.string q.lease.job, .string q.lease.node, .int .i64 q.lease.till] wx) () (H0.next (Below.refl _ _).drew) ?_ ?_
 · refine ⟨?_, ?_, ?_, ?_, ?_, ?_, ?_, trivial⟩
   · exact ok0 0 0 1 rfl fun _ => rfl
   · refine okQ 0 0 fun p γ a wx _ _ hp hk => ?_
     obtain ⟨u1, h1, rfl⟩ := hk.g 0 10 rfl rfl
     have hc0 : wx.cell? ⟨w.heap.size, 0, none⟩ = some (.int .i64 q.kind) := hp.qb.cell 0
     simp [go_sem, Oper.wp, execOp, Act.eval, h1, hc0]
     exact ⟨_, rfl, rfl, hp⟩
   · exact ok0 0 0 3 rfl fun _ => rfl
   · refine okQ 0 0 fun p γ a wx _ _ hp hk => ?_
     obtain ⟨u1, h1, rfl⟩ := hk.g 1 11 rfl rfl
     obtain ⟨u2, h2, rfl⟩ := hk.g 2 12 rfl rfl
     simp [go_sem, Oper.wp, execOp, Act.eval, h1, h2]
     refine (HWh.out wx hp).mono ?_
     rintro e w' ⟨rfl, hb⟩
     exact ⟨_, rfl, rfl, hp.next hb⟩
   · refine okQ 0 0 fun p γ a wx _ _ hp hk => ?_
     have h1 := hk.k 1 rfl
     obtain ⟨hc0, hc1, hc2, hc3, hc4, hc5, hc6, hc7, hc8, hc9, hc10, hc11, hc12, hc13⟩ := Blk.c14 (hp.qb)
     simp [go_sem, Oper.wp, execOp, Act.eval, h1, hc0, hc1, hc2, hc3, hc4, hc5, hc6, hc7, hc8, hc9, hc10, hc11, hc12, hc13]
     exact ⟨_, rfl, rfl, hp⟩
   · refine okQ 0 0 fun p γ a wx _ _ hp hk => ?_
     obtain ⟨u1, h1, rfl⟩ := hk.g 3 13 rfl rfl
     obtain ⟨u2, h2, rfl⟩ := hk.g 4 14 rfl rfl
     simp [go_sem, Oper.wp, execOp, Act.eval, h1, h2, hrun]
     exact ⟨_, rfl, rfl, hp⟩
   · exact ok1 0 0 5 15 rfl rfl (fun _ _ h => h) fun _ => rfl
 intro γ a wy hd
 have H1 := hid hd.ph
 obtain ⟨fv, rfl, hfv⟩ := hd.frame [10, 11, 12, 13, 14, 15, 9] rfl
 have h9 : fv 9 = .bool (!t) := hfv 6 _ 9 rfl rfl
 clear hd hfv H0 HWh hrun Hrun
 simp only [foldl_cons, foldl_nil, setIfInBounds_toArray, set_cons_succ, set_cons_zero, h9]
 clear h9
 cases t
 · have hE : reqE q = 4 := HRe.out.1 (fun h => by have := Ht.out.2 h; cases this)
   obtain rfl : (4 : Int) = E0 := hE.symm.trans HE0.out
   have Hfin := hid (show ErrPost 4 w (.returned (.int .i64 4)) wy from ⟨rfl, H1.out.below⟩)
   clear hE HRe HPe Ht HE0
   go_wp2
   go_ret
   exact Hfin.out
 · have hE : reqE q = partE q := HRe.out.2 (Ht.out.1 rfl)
   have HK := hid (pcheck_lease q.lease P wy H1.out.pb hok.l1 hok.l2 (hT.below H1.out.below))
   obtain ⟨E, hEE⟩ : ∃ E : Int, (lsE q.lease) = E := ⟨_, rfl⟩
   rw [hEE] at HK
   obtain rfl : E = E0 := (hEE.symm.trans (HPe.out.symm.trans hE.symm)).trans HE0.out
   clear hEE hE HPe HRe HE0
   have hm : ∀ w, (method 525 253 (.pointer (some ⟨P, 0, none⟩)) "bracken/req.check").run Tryz.prog w = .ok (387, .pointer (some ⟨P, 0, none⟩)) w := fun _ => by kernel_rfl
   go_wp2_with fail
   refine Calls.mono HK.out ?_
   rintro e w5 ⟨rfl, hb5⟩
   have HB := hid (H1.out.below.trans (hb5.mono H1.out.below.size))
   have Hfin := hid (show ErrPost E w (.returned (.int .i64 E)) w5 from ⟨rfl, HB.out⟩)
   clear hb5 HK H1 HB
   go_wp2
   go_ret
   exact Hfin.out
def cknameV (B P : Nat) (q : ReqD) (t : Bool) : Nat → Value → Prop
 | 0, u => u = .pointer (some ⟨B, 0, none⟩)
 | 1, u => u = .int .i64 q.kind
 | 2, u => u = .iface 257 (.pointer (some ⟨P, 0, none⟩))
 | 3, u => u = .agg #[.int .i64 q.kind, .string ⟨#[]⟩, .int .i64 0, .int .i64 0, .int .i64 0, .string ⟨#[]⟩, .string ⟨#[]⟩, .int .i64 0, .string ⟨#[]⟩, .string ⟨#[]⟩, .string ⟨#[]⟩, .int .i64 0, .string q.name, .int .i64 0]
 | 4, u => u = .agg #[.int .i64 q.kind, .string q.job.name, .int .i64 q.job.prio, .int .i64 q.job.need, .int .i64 q.job.tries, .string q.job.tag, .string q.node.name, .int .i64 q.node.room, .string q.node.zone, .string q.lease.job, .string q.lease.node, .int .i64 q.lease.till, .string q.name, .int .i64 q.n]
 | 5, u => u = .bool (!t)
 | 6, u => u = .bool (!t)
 | _, _ => False
theorem rcheck_3 (q : ReqD) (w : World) (hq : q.kind = 3) (hok : ROk q) (hT : Tabs w) : Calls Tryz.prog 35 #[reqA q] w (ErrPost (reqE q) w) := by
 obtain ⟨W, hW⟩ : ∃ W, w.alloc (.cells (reqC q) 44) = W := ⟨_, rfl⟩
 have hb : Blk W w.heap.size 44 (reqC q) := by rw [← hW]; exact heap_alloc_new w _
 have hbW : Below w.heap.size w W := by rw [← hW]; exact (Below.refl _ _).alloc (Nat.le_refl _) _
 have HPt := hid (part_3 q W hq)
 have how : ownQ q = ⟨q.kind, noJob, noNode, noLease, q.name, 0⟩ := by unfold ownQ; simp [hq]
 have hpe : partE q = if nameOk q.name = true then 0 else 4 := by unfold partE; simp [hq]
 have hre : ((⟨q.kind, noJob, noNode, noLease, q.name, 0⟩ : ReqD) ≠ q → reqE q = 4) ∧ ((⟨q.kind, noJob, noNode, noLease, q.name, 0⟩ : ReqD) = q → reqE q = partE q) := by
  unfold reqE
  rw [how, if_neg (by rw [hq]; decide)]
  exact ⟨fun h => if_pos h, fun h => if_neg (fun h' => h' h)⟩
 obtain ⟨t, ht, hrun0⟩ := neqv_req ⟨q.kind, noJob, noNode, noLease, q.name, 0⟩ q
 have hrun : ∀ W, (binOp .neq 44 (.agg #[.int .i64 q.kind, .string ⟨#[]⟩, .int .i64 0, .int .i64 0, .int .i64 0, .string ⟨#[]⟩, .string ⟨#[]⟩, .int .i64 0, .string ⟨#[]⟩, .string ⟨#[]⟩, .string ⟨#[]⟩, .int .i64 0, .string q.name, .int .i64 0]) (.agg (reqL q))).run Tryz.prog W = .ok (.bool (!t)) W := hrun0
 clear hrun0 how
 have h14 := hb
 obtain ⟨c0, c1, c2, c3, c4, c5, c6, c7, c8, c9, c10, c11, c12, c13⟩ := Blk.c14 (hb)
 have hlt := hb.lt
 have Hq := hid hb
 have HbW := hid hbW
 have HRe := hid hre
 have HPe := hid hpe
 have Ht := hid ht
 have Hrun := hid hrun
 have HW := hid hW
 clear hb hbW hre hpe ht hrun hW h14
 obtain ⟨E0, hE0⟩ : ∃ E0, reqE q = E0 := ⟨_, rfl⟩
 rw [hE0]
 have HE0 := hid hE0
 clear hE0
 unfold reqA at HPt ⊢
 unfold reqC at HPt ⊢
 unfold reqC at HW
 clear hq
 have hn : ∀ (w : World) (a : Addr), (binOp .eql 165 (.iface 257 (.pointer (some a))) .nilIface).run Tryz.prog w = .ok (.bool false) w := fun _ _ => rfl
 go_enter Tryz.func35, Tryz.ntmps35
 go_wp2_with fail
 try simp only [HW.out]
 clear HW
 refine Calls.mono HPt.out ?_
 rintro e w1 ⟨P, rfl, hP, hpb, hb1⟩
 have H0 : RckAt w q P 256 #[.string q.name] w1 := ⟨Hq.out.below hb1 Hq.out.lt, hpb, HbW.out.trans (hb1.mono HbW.out.size)⟩
 have HWh := hid (fun (wx : World) (hp : RckAt w q P 256 #[.string q.name] wx) => whole_name q P wx hp.pb)
 clear hP hpb hb1 HPt c0 c1 c2 c3 c4 c5 c6 c7 c8 c9 c10 c11 c12 c13 hlt
 go_wp2_with fail
 have hrun := Hrun.out
 refine rq (Γ := Unit) 18 (fun _ => cknameV w.heap.size P q t) [] (fun _ _ wx => RckAt w q P 256 #[.string q.name] wx) () (H0.next (Below.refl _ _).drew) ?_ ?_
 · refine ⟨?_, ?_, ?_, ?_, ?_, ?_, ?_, trivial⟩
   · exact ok0 0 0 1 rfl fun _ => rfl
   · refine okQ 0 0 fun p γ a wx _ _ hp hk => ?_
     obtain ⟨u1, h1, rfl⟩ := hk.g 0 10 rfl rfl
     have hc0 : wx.cell? ⟨w.heap.size, 0, none⟩ = some (.int .i64 q.kind) := hp.qb.cell 0
     simp [go_sem, Oper.wp, execOp, Act.eval, h1, hc0]
     exact ⟨_, rfl, rfl, hp⟩
   · exact ok0 0 0 3 rfl fun _ => rfl
   · refine okQ 0 0 fun p γ a wx _ _ hp hk => ?_
     obtain ⟨u1, h1, rfl⟩ := hk.g 1 11 rfl rfl
     obtain ⟨u2, h2, rfl⟩ := hk.g 2 12 rfl rfl
     simp [go_sem, Oper.wp, execOp, Act.eval, h1, h2]
     refine (HWh.out wx hp).mono ?_
     rintro e w' ⟨rfl, hb⟩
     exact ⟨_, rfl, rfl, hp.next hb⟩
   · refine okQ 0 0 fun p γ a wx _ _ hp hk => ?_
     have h1 := hk.k 1 rfl
     obtain ⟨hc0, hc1, hc2, hc3, hc4, hc5, hc6, hc7, hc8, hc9, hc10, hc11, hc12, hc13⟩ := Blk.c14 (hp.qb)
     simp [go_sem, Oper.wp, execOp, Act.eval, h1, hc0, hc1, hc2, hc3, hc4, hc5, hc6, hc7, hc8, hc9, hc10, hc11, hc12, hc13]
     exact ⟨_, rfl, rfl, hp⟩
   · refine okQ 0 0 fun p γ a wx _ _ hp hk => ?_
     obtain ⟨u1, h1, rfl⟩ := hk.g 3 13 rfl rfl
     obtain ⟨u2, h2, rfl⟩ := hk.g 4 14 rfl rfl
     simp [go_sem, Oper.wp, execOp, Act.eval, h1, h2, hrun]
     exact ⟨_, rfl, rfl, hp⟩
   · exact ok1 0 0 5 15 rfl rfl (fun _ _ h => h) fun _ => rfl
 intro γ a wy hd
 have H1 := hid hd.ph
 obtain ⟨fv, rfl, hfv⟩ := hd.frame [10, 11, 12, 13, 14, 15, 9] rfl
 have h9 : fv 9 = .bool (!t) := hfv 6 _ 9 rfl rfl
 clear hd hfv H0 HWh hrun Hrun
 simp only [foldl_cons, foldl_nil, setIfInBounds_toArray, set_cons_succ, set_cons_zero, h9]
 clear h9
 cases t
 · have hE : reqE q = 4 := HRe.out.1 (fun h => by have := Ht.out.2 h; cases this)
   obtain rfl : (4 : Int) = E0 := hE.symm.trans HE0.out
   have Hfin := hid (show ErrPost 4 w (.returned (.int .i64 4)) wy from ⟨rfl, H1.out.below⟩)
   clear hE HRe HPe Ht HE0
   go_wp2
   go_ret
   exact Hfin.out
 · have hE : reqE q = partE q := HRe.out.2 (Ht.out.1 rfl)
   have HK := hid (pcheck_name q.name P wy H1.out.pb hok.s (hT.below H1.out.below))
   obtain ⟨E, hEE⟩ : ∃ E : Int, (if nameOk q.name = true then 0 else 4) = E := ⟨_, rfl⟩
   rw [hEE] at HK
   obtain rfl : E = E0 := (hEE.symm.trans (HPe.out.symm.trans hE.symm)).trans HE0.out
   clear hEE hE HPe HRe HE0
   have hm : ∀ w, (method 525 257 (.pointer (some ⟨P, 0, none⟩)) "bracken/req.check").run Tryz.prog w = .ok (392, .pointer (some ⟨P, 0, none⟩)) w := fun _ => by kernel_rfl
   go_wp2_with fail
   refine Calls.mono HK.out ?_
   rintro e w5 ⟨rfl, hb5⟩
   have HB := hid (H1.out.below.trans (hb5.mono H1.out.below.size))
   have Hfin := hid (show ErrPost E w (.returned (.int .i64 E)) w5 from ⟨rfl, HB.out⟩)
   clear hb5 HK H1 HB
   go_wp2
   go_ret
   exact Hfin.out
theorem rcheck_4 (q : ReqD) (w : World) (hq : q.kind = 4) (hok : ROk q) (hT : Tabs w) : Calls Tryz.prog 35 #[reqA q] w (ErrPost (reqE q) w) := by
 obtain ⟨W, hW⟩ : ∃ W, w.alloc (.cells (reqC q) 44) = W := ⟨_, rfl⟩
 have hb : Blk W w.heap.size 44 (reqC q) := by rw [← hW]; exact heap_alloc_new w _
 have hbW : Below w.heap.size w W := by rw [← hW]; exact (Below.refl _ _).alloc (Nat.le_refl _) _
 have HPt := hid (part_4 q W hq)
 have how : ownQ q = ⟨q.kind, noJob, noNode, noLease, q.name, 0⟩ := by unfold ownQ; simp [hq]
 have hpe : partE q = if nameOk q.name = true then 0 else 4 := by unfold partE; simp [hq]
 have hre : ((⟨q.kind, noJob, noNode, noLease, q.name, 0⟩ : ReqD) ≠ q → reqE q = 4) ∧ ((⟨q.kind, noJob, noNode, noLease, q.name, 0⟩ : ReqD) = q → reqE q = partE q) := by
  unfold reqE
  rw [how, if_neg (by rw [hq]; decide)]
  exact ⟨fun h => if_pos h, fun h => if_neg (fun h' => h' h)⟩
 obtain ⟨t, ht, hrun0⟩ := neqv_req ⟨q.kind, noJob, noNode, noLease, q.name, 0⟩ q
 have hrun : ∀ W, (binOp .neq 44 (.agg #[.int .i64 q.kind, .string ⟨#[]⟩, .int .i64 0, .int .i64 0, .int .i64 0, .string ⟨#[]⟩, .string ⟨#[]⟩, .int .i64 0, .string ⟨#[]⟩, .string ⟨#[]⟩, .string ⟨#[]⟩, .int .i64 0, .string q.name, .int .i64 0]) (.agg (reqL q))).run Tryz.prog W = .ok (.bool (!t)) W := hrun0
 clear hrun0 how
 have h14 := hb
 obtain ⟨c0, c1, c2, c3, c4, c5, c6, c7, c8, c9, c10, c11, c12, c13⟩ := Blk.c14 (hb)
 have hlt := hb.lt
 have Hq := hid hb
 have HbW := hid hbW
 have HRe := hid hre
 have HPe := hid hpe
 have Ht := hid ht
 have Hrun := hid hrun
 have HW := hid hW
 clear hb hbW hre hpe ht hrun hW h14
 obtain ⟨E0, hE0⟩ : ∃ E0, reqE q = E0 := ⟨_, rfl⟩
 rw [hE0]
 have HE0 := hid hE0
 clear hE0
 unfold reqA at HPt ⊢
 unfold reqC at HPt ⊢
 unfold reqC at HW
 clear hq
 have hn : ∀ (w : World) (a : Addr), (binOp .eql 165 (.iface 257 (.pointer (some a))) .nilIface).run Tryz.prog w = .ok (.bool false) w := fun _ _ => rfl
 go_enter Tryz.func35, Tryz.ntmps35
 go_wp2_with fail
 try simp only [HW.out]
 clear HW
 refine Calls.mono HPt.out ?_
 rintro e w1 ⟨P, rfl, hP, hpb, hb1⟩
 have H0 : RckAt w q P 256 #[.string q.name] w1 := ⟨Hq.out.below hb1 Hq.out.lt, hpb, HbW.out.trans (hb1.mono HbW.out.size)⟩
 have HWh := hid (fun (wx : World) (hp : RckAt w q P 256 #[.string q.name] wx) => whole_name q P wx hp.pb)
 clear hP hpb hb1 HPt c0 c1 c2 c3 c4 c5 c6 c7 c8 c9 c10 c11 c12 c13 hlt
 go_wp2_with fail
 have hrun := Hrun.out
 refine rq (Γ := Unit) 18 (fun _ => cknameV w.heap.size P q t) [] (fun _ _ wx => RckAt w q P 256 #[.string q.name] wx) () (H0.next (Below.refl _ _).drew) ?_ ?_
 · refine ⟨?_, ?_, ?_, ?_, ?_, ?_, ?_, trivial⟩
   · exact ok0 0 0 1 rfl fun _ => rfl
   · refine okQ 0 0 fun p γ a wx _ _ hp hk => ?_
     obtain ⟨u1, h1, rfl⟩ := hk.g 0 10 rfl rfl
     have hc0 : wx.cell? ⟨w.heap.size, 0, none⟩ = some (.int .i64 q.kind) := hp.qb.cell 0
     simp [go_sem, Oper.wp, execOp, Act.eval, h1, hc0]
     exact ⟨_, rfl, rfl, hp⟩
   · exact ok0 0 0 3 rfl fun _ => rfl
   · refine okQ 0 0 fun p γ a wx _ _ hp hk => ?_
     obtain ⟨u1, h1, rfl⟩ := hk.g 1 11 rfl rfl
     obtain ⟨u2, h2, rfl⟩ := hk.g 2 12 rfl rfl
     simp [go_sem, Oper.wp, execOp, Act.eval, h1, h2]
     refine (HWh.out wx hp).mono ?_
     rintro e w' ⟨rfl, hb⟩
     exact ⟨_, rfl, rfl, hp.next hb⟩
   · refine okQ 0 0 fun p γ a wx _ _ hp hk => ?_
     have h1 := hk.k 1 rfl
     obtain ⟨hc0, hc1, hc2, hc3, hc4, hc5, hc6, hc7, hc8, hc9, hc10, hc11, hc12, hc13⟩ := Blk.c14 (hp.qb)
     simp [go_sem, Oper.wp, execOp, Act.eval, h1, hc0, hc1, hc2, hc3, hc4, hc5, hc6, hc7, hc8, hc9, hc10, hc11, hc12, hc13]
     exact ⟨_, rfl, rfl, hp⟩
   · refine okQ 0 0 fun p γ a wx _ _ hp hk => ?_
     obtain ⟨u1, h1, rfl⟩ := hk.g 3 13 rfl rfl
     obtain ⟨u2, h2, rfl⟩ := hk.g 4 14 rfl rfl
     simp [go_sem, Oper.wp, execOp, Act.eval, h1, h2, hrun]
     exact ⟨_, rfl, rfl, hp⟩
   · exact ok1 0 0 5 15 rfl rfl (fun _ _ h => h) fun _ => rfl
 intro γ a wy hd
 have H1 := hid hd.ph
 obtain ⟨fv, rfl, hfv⟩ := hd.frame [10, 11, 12, 13, 14, 15, 9] rfl
 have h9 : fv 9 = .bool (!t) := hfv 6 _ 9 rfl rfl
 clear hd hfv H0 HWh hrun Hrun
 simp only [foldl_cons, foldl_nil, setIfInBounds_toArray, set_cons_succ, set_cons_zero, h9]
 clear h9
 cases t
 · have hE : reqE q = 4 := HRe.out.1 (fun h => by have := Ht.out.2 h; cases this)
   obtain rfl : (4 : Int) = E0 := hE.symm.trans HE0.out
   have Hfin := hid (show ErrPost 4 w (.returned (.int .i64 4)) wy from ⟨rfl, H1.out.below⟩)
   clear hE HRe HPe Ht HE0
   go_wp2
   go_ret
   exact Hfin.out
 · have hE : reqE q = partE q := HRe.out.2 (Ht.out.1 rfl)
   have HK := hid (pcheck_name q.name P wy H1.out.pb hok.s (hT.below H1.out.below))
   obtain ⟨E, hEE⟩ : ∃ E : Int, (if nameOk q.name = true then 0 else 4) = E := ⟨_, rfl⟩
   rw [hEE] at HK
   obtain rfl : E = E0 := (hEE.symm.trans (HPe.out.symm.trans hE.symm)).trans HE0.out
   clear hEE hE HPe HRe HE0
   have hm : ∀ w, (method 525 257 (.pointer (some ⟨P, 0, none⟩)) "bracken/req.check").run Tryz.prog w = .ok (392, .pointer (some ⟨P, 0, none⟩)) w := fun _ => by kernel_rfl
   go_wp2_with fail
   refine Calls.mono HK.out ?_
   rintro e w5 ⟨rfl, hb5⟩
   have HB := hid (H1.out.below.trans (hb5.mono H1.out.below.size))
   have Hfin := hid (show ErrPost E w (.returned (.int .i64 E)) w5 from ⟨rfl, HB.out⟩)
   clear hb5 HK H1 HB
   go_wp2
   go_ret
   exact Hfin.out
theorem rcheck_6 (q : ReqD) (w : World) (hq : q.kind = 6) (hok : ROk q) (hT : Tabs w) : Calls Tryz.prog 35 #[reqA q] w (ErrPost (reqE q) w) := by
 obtain ⟨W, hW⟩ : ∃ W, w.alloc (.cells (reqC q) 44) = W := ⟨_, rfl⟩
 have hb : Blk W w.heap.size 44 (reqC q) := by rw [← hW]; exact heap_alloc_new w _
 have hbW : Below w.heap.size w W := by rw [← hW]; exact (Below.refl _ _).alloc (Nat.le_refl _) _
 have HPt := hid (part_6 q W hq)
 have how : ownQ q = ⟨q.kind, noJob, noNode, noLease, q.name, 0⟩ := by unfold ownQ; simp [hq]
 have hpe : partE q = if nameOk q.name = true then 0 else 4 := by unfold partE; simp [hq]
 have hre : ((⟨q.kind, noJob, noNode, noLease, q.name, 0⟩ : ReqD) ≠ q → reqE q = 4) ∧ ((⟨q.kind, noJob, noNode, noLease, q.name, 0⟩ : ReqD) = q → reqE q = partE q) := by
  unfold reqE
  rw [how, if_neg (by rw [hq]; decide)]
  exact ⟨fun h => if_pos h, fun h => if_neg (fun h' => h' h)⟩
 obtain ⟨t, ht, hrun0⟩ := neqv_req ⟨q.kind, noJob, noNode, noLease, q.name, 0⟩ q
 have hrun : ∀ W, (binOp .neq 44 (.agg #[.int .i64 q.kind, .string ⟨#[]⟩, .int .i64 0, .int .i64 0, .int .i64 0, .string ⟨#[]⟩, .string ⟨#[]⟩, .int .i64 0, .string ⟨#[]⟩, .string ⟨#[]⟩, .string ⟨#[]⟩, .int .i64 0, .string q.name, .int .i64 0]) (.agg (reqL q))).run Tryz.prog W = .ok (.bool (!t)) W := hrun0
 clear hrun0 how
 have h14 := hb
 obtain ⟨c0, c1, c2, c3, c4, c5, c6, c7, c8, c9, c10, c11, c12, c13⟩ := Blk.c14 (hb)
 have hlt := hb.lt
 have Hq := hid hb
 have HbW := hid hbW
 have HRe := hid hre
 have HPe := hid hpe
 have Ht := hid ht
 have Hrun := hid hrun
 have HW := hid hW
 clear hb hbW hre hpe ht hrun hW h14
 obtain ⟨E0, hE0⟩ : ∃ E0, reqE q = E0 := ⟨_, rfl⟩
 rw [hE0]
 have HE0 := hid hE0
 clear hE0
 unfold reqA at HPt ⊢
 unfold reqC at HPt ⊢
 unfold reqC at HW
 clear hq
 have hn : ∀ (w : World) (a : Addr), (binOp .eql 165 (.iface 257 (.pointer (some a))) .nilIface).run Tryz.prog w = .ok (.bool false) w := fun _ _ => rfl
 go_enter Tryz.func35, Tryz.ntmps35
 go_wp2_with fail
 try simp only [HW.out]
 clear HW
 refine Calls.mono HPt.out ?_
 rintro e w1 ⟨P, rfl, hP, hpb, hb1⟩
 have H0 : RckAt w q P 256 #[.string q.name] w1 := ⟨Hq.out.below hb1 Hq.out.lt, hpb, HbW.out.trans (hb1.mono HbW.out.size)⟩
 have HWh := hid (fun (wx : World) (hp : RckAt w q P 256 #[.string q.name] wx) => whole_name q P wx hp.pb)
 clear hP hpb hb1 HPt c0 c1 c2 c3 c4 c5 c6 c7 c8 c9 c10 c11 c12 c13 hlt
 go_wp2_with fail
 have hrun := Hrun.out
 refine rq (Γ := Unit) 18 (fun _ => cknameV w.heap.size P q t) [] (fun _ _ wx => RckAt w q P 256 #[.string q.name] wx) () (H0.next (Below.refl _ _).drew) ?_ ?_
 · refine ⟨?_, ?_, ?_, ?_, ?_, ?_, ?_, trivial⟩
   · exact ok0 0 0 1 rfl fun _ => rfl
   · refine okQ 0 0 fun p γ a wx _ _ hp hk => ?_
     obtain ⟨u1, h1, rfl⟩ := hk.g 0 10 rfl rfl
     have hc0 : wx.cell? ⟨w.heap.size, 0, none⟩ = some (.int .i64 q.kind) := hp.qb.cell 0
     simp [go_sem, Oper.wp, execOp, Act.eval, h1, hc0]
     exact ⟨_, rfl, rfl, hp⟩
   · exact ok0 0 0 3 rfl fun _ => rfl
   · refine okQ 0 0 fun p γ a wx _ _ hp hk => ?_
     obtain ⟨u1, h1, rfl⟩ := hk.g 1 11 rfl rfl
     obtain ⟨u2, h2, rfl⟩ := hk.g 2 12 rfl rfl
     simp [go_sem, Oper.wp, execOp, Act.eval, h1, h2]
     refine (HWh.out wx hp).mono ?_
     rintro e w' ⟨rfl, hb⟩
     exact ⟨_, rfl, rfl, hp.next hb⟩
   · refine okQ 0 0 fun p γ a wx _ _ hp hk => ?_
     have h1 := hk.k 1 rfl
     obtain ⟨hc0, hc1, hc2, hc3, hc4, hc5, hc6, hc7, hc8, hc9, hc10, hc11, hc12, hc13⟩ := Blk.c14 (hp.qb)
     simp [go_sem, Oper.wp, execOp, Act.eval, h1, hc0, hc1, hc2, hc3, hc4, hc5, hc6, hc7, hc8, hc9, hc10, hc11, hc12, hc13]
     exact ⟨_, rfl, rfl, hp⟩
   · refine okQ 0 0 fun p γ a wx _ _ hp hk => ?_
     obtain ⟨u1, h1, rfl⟩ := hk.g 3 13 rfl rfl
     obtain ⟨u2, h2, rfl⟩ := hk.g 4 14 rfl rfl
     simp [go_sem, Oper.wp, execOp, Act.eval, h1, h2, hrun]
     exact ⟨_, rfl, rfl, hp⟩
   · exact ok1 0 0 5 15 rfl rfl (fun _ _ h => h) fun _ => rfl
 intro γ a wy hd
 have H1 := hid hd.ph
 obtain ⟨fv, rfl, hfv⟩ := hd.frame [10, 11, 12, 13, 14, 15, 9] rfl
 have h9 : fv 9 = .bool (!t) := hfv 6 _ 9 rfl rfl
 clear hd hfv H0 HWh hrun Hrun
 simp only [foldl_cons, foldl_nil, setIfInBounds_toArray, set_cons_succ, set_cons_zero, h9]
 clear h9
 cases t
 · have hE : reqE q = 4 := HRe.out.1 (fun h => by have := Ht.out.2 h; cases this)
   obtain rfl : (4 : Int) = E0 := hE.symm.trans HE0.out
   have Hfin := hid (show ErrPost 4 w (.returned (.int .i64 4)) wy from ⟨rfl, H1.out.below⟩)
   clear hE HRe HPe Ht HE0
   go_wp2
   go_ret
   exact Hfin.out
 · have hE : reqE q = partE q := HRe.out.2 (Ht.out.1 rfl)
   have HK := hid (pcheck_name q.name P wy H1.out.pb hok.s (hT.below H1.out.below))
   obtain ⟨E, hEE⟩ : ∃ E : Int, (if nameOk q.name = true then 0 else 4) = E := ⟨_, rfl⟩
   rw [hEE] at HK
   obtain rfl : E = E0 := (hEE.symm.trans (HPe.out.symm.trans hE.symm)).trans HE0.out
   clear hEE hE HPe HRe HE0
   have hm : ∀ w, (method 525 257 (.pointer (some ⟨P, 0, none⟩)) "bracken/req.check").run Tryz.prog w = .ok (392, .pointer (some ⟨P, 0, none⟩)) w := fun _ => by kernel_rfl
   go_wp2_with fail
   refine Calls.mono HK.out ?_
   rintro e w5 ⟨rfl, hb5⟩
   have HB := hid (H1.out.below.trans (hb5.mono H1.out.below.size))
   have Hfin := hid (show ErrPost E w (.returned (.int .i64 E)) w5 from ⟨rfl, HB.out⟩)
   clear hb5 HK H1 HB
   go_wp2
   go_ret
   exact Hfin.out
def ckcountV (B P : Nat) (q : ReqD) (t : Bool) : Nat → Value → Prop
 | 0, u => u = .pointer (some ⟨B, 0, none⟩)
 | 1, u => u = .int .i64 q.kind
 | 2, u => u = .iface 259 (.pointer (some ⟨P, 0, none⟩))
 | 3, u => u = .agg #[.int .i64 q.kind, .string ⟨#[]⟩, .int .i64 0, .int .i64 0, .int .i64 0, .string ⟨#[]⟩, .string ⟨#[]⟩, .int .i64 0, .string ⟨#[]⟩, .string ⟨#[]⟩, .string ⟨#[]⟩, .int .i64 0, .string ⟨#[]⟩, .int .i64 q.n]
 | 4, u => u = .agg #[.int .i64 q.kind, .string q.job.name, .int .i64 q.job.prio, .int .i64 q.job.need, .int .i64 q.job.tries, .string q.job.tag, .string q.node.name, .int .i64 q.node.room, .string q.node.zone, .string q.lease.job, .string q.lease.node, .int .i64 q.lease.till, .string q.name, .int .i64 q.n]
 | 5, u => u = .bool (!t)
 | 6, u => u = .bool (!t)
 | _, _ => False
theorem rcheck_7 (q : ReqD) (w : World) (hq : q.kind = 7) (hok : ROk q) (hT : Tabs w) : Calls Tryz.prog 35 #[reqA q] w (ErrPost (reqE q) w) := by
 obtain ⟨W, hW⟩ : ∃ W, w.alloc (.cells (reqC q) 44) = W := ⟨_, rfl⟩
 have hb : Blk W w.heap.size 44 (reqC q) := by rw [← hW]; exact heap_alloc_new w _
 have hbW : Below w.heap.size w W := by rw [← hW]; exact (Below.refl _ _).alloc (Nat.le_refl _) _
 have HPt := hid (part_7 q W hq)
 have how : ownQ q = ⟨q.kind, noJob, noNode, noLease, ⟨#[]⟩, q.n⟩ := by unfold ownQ; simp [hq]
 have hpe : partE q = if ranged q.n 0 1099511627776 = true then 0 else 1 := by unfold partE; simp [hq]
 have hre : ((⟨q.kind, noJob, noNode, noLease, ⟨#[]⟩, q.n⟩ : ReqD) ≠ q → reqE q = 4) ∧ ((⟨q.kind, noJob, noNode, noLease, ⟨#[]⟩, q.n⟩ : ReqD) = q → reqE q = partE q) := by
  unfold reqE
  rw [how, if_neg (by rw [hq]; decide)]
  exact ⟨fun h => if_pos h, fun h => if_neg (fun h' => h' h)⟩
 obtain ⟨t, ht, hrun0⟩ := neqv_req ⟨q.kind, noJob, noNode, noLease, ⟨#[]⟩, q.n⟩ q
 have hrun : ∀ W, (binOp .neq 44 (.agg #[.int .i64 q.kind, .string ⟨#[]⟩, .int .i64 0, .int .i64 0, .int .i64 0, .string ⟨#[]⟩, .string ⟨#[]⟩, .int .i64 0, .string ⟨#[]⟩, .string ⟨#[]⟩, .string ⟨#[]⟩, .int .i64 0, .string ⟨#[]⟩, .int .i64 q.n]) (.agg (reqL q))).run Tryz.prog W = .ok (.bool (!t)) W := hrun0
 clear hrun0 how
 have h14 := hb
 obtain ⟨c0, c1, c2, c3, c4, c5, c6, c7, c8, c9, c10, c11, c12, c13⟩ := Blk.c14 (hb)
 have hlt := hb.lt
 have Hq := hid hb
 have HbW := hid hbW
 have HRe := hid hre
 have HPe := hid hpe
 have Ht := hid ht
 have Hrun := hid hrun
 have HW := hid hW
 clear hb hbW hre hpe ht hrun hW h14
 obtain ⟨E0, hE0⟩ : ∃ E0, reqE q = E0 := ⟨_, rfl⟩
 rw [hE0]
 have HE0 := hid hE0
 clear hE0
 unfold reqA at HPt ⊢
 unfold reqC at HPt ⊢
 unfold reqC at HW
 clear hq
 have hn : ∀ (w : World) (a : Addr), (binOp .eql 165 (.iface 259 (.pointer (some a))) .nilIface).run Tryz.prog w = .ok (.bool false) w := fun _ _ => rfl
 go_enter Tryz.func35, Tryz.ntmps35
 go_wp2_with fail
 try simp only [HW.out]
 clear HW
 refine Calls.mono HPt.out ?_
 rintro e w1 ⟨P, rfl, hP, hpb, hb1⟩
 have H0 : RckAt w q P 258 #[.int .i64 q.n] w1 := ⟨Hq.out.below hb1 Hq.out.lt, hpb, HbW.out.trans (hb1.mono HbW.out.size)⟩
 have HWh := hid (fun (wx : World) (hp : RckAt w q P 258 #[.int .i64 q.n] wx) => whole_count q P wx hp.pb)
 clear hP hpb hb1 HPt c0 c1 c2 c3 c4 c5 c6 c7 c8 c9 c10 c11 c12 c13 hlt
 go_wp2_with fail
 have hrun := Hrun.out
 refine rq (Γ := Unit) 18 (fun _ => ckcountV w.heap.size P q t) [] (fun _ _ wx => RckAt w q P 258 #[.int .i64 q.n] wx) () (H0.next (Below.refl _ _).drew) ?_ ?_
 · refine ⟨?_, ?_, ?_, ?_, ?_, ?_, ?_, trivial⟩
   · exact ok0 0 0 1 rfl fun _ => rfl
   · refine okQ 0 0 fun p γ a wx _ _ hp hk => ?_
     obtain ⟨u1, h1, rfl⟩ := hk.g 0 10 rfl rfl
     have hc0 : wx.cell? ⟨w.heap.size, 0, none⟩ = some (.int .i64 q.kind) := hp.qb.cell 0
     simp [go_sem, Oper.wp, execOp, Act.eval, h1, hc0]
     exact ⟨_, rfl, rfl, hp⟩
   · exact ok0 0 0 3 rfl fun _ => rfl
   · refine okQ 0 0 fun p γ a wx _ _ hp hk => ?_
     obtain ⟨u1, h1, rfl⟩ := hk.g 1 11 rfl rfl
     obtain ⟨u2, h2, rfl⟩ := hk.g 2 12 rfl rfl
     simp [go_sem, Oper.wp, execOp, Act.eval, h1, h2]
     refine (HWh.out wx hp).mono ?_
     rintro e w' ⟨rfl, hb⟩
     exact ⟨_, rfl, rfl, hp.next hb⟩
   · refine okQ 0 0 fun p γ a wx _ _ hp hk => ?_
     have h1 := hk.k 1 rfl
     obtain ⟨hc0, hc1, hc2, hc3, hc4, hc5, hc6, hc7, hc8, hc9, hc10, hc11, hc12, hc13⟩ := Blk.c14 (hp.qb)
     simp [go_sem, Oper.wp, execOp, Act.eval, h1, hc0, hc1, hc2, hc3, hc4, hc5, hc6, hc7, hc8, hc9, hc10, hc11, hc12, hc13]
     exact ⟨_, rfl, rfl, hp⟩
   · refine okQ 0 0 fun p γ a wx _ _ hp hk => ?_
     obtain ⟨u1, h1, rfl⟩ := hk.g 3 13 rfl rfl
     obtain ⟨u2, h2, rfl⟩ := hk.g 4 14 rfl rfl
     simp [go_sem, Oper.wp, execOp, Act.eval, h1, h2, hrun]
     exact ⟨_, rfl, rfl, hp⟩
   · exact ok1 0 0 5 15 rfl rfl (fun _ _ h => h) fun _ => rfl
 intro γ a wy hd
 have H1 := hid hd.ph
 obtain ⟨fv, rfl, hfv⟩ := hd.frame [10, 11, 12, 13, 14, 15, 9] rfl
 have h9 : fv 9 = .bool (!t) := hfv 6 _ 9 rfl rfl
 clear hd hfv H0 HWh hrun Hrun
 simp only [foldl_cons, foldl_nil, setIfInBounds_toArray, set_cons_succ, set_cons_zero, h9]
 clear h9
 cases t
 · have hE : reqE q = 4 := HRe.out.1 (fun h => by have := Ht.out.2 h; cases this)
   obtain rfl : (4 : Int) = E0 := hE.symm.trans HE0.out
   have Hfin := hid (show ErrPost 4 w (.returned (.int .i64 4)) wy from ⟨rfl, H1.out.below⟩)
   clear hE HRe HPe Ht HE0
   go_wp2
   go_ret
   exact Hfin.out
 · have hE : reqE q = partE q := HRe.out.2 (Ht.out.1 rfl)
   have HK := hid (pcheck_count q.n P wy H1.out.pb)
   obtain ⟨E, hEE⟩ : ∃ E : Int, (if ranged q.n 0 1099511627776 = true then 0 else 1) = E := ⟨_, rfl⟩
   rw [hEE] at HK
   obtain rfl : E = E0 := (hEE.symm.trans (HPe.out.symm.trans hE.symm)).trans HE0.out
   clear hEE hE HPe HRe HE0
   have hm : ∀ w, (method 525 259 (.pointer (some ⟨P, 0, none⟩)) "bracken/req.check").run Tryz.prog w = .ok (396, .pointer (some ⟨P, 0, none⟩)) w := fun _ => by kernel_rfl
   go_wp2_with fail
   refine Calls.mono HK.out ?_
   rintro e w5 ⟨rfl, hb5⟩
   have HB := hid (H1.out.below.trans (hb5.mono H1.out.below.size))
   have Hfin := hid (show ErrPost E w (.returned (.int .i64 E)) w5 from ⟨rfl, HB.out⟩)
   clear hb5 HK H1 HB
   go_wp2
   go_ret
   exact Hfin.out
end Go.Proofs.YtjgnnobccecpeaaGreatDoor
