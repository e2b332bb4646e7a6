/- Of the proof of a statement: FoSt. -/
import Derived.Test.YtjgnnobccecpeaaGreatDoorRFolP
set_option linter.unusedVariables false
set_option linter.unusedSimpArgs false
set_option maxRecDepth 100000
set_option maxHeartbeats 8000000
/- The walk of a follower's State. -/
namespace Go.Proofs.YtjgnnobccecpeaaGreatDoor
open Go.Lib (hid)
open Go.RowKit
def fsV (B : Nat) (x γ : StA) : Nat → Value → Prop
 | 0, u => u = .pointer (some ⟨B, 1, none⟩)
 | 1, u => u = .slice x.aj x.nj x.cj
 | 2, u => u = .slice γ.aj x.nj γ.cj
 | 3, u => u = .pointer (some ⟨B, 2, none⟩)
 | 4, u => u = .slice x.an x.nn x.cn
 | 5, u => u = .slice γ.an x.nn γ.cn
 | 6, u => u = .pointer (some ⟨B, 3, none⟩)
 | 7, u => u = .slice x.al x.nl x.cl
 | 8, u => u = .slice γ.al x.nl γ.cl
 | 9, u => u = .pointer (some ⟨B, 1, none⟩)
 | 11, u => u = .pointer (some ⟨B, 2, none⟩)
 | 13, u => u = .pointer (some ⟨B, 3, none⟩)
 | _, _ => True
structure FsAt (w0 : World) (st : StateD) (x γ : StA) (c k : Nat) (w : World) : Prop where
 below : Below w0.heap.size w0 w
 blk : Blk w (w0.heap.size + 1) 26 #[.int .i64 st.rev, if 0 < k then .slice γ.aj x.nj γ.cj else .slice x.aj x.nj x.cj, if 1 < k then .slice γ.an x.nn γ.cn else .slice x.an x.nn x.cn, if 2 < k then .slice γ.al x.nl γ.cl else .slice x.al x.nl x.cl]
 res : Blk w w0.heap.size 26 zSta
 j : 0 < c → w.ownsRow (w0.heap.size + 2) 38 5 (.slice γ.aj x.nj γ.cj) x.nj (rowsV jobV st.jobs)
 n : 1 < c → w.ownsRow (w0.heap.size + 2) 40 3 (.slice γ.an x.nn γ.cn) x.nn (rowsV nodeV st.nodes)
 l : 2 < c → w.ownsRow (w0.heap.size + 2) 42 3 (.slice γ.al x.nl γ.cl) x.nl (rowsV leaseV st.leases)
def fsPh (w0 : World) (st : StateD) (x : StA) (p : Nat) (γ : StA) (w : World) : Prop := FsAt w0 st x γ p (p - 3) w
theorem fsV_tr {B : Nat} {x γ γ' : StA} (d : Nat) (h2 : d ≠ 2 → γ'.aj = γ.aj ∧ γ'.cj = γ.cj) (h5 : d ≠ 5 → γ'.an = γ.an ∧ γ'.cn = γ.cn) (h8 : d ≠ 8 → γ'.al = γ.al ∧ γ'.cl = γ.cl) : ∀ j v, j ≠ d → fsV B x γ j v → fsV B x γ' j v := by
 intro j v hj h
 match j, hj, h with
 | 0, _, h => exact h
 | 1, _, h => exact h
 | 2, hj, h => obtain ⟨e1, e2⟩ := h2 (fun e => hj e.symm); exact (show v = _ by rw [e1, e2]; exact h)
 | 3, _, h => exact h
 | 4, _, h => exact h
 | 5, hj, h => obtain ⟨e1, e2⟩ := h5 (fun e => hj e.symm); exact (show v = _ by rw [e1, e2]; exact h)
 | 6, _, h => exact h
 | 7, _, h => exact h
 | 8, hj, h => obtain ⟨e1, e2⟩ := h8 (fun e => hj e.symm); exact (show v = _ by rw [e1, e2]; exact h)
 | 9, _, h => exact h
 | 10, _, _ => trivial
 | 11, _, h => exact h
 | 12, _, _ => trivial
 | 13, _, h => exact h
 | _ + 14, _, _ => trivial
def FsPost (st : StateD) (has : Bool) (w : World) (e : Ending) (w' : World) : Prop :=
 ∃ x : StA, e = .returned (.tuple #[.agg (stC st x), .bool has]) ∧ StAt w' w'.heap.size st x ∧ Below w.heap.size w w'
def saidF (cur : Option StateD) : StateD := match cur with | none => zeroSt | some s => s
theorem fstate_some (st : StateD) (x : StA) (fb gb sb : Nat) (w : World) (hF : FolAt w fb gb (.pointer (some ⟨sb, 0, none⟩))) (hsb : Blk w sb 26 (stC st x)) (hS : StAt w w.heap.size st x) (h1 : x.nj ≤ 40) (h2 : x.nn ≤ 20) (h3 : x.nl ≤ 40) :
 Calls Tryz.prog 23 #[.pointer (some ⟨fb, 0, none⟩)] w (FsPost st true w) := by
 have hb1 : Below w.heap.size w (w.alloc (.cells zSta 26)) := (Below.refl _ _).alloc (Nat.le_refl _) _
 have hb2 := hb1.alloc hb1.size (.cells (stC st x) 26)
 have H0 : FsAt w st x x 0 0 (((w.alloc (.cells zSta 26)).alloc (.cells (stC st x) 26))).drew :=
  { below := hb2.drew
    res := Blk.alloc (show Blk _ _ _ _ from heap_alloc_new w _) _
    blk := by
     have h := heap_alloc_new (w.alloc (.cells zSta 26)) (.cells (stC st x) 26)
     rw [show (w.alloc (.cells zSta 26)).heap.size = w.heap.size + 1 by simp] at h
     exact h
    j := fun h => absurd h (by omega)
    n := fun h => absurd h (by omega)
    l := fun h => absurd h (by omega) }
 have HS := hid hS
 have hF1 : FolAt _ fb gb (.pointer (some ⟨sb, 0, none⟩)) := Blk.below hF hb1 (Blk.lt hF)
 have f1 := Blk.cell hF1 1
 have hsb1 := hsb.below hb1 hsb.lt
 obtain ⟨s0, s1, s2, s3⟩ := Blk.c4 (hsb1)
 have f1 : (w.alloc (.cells zSta 26)).cell? ⟨fb, 1, none⟩ = some (.pointer (some ⟨sb, 0, none⟩)) := f1
 have hsl : sb < w.heap.size := hsb.lt
 have hfl : fb < w.heap.size := Blk.lt hF
 clear hb1 hb2 hS hF hF1 hsb hsb1
 go_enter Tryz.func23, Tryz.ntmps23
 unfold stC at *
 go_wp2_with fail
 refine wp_region_phases (n := 30) (by kernel_rfl) (fsV (w.heap.size + 1) x) [2, 5, 8, 10, 12, 14] (fsPh w st x) x (by decide +kernel) (by decide +kernel) rfl H0 ?_ ?_
 · refine ⟨?_, ?_, ?_, ?_, ?_, ?_, ?_, ?_, ?_, ?_, ?_, ?_, ?_, ?_, ?_, trivial⟩
   · refine ⟨rfl, .inr ⟨by decide, 0, 6, by decide +kernel, by decide +kernel, fun p γ a wx _ hph hp hk => ?_⟩⟩
     have h1 := hk.k 4 rfl
     simp [go_sem, Oper.wp, execOp, Act.eval, h1]
     exact ⟨_, rfl, rfl, hp⟩
   · refine ⟨rfl, .inr ⟨by decide, 0, 0, by decide +kernel, by decide +kernel, fun p γ a wx _ hph hp hk => ?_⟩⟩
     obtain ⟨u1, hu1, ru1⟩ := hk.g 0 17 rfl rfl
     replace ru1 : u1 = _ := ru1
     subst ru1
     have hc : wx.cell? ⟨w.heap.size + 1, 1, none⟩ = some (.slice x.aj x.nj x.cj) := by
      have h := hp.blk.cell 1
      simp only [List.getElem?_toArray, List.getElem?_cons_succ, List.getElem?_cons_zero] at h
      rw [h, if_neg (by omega)]
     simp [go_sem, Oper.wp, execOp, Act.eval, hu1, hc]
     exact ⟨_, rfl, rfl, hp⟩
   · refine ⟨rfl, .inl ⟨0, rfl, fun γ a wx hp hk => ?_⟩⟩
     obtain ⟨u1, hu1, ru1⟩ := hk.g 1 18 rfl rfl
     replace ru1 : u1 = _ := ru1
     subst ru1
     simp [go_sem, Oper.wp, execOp, Act.eval, hu1]
     refine (clone_job st.jobs x.aj x.nj x.cj wx (HS.out.j.below hp.below |>.more hp.below.size) HS.out.lj (by omega)).mono ?_
     rintro e w' ⟨A', c', rfl, ho, hb⟩
     rw [HS.out.lj] at ho ⊢
     exact ⟨_, rfl, { γ with aj := A', cj := c' }, fsV_tr 2 (fun h => absurd rfl h) (fun _ => ⟨rfl, rfl⟩) (fun _ => ⟨rfl, rfl⟩), rfl, { below := hp.below.trans (hb.mono hp.below.size), blk := Blk.eq (hp.blk.below hb hp.blk.lt) (by simp), res := hp.res.below hb hp.res.lt, j := fun _ => ownT_base ho (by have := hp.blk.lt; omega), n := fun h => absurd h (by omega), l := fun h => absurd h (by omega) }⟩
   · refine ⟨rfl, .inr ⟨by decide, 0, 6, by decide +kernel, by decide +kernel, fun p γ a wx _ hph hp hk => ?_⟩⟩
     have h1 := hk.k 4 rfl
     simp [go_sem, Oper.wp, execOp, Act.eval, h1]
     exact ⟨_, rfl, rfl, hp⟩
   · refine ⟨rfl, .inr ⟨by decide, 0, 1, by decide +kernel, by decide +kernel, fun p γ a wx _ hph hp hk => ?_⟩⟩
     obtain ⟨u1, hu1, ru1⟩ := hk.g 3 20 rfl rfl
     replace ru1 : u1 = _ := ru1
     subst ru1
     have hc : wx.cell? ⟨w.heap.size + 1, 2, none⟩ = some (.slice x.an x.nn x.cn) := by
      have h := hp.blk.cell 2
      simp only [List.getElem?_toArray, List.getElem?_cons_succ, List.getElem?_cons_zero] at h
      rw [h, if_neg (by omega)]
     simp [go_sem, Oper.wp, execOp, Act.eval, hu1, hc]
     exact ⟨_, rfl, rfl, hp⟩
   · refine ⟨rfl, .inl ⟨1, rfl, fun γ a wx hp hk => ?_⟩⟩
     obtain ⟨u1, hu1, ru1⟩ := hk.g 4 21 rfl rfl
     replace ru1 : u1 = _ := ru1
     subst ru1
     simp [go_sem, Oper.wp, execOp, Act.eval, hu1]
     refine (clone_node st.nodes x.an x.nn x.cn wx (HS.out.n.below hp.below |>.more hp.below.size) HS.out.ln (by omega)).mono ?_
     rintro e w' ⟨A', c', rfl, ho, hb⟩
     rw [HS.out.ln] at ho ⊢
     exact ⟨_, rfl, { γ with an := A', cn := c' }, fsV_tr 5 (fun _ => ⟨rfl, rfl⟩) (fun h => absurd rfl h) (fun _ => ⟨rfl, rfl⟩), rfl, { below := hp.below.trans (hb.mono hp.below.size), blk := Blk.eq (hp.blk.below hb hp.blk.lt) (by simp), res := hp.res.below hb hp.res.lt, j := fun _ => ownU_below (hp.j (by omega)) hb, n := fun _ => ownT_base ho (by have := hp.blk.lt; omega), l := fun h => absurd h (by omega) }⟩
   · refine ⟨rfl, .inr ⟨by decide, 0, 6, by decide +kernel, by decide +kernel, fun p γ a wx _ hph hp hk => ?_⟩⟩
     have h1 := hk.k 4 rfl
     simp [go_sem, Oper.wp, execOp, Act.eval, h1]
     exact ⟨_, rfl, rfl, hp⟩
   · refine ⟨rfl, .inr ⟨by decide, 0, 2, by decide +kernel, by decide +kernel, fun p γ a wx _ hph hp hk => ?_⟩⟩
     obtain ⟨u1, hu1, ru1⟩ := hk.g 6 23 rfl rfl
     replace ru1 : u1 = _ := ru1
     subst ru1
     have hc : wx.cell? ⟨w.heap.size + 1, 3, none⟩ = some (.slice x.al x.nl x.cl) := by
      have h := hp.blk.cell 3
      simp only [List.getElem?_toArray, List.getElem?_cons_succ, List.getElem?_cons_zero] at h
      rw [h, if_neg (by omega)]
     simp [go_sem, Oper.wp, execOp, Act.eval, hu1, hc]
     exact ⟨_, rfl, rfl, hp⟩
   · refine ⟨rfl, .inl ⟨2, rfl, fun γ a wx hp hk => ?_⟩⟩
     obtain ⟨u1, hu1, ru1⟩ := hk.g 7 24 rfl rfl
     replace ru1 : u1 = _ := ru1
     subst ru1
     simp [go_sem, Oper.wp, execOp, Act.eval, hu1]
     refine (clone_lease st.leases x.al x.nl x.cl wx (HS.out.l.below hp.below |>.more hp.below.size) HS.out.ll (by omega)).mono ?_
     rintro e w' ⟨A', c', rfl, ho, hb⟩
     rw [HS.out.ll] at ho ⊢
     exact ⟨_, rfl, { γ with al := A', cl := c' }, fsV_tr 8 (fun _ => ⟨rfl, rfl⟩) (fun _ => ⟨rfl, rfl⟩) (fun h => absurd rfl h), rfl, { below := hp.below.trans (hb.mono hp.below.size), blk := Blk.eq (hp.blk.below hb hp.blk.lt) (by simp), res := hp.res.below hb hp.res.lt, j := fun _ => ownU_below (hp.j (by omega)) hb, n := fun _ => ownU_below (hp.n (by omega)) hb, l := fun _ => ownT_base ho (by have := hp.blk.lt; omega) }⟩
   · refine ⟨rfl, .inr ⟨by decide, 0, 6, by decide +kernel, by decide +kernel, fun p γ a wx _ hph hp hk => ?_⟩⟩
     have h1 := hk.k 4 rfl
     simp [go_sem, Oper.wp, execOp, Act.eval, h1]
     exact ⟨_, rfl, rfl, hp⟩
   · refine ⟨rfl, .inl ⟨3, rfl, fun γ a wx hp hk => ?_⟩⟩
     obtain ⟨u1, hu1, ru1⟩ := hk.g 9 26 rfl rfl
     replace ru1 : u1 = _ := ru1
     subst ru1
     obtain ⟨u2, hu2, ru2⟩ := hk.g 2 19 rfl rfl
     replace ru2 : u2 = _ := ru2
     subst ru2
     have hc : wx.cell? ⟨w.heap.size + 1, 1, none⟩ = some (.slice x.aj x.nj x.cj) := by
      have h := hp.blk.cell 1
      simp only [List.getElem?_toArray, List.getElem?_cons_succ, List.getElem?_cons_zero] at h
      rw [h, if_neg (by omega)]
     have hz : wx.frozen? ⟨w.heap.size + 1, 1, none⟩ = false := hp.blk.thaw 1
     simp [go_sem, Oper.wp, execOp, Act.eval, hu1, hu2, hc, hz]
     exact ⟨.int .i64 0, γ, fun _ _ _ h => h, trivial, { below := grow_keep hp.below (grow_set wx (w.heap.size + 1) 1 _) (by omega), blk := Blk.eq (hp.blk.set 1 _) rfl, res := grow_blk (grow_set wx (w.heap.size + 1) 1 _) hp.res (by omega), j := fun _ => ownT_grow (hp.j (by omega)) (grow_set wx (w.heap.size + 1) 1 _) (by omega), n := fun _ => ownT_grow (hp.n (by omega)) (grow_set wx (w.heap.size + 1) 1 _) (by omega), l := fun _ => ownT_grow (hp.l (by omega)) (grow_set wx (w.heap.size + 1) 1 _) (by omega) }⟩
   · refine ⟨rfl, .inr ⟨by decide, 0, 6, by decide +kernel, by decide +kernel, fun p γ a wx _ hph hp hk => ?_⟩⟩
     have h1 := hk.k 4 rfl
     simp [go_sem, Oper.wp, execOp, Act.eval, h1]
     exact ⟨_, rfl, rfl, hp⟩
   · refine ⟨rfl, .inl ⟨4, rfl, fun γ a wx hp hk => ?_⟩⟩
     obtain ⟨u1, hu1, ru1⟩ := hk.g 11 27 rfl rfl
     replace ru1 : u1 = _ := ru1
     subst ru1
     obtain ⟨u2, hu2, ru2⟩ := hk.g 5 22 rfl rfl
     replace ru2 : u2 = _ := ru2
     subst ru2
     have hc : wx.cell? ⟨w.heap.size + 1, 2, none⟩ = some (.slice x.an x.nn x.cn) := by
      have h := hp.blk.cell 2
      simp only [List.getElem?_toArray, List.getElem?_cons_succ, List.getElem?_cons_zero] at h
      rw [h, if_neg (by omega)]
     have hz : wx.frozen? ⟨w.heap.size + 1, 2, none⟩ = false := hp.blk.thaw 2
     simp [go_sem, Oper.wp, execOp, Act.eval, hu1, hu2, hc, hz]
     exact ⟨.int .i64 0, γ, fun _ _ _ h => h, trivial, { below := grow_keep hp.below (grow_set wx (w.heap.size + 1) 2 _) (by omega), blk := Blk.eq (hp.blk.set 2 _) rfl, res := grow_blk (grow_set wx (w.heap.size + 1) 2 _) hp.res (by omega), j := fun _ => ownT_grow (hp.j (by omega)) (grow_set wx (w.heap.size + 1) 2 _) (by omega), n := fun _ => ownT_grow (hp.n (by omega)) (grow_set wx (w.heap.size + 1) 2 _) (by omega), l := fun _ => ownT_grow (hp.l (by omega)) (grow_set wx (w.heap.size + 1) 2 _) (by omega) }⟩
   · refine ⟨rfl, .inr ⟨by decide, 0, 6, by decide +kernel, by decide +kernel, fun p γ a wx _ hph hp hk => ?_⟩⟩
     have h1 := hk.k 4 rfl
     simp [go_sem, Oper.wp, execOp, Act.eval, h1]
     exact ⟨_, rfl, rfl, hp⟩
   · refine ⟨rfl, .inl ⟨5, rfl, fun γ a wx hp hk => ?_⟩⟩
     obtain ⟨u1, hu1, ru1⟩ := hk.g 13 28 rfl rfl
     replace ru1 : u1 = _ := ru1
     subst ru1
     obtain ⟨u2, hu2, ru2⟩ := hk.g 8 25 rfl rfl
     replace ru2 : u2 = _ := ru2
     subst ru2
     have hc : wx.cell? ⟨w.heap.size + 1, 3, none⟩ = some (.slice x.al x.nl x.cl) := by
      have h := hp.blk.cell 3
      simp only [List.getElem?_toArray, List.getElem?_cons_succ, List.getElem?_cons_zero] at h
      rw [h, if_neg (by omega)]
     have hz : wx.frozen? ⟨w.heap.size + 1, 3, none⟩ = false := hp.blk.thaw 3
     simp [go_sem, Oper.wp, execOp, Act.eval, hu1, hu2, hc, hz]
     exact ⟨.int .i64 0, γ, fun _ _ _ h => h, trivial, { below := grow_keep hp.below (grow_set wx (w.heap.size + 1) 3 _) (by omega), blk := Blk.eq (hp.blk.set 3 _) rfl, res := grow_blk (grow_set wx (w.heap.size + 1) 3 _) hp.res (by omega), j := fun _ => ownT_grow (hp.j (by omega)) (grow_set wx (w.heap.size + 1) 3 _) (by omega), n := fun _ => ownT_grow (hp.n (by omega)) (grow_set wx (w.heap.size + 1) 3 _) (by omega), l := fun _ => ownT_grow (hp.l (by omega)) (grow_set wx (w.heap.size + 1) 3 _) (by omega) }⟩
 · intro γ a wx hd
   have hp : FsAt w st x γ 6 3 wx := hd.ph
   obtain ⟨fv, rfl, -⟩ := hd.frame [17, 18, 19, 20, 21, 22, 23, 24, 25, 26, 27, 28] rfl
   have hB : Blk wx (w.heap.size + 1) 26 #[.int .i64 st.rev, .slice γ.aj x.nj γ.cj, .slice γ.an x.nn γ.cn, .slice γ.al x.nl γ.cl] := hp.blk
   have hR := hp.res
   have hbl := hB.lt
   have hrl := hR.lt
   obtain ⟨b0, b1, b2, b3⟩ := Blk.c4 (hB)
   obtain ⟨u0, u1, u2, u3⟩ := Blk.z4 (hR)
   obtain ⟨s0, s1, s2, s3⟩ := Blk.c4 (hR)
   obtain ⟨hR4, hG4⟩ := Blk.S4 (hR) (.int .i64 st.rev) (.slice γ.aj x.nj γ.cj) (.slice γ.an x.nn γ.cn) (.slice γ.al x.nl γ.cl)
   obtain ⟨q0, q1, q2, q3⟩ := Blk.c4 hR4
   have hO : StOwn _ _ st ⟨γ.aj, x.nj, γ.cj, γ.an, x.nn, γ.cn, γ.al, x.nl, γ.cl⟩ := ⟨ownT_grow (hp.j (by omega)) hG4 (by omega), ownT_grow (hp.n (by omega)) hG4 (by omega), ownT_grow (hp.l (by omega)) hG4 (by omega), HS.out.lj, HS.out.ln, HS.out.ll⟩
   have Hend := hid (show FsPost st true w (.returned (.tuple #[.agg (stC st ⟨γ.aj, x.nj, γ.cj, γ.an, x.nn, γ.cn, γ.al, x.nl, γ.cl⟩), .bool true])) _ from ⟨⟨γ.aj, x.nj, γ.cj, γ.an, x.nn, γ.cn, γ.al, x.nl, γ.cl⟩, rfl, hO.at_ h1 h2 h3 HS.out.oj HS.out.on_ HS.out.ol, grow_keep hp.below hG4 (by omega)⟩)
   clear hd hp hB hR hR4 hG4 H0 hO
   simp [Exit.then]
   go_wp2
   refine bodyPost_ret (v := .tuple #[.agg #[.int .i64 st.rev, .slice γ.aj x.nj γ.cj, .slice γ.an x.nn γ.cn, .slice γ.al x.nl γ.cl], .bool true]) (by simp [results, Tryz.results23, go_sem, *]) rfl ?_
   exact Hend.out
theorem fstate_none (fb gb : Nat) (w : World) (hF : FolAt w fb gb (.pointer none)) :
 Calls Tryz.prog 23 #[.pointer (some ⟨fb, 0, none⟩)] w (FsPost zeroSt false w) := by
 obtain ⟨w1, hw1⟩ : ∃ w1, w.alloc (.cells zSta 26) = w1 := ⟨_, rfl⟩
 have hb1 : Below w.heap.size w w1 := by rw [← hw1]; exact (Below.refl _ _).alloc (Nat.le_refl _) _
 have hR : Blk w1 w.heap.size 26 zSta := by rw [← hw1]; exact heap_alloc_new w _
 have f1 : w1.cell? ⟨fb, 1, none⟩ = some (.pointer none) := Blk.cell (Blk.below hF hb1 (Blk.lt hF)) 1
 have hfl : fb < w.heap.size := Blk.lt hF
 obtain ⟨u0, u1, u2, u3⟩ := Blk.z4 (hR)
 obtain ⟨s0, s1, s2, s3⟩ := Blk.c4 (hR)
 obtain ⟨hR4, hG4⟩ := Blk.S4 (hR) (.int .i64 0) (.slice none 0 0) (.slice none 0 0) (.slice none 0 0)
 obtain ⟨q0, q1, q2, q3⟩ := Blk.c4 hR4
 have Hend := hid (show FsPost zeroSt false w (.returned (.tuple #[.agg zSta, .bool false])) _ from ⟨nilA, rfl, zeroAt _ _, grow_keep hb1 hG4 (Nat.le_refl _)⟩)
 clear hb1 hF hR hR4 hG4
 go_enter Tryz.func23, Tryz.ntmps23
 go_wp2
 refine bodyPost_ret (v := .tuple #[.agg #[.int .i64 0, .slice none 0 0, .slice none 0 0, .slice none 0 0], .bool false]) (by simp [results, Tryz.results23, go_sem, *]) rfl ?_
 exact Hend.out
theorem sizes_of {s : StateD} (h : checkE s = 0) : s.jobs.length ≤ 40 ∧ s.nodes.length ≤ 20 ∧ s.leases.length ≤ 40 := by
 unfold checkE at h
 split at h
 · omega
 · split at h
   · omega
   · rename_i h2
     rw [Bool.not_eq_false] at h2
     unfold sizesOk at h2
     simp at h2
     omega
theorem fstate_any {F : FolD} {fb gb : Nat} {w : World} (hI : FolIs w fb gb F) (hok : ∀ s, F.st = some s → checkE s = 0) :
 Calls Tryz.prog 23 #[.pointer (some ⟨fb, 0, none⟩)] w (FsPost (saidF F.st) F.st.isSome w) := by
 obtain ⟨p, hF, hP, _⟩ := hI
 cases hs : F.st with
 | none =>
  rw [hs] at hP
  obtain rfl : p = _ := hP
  exact fstate_none fb gb w hF
 | some s =>
  rw [hs] at hP
  obtain ⟨sb, x, rfl, h1, h2⟩ := hP
  obtain ⟨a, b, c⟩ := sizes_of (hok s hs)
  exact fstate_some s x fb gb sb w hF h1 h2 (by have := h2.lj; omega) (by have := h2.ln; omega) (by have := h2.ll; omega)
end Go.Proofs.YtjgnnobccecpeaaGreatDoor
