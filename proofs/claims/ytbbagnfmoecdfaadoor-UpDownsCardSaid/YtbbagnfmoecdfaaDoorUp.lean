/- The walk of up.own: a state of one's own. The walks of slices.IndexFunc and ContainsFunc at rows of records, for any function value that answers a predicate. What a state is brought up to: plain. The walks of up.step and its closure. The walks of up.steps, up.isWay and up.State. -/
import Derived.Test.YtbbagnfmoecdfaaDoorOwn
import Derived.Test.YtbbagnfmoecdfaaDoorRPh
import Derived.Test.YtbbagnfmoecdfaaDoorRowsL
import Derived.Test.YtbbagnfmoecdfaaDoorBase
import Derived.Test.YtbbagnfmoecdfaaDoorFits
import Derived.Test.YtbbagnfmoecdfaaDoorAt
import Derived.Lib.QuietBelow
import Derived.Test.YtbbagnfmoecdfaaDoorCkSz
import Derived.Test.YtbbagnfmoecdfaaDoorSameR
set_option linter.unusedVariables false
set_option linter.unusedSimpArgs false
namespace Go.Proofs.YtbbagnfmoecdfaaDoor
open Go.RowKit
/-- What the clones' region leaves, operation by operation; γ: where the clones lie. -/
def ownV (B : Nat) (x γ : StA) : Nat → Value → Prop
  | 0, u => u = .pointer (some ⟨B, 1, none⟩)
  | 1, u => u = .slice x.aj x.nj x.cj
  | 2, u => u = .slice γ.aj x.nj γ.cj
  | 3, u => u = .pointer (some ⟨B, 2, none⟩)
  | 4, u => u = .slice x.an x.nn x.cn
  | 5, u => u = .slice γ.an x.nn γ.cn
  | 6, u => u = .pointer (some ⟨B, 3, none⟩)
  | 7, u => u = .slice x.al x.nl x.cl
  | 8, u => u = .slice γ.al x.nl γ.cl
  | 9, u => u = .pointer (some ⟨B, 1, none⟩)
  | 11, u => u = .pointer (some ⟨B, 2, none⟩)
  | 13, u => u = .pointer (some ⟨B, 3, none⟩)
  | _, _ => True
/-- How far it has come: how many clones are made, how many are stored. -/
structure OwnAt (w0 : World) (st : StateD) (x γ : StA) (c k : Nat) (w : World) : Prop where
  below : Below w0.heap.size w0 w
  blk : Blk w w0.heap.size 26 #[.int .i64 st.rev, if 0 < k then .slice γ.aj x.nj γ.cj else .slice x.aj x.nj x.cj, if 1 < k then .slice γ.an x.nn γ.cn else .slice x.an x.nn x.cn, if 2 < k then .slice γ.al x.nl γ.cl else .slice x.al x.nl x.cl]
  res : Blk w (w0.heap.size + 1) 26 #[.int .i64 0, .slice none 0 0, .slice none 0 0, .slice none 0 0]
  j : 0 < c → w.ownsRow (w0.heap.size + 2) 49 5 (.slice γ.aj x.nj γ.cj) x.nj (rowsV jobV st.jobs)
  n : 1 < c → w.ownsRow (w0.heap.size + 2) 54 3 (.slice γ.an x.nn γ.cn) x.nn (rowsV nodeV st.nodes)
  l : 2 < c → w.ownsRow (w0.heap.size + 2) 59 3 (.slice γ.al x.nl γ.cl) x.nl (rowsV leaseV st.leases)
def ownPh (w0 : World) (st : StateD) (x : StA) (p : Nat) (γ : StA) (w : World) : Prop := OwnAt w0 st x γ p (p - 3) w
theorem ownV_tr {B : Nat} {x γ γ' : StA} (d : Nat) (h2 : d ≠ 2 → γ'.aj = γ.aj ∧ γ'.cj = γ.cj) (h5 : d ≠ 5 → γ'.an = γ.an ∧ γ'.cn = γ.cn) (h8 : d ≠ 8 → γ'.al = γ.al ∧ γ'.cl = γ.cl) : ∀ j v, j ≠ d → ownV B x γ j v → ownV B x γ' j v := by
  intro j v hj h
  match j, hj, h with
  | 0, _, h => exact h
  | 1, _, h => exact h
  | 2, hj, h => obtain ⟨e1, e2⟩ := h2 (fun e => hj e.symm); exact (show v = _ by rw [e1, e2]; exact h)
  | 3, _, h => exact h
  | 4, _, h => exact h
  | 5, hj, h => obtain ⟨e1, e2⟩ := h5 (fun e => hj e.symm); exact (show v = _ by rw [e1, e2]; exact h)
  | 6, _, h => exact h
  | 7, _, h => exact h
  | 8, hj, h => obtain ⟨e1, e2⟩ := h8 (fun e => hj e.symm); exact (show v = _ by rw [e1, e2]; exact h)
  | 9, _, h => exact h
  | 10, _, _ => trivial
  | 11, _, h => exact h
  | 12, _, _ => trivial
  | 13, _, h => exact h
  | _ + 14, _, _ => trivial
def OwnPost (st : StateD) (x : StA) (w : World) (e : Ending) (w' : World) : Prop :=
  ∃ x' : StA, e = .returned (.agg (stC st x')) ∧ x'.nj = x.nj ∧ x'.nn = x.nn ∧ x'.nl = x.nl ∧ StOwn w' (w.heap.size + 2) st x' ∧ Below w.heap.size w w'
set_option maxRecDepth 100000 in
set_option maxHeartbeats 4000000 in
theorem uown_any (st : StateD) (x : StA) (w : World) (hS : StAt w w.heap.size st x) (h1 : x.nj ≤ 1000) (h2 : x.nn ≤ 1000) (h3 : x.nl ≤ 1000) :
    Calls Tryd.prog 46 #[.agg (stC st x)] w (OwnPost st x w) := by
  have hb1 : Below w.heap.size w (w.alloc (.cells (stC st x) 26)) := (Below.refl _ _).alloc (Nat.le_refl _) _
  have hb2 := hb1.alloc hb1.size (.cells #[.int .i64 0, .slice none 0 0, .slice none 0 0, .slice none 0 0] 26)
  have H0 : OwnAt w st x x 0 0 (((w.alloc (.cells (stC st x) 26)).alloc (.cells #[.int .i64 0, .slice none 0 0, .slice none 0 0, .slice none 0 0] 26))).drew :=
    { below := hb2.drew
      blk := Blk.alloc (show Blk _ _ _ _ from heap_alloc_new w _) _
      res := by
        have h := heap_alloc_new (w.alloc (.cells (stC st x) 26)) (.cells #[.int .i64 0, .slice none 0 0, .slice none 0 0, .slice none 0 0] 26)
        rw [show (w.alloc (.cells (stC st x) 26)).heap.size = w.heap.size + 1 by simp] at h
        exact h
      j := fun h => absurd h (by omega)
      n := fun h => absurd h (by omega)
      l := fun h => absurd h (by omega) }
  have HS := Lib.hid hS
  clear hb1 hb2 hS
  go_enter Tryd.func46, Tryd.ntmps46
  unfold stC at *
  go_wp2_with fail
  refine wp_region_phases (n := 16) (by kernel_rfl) (ownV w.heap.size x) [2, 5, 8, 10, 12, 14] (ownPh w st x) x (by decide +kernel) (by decide +kernel) rfl H0 ?_ ?_
  · refine ⟨?_, ?_, ?_, ?_, ?_, ?_, ?_, ?_, ?_, ?_, ?_, ?_, ?_, ?_, ?_, trivial⟩
    · refine ⟨rfl, .inr ⟨by decide, 0, 6, by decide +kernel, by decide +kernel, fun p γ a wx _ hph hp hk => ?_⟩⟩
      have h1 := hk.1 1 _ rfl (by decide +kernel)
      simp [go_sem, Oper.wp, execOp, Act.eval, h1]
      exact ⟨_, rfl, rfl, hp⟩
    · refine ⟨rfl, .inr ⟨by decide, 0, 0, by decide +kernel, by decide +kernel, fun p γ a wx _ hph hp hk => ?_⟩⟩
      obtain ⟨u1, hu1, ru1⟩ := hk.2.1 0 _ 3 rfl rfl (by decide +kernel)
      replace ru1 : u1 = _ := ru1
      subst ru1
      have hc : wx.cell? ⟨w.heap.size, 1, none⟩ = some (.slice x.aj x.nj x.cj) := by
        have h := hp.blk.cell 1
        simp only [List.getElem?_toArray, List.getElem?_cons_succ, List.getElem?_cons_zero] at h
        rw [h, if_neg (by omega)]
      simp [go_sem, Oper.wp, execOp, Act.eval, hu1, hc]
      exact ⟨_, rfl, rfl, hp⟩
    · refine ⟨rfl, .inl ⟨0, rfl, fun γ a wx hp hk => ?_⟩⟩
      obtain ⟨u1, hu1, ru1⟩ := hk.2.1 1 _ 4 rfl rfl (by decide +kernel)
      replace ru1 : u1 = _ := ru1
      subst ru1
      simp [go_sem, Oper.wp, execOp, Act.eval, hu1]
      refine (clone_job st.jobs x.aj x.nj x.cj wx (HS.out.j.below hp.below |>.more hp.below.size) HS.out.lj (by omega)).mono ?_
      rintro e w' ⟨A', c', rfl, ho, hb⟩
      rw [HS.out.lj] at ho ⊢
      exact ⟨_, rfl, { γ with aj := A', cj := c' }, ownV_tr 2 (fun h => absurd rfl h) (fun _ => ⟨rfl, rfl⟩) (fun _ => ⟨rfl, rfl⟩), rfl, { below := hp.below.trans (hb.mono hp.below.size), blk := Blk.eq (hp.blk.below hb hp.blk.lt) (by simp), res := hp.res.below hb hp.res.lt, j := fun _ => ownT_base ho (by have := hp.res.lt; omega), n := fun h => absurd h (by omega), l := fun h => absurd h (by omega) }⟩
    · refine ⟨rfl, .inr ⟨by decide, 0, 6, by decide +kernel, by decide +kernel, fun p γ a wx _ hph hp hk => ?_⟩⟩
      have h1 := hk.1 1 _ rfl (by decide +kernel)
      simp [go_sem, Oper.wp, execOp, Act.eval, h1]
      exact ⟨_, rfl, rfl, hp⟩
    · refine ⟨rfl, .inr ⟨by decide, 0, 1, by decide +kernel, by decide +kernel, fun p γ a wx _ hph hp hk => ?_⟩⟩
      obtain ⟨u1, hu1, ru1⟩ := hk.2.1 3 _ 6 rfl rfl (by decide +kernel)
      replace ru1 : u1 = _ := ru1
      subst ru1
      have hc : wx.cell? ⟨w.heap.size, 2, none⟩ = some (.slice x.an x.nn x.cn) := by
        have h := hp.blk.cell 2
        simp only [List.getElem?_toArray, List.getElem?_cons_succ, List.getElem?_cons_zero] at h
        rw [h, if_neg (by omega)]
      simp [go_sem, Oper.wp, execOp, Act.eval, hu1, hc]
      exact ⟨_, rfl, rfl, hp⟩
    · refine ⟨rfl, .inl ⟨1, rfl, fun γ a wx hp hk => ?_⟩⟩
      obtain ⟨u1, hu1, ru1⟩ := hk.2.1 4 _ 7 rfl rfl (by decide +kernel)
      replace ru1 : u1 = _ := ru1
      subst ru1
      simp [go_sem, Oper.wp, execOp, Act.eval, hu1]
      refine (clone_node st.nodes x.an x.nn x.cn wx (HS.out.n.below hp.below |>.more hp.below.size) HS.out.ln (by omega)).mono ?_
      rintro e w' ⟨A', c', rfl, ho, hb⟩
      rw [HS.out.ln] at ho ⊢
      exact ⟨_, rfl, { γ with an := A', cn := c' }, ownV_tr 5 (fun _ => ⟨rfl, rfl⟩) (fun h => absurd rfl h) (fun _ => ⟨rfl, rfl⟩), rfl, { below := hp.below.trans (hb.mono hp.below.size), blk := Blk.eq (hp.blk.below hb hp.blk.lt) (by simp), res := hp.res.below hb hp.res.lt, j := fun _ => ownU_below (hp.j (by omega)) hb, n := fun _ => ownT_base ho (by have := hp.res.lt; omega), l := fun h => absurd h (by omega) }⟩
    · refine ⟨rfl, .inr ⟨by decide, 0, 6, by decide +kernel, by decide +kernel, fun p γ a wx _ hph hp hk => ?_⟩⟩
      have h1 := hk.1 1 _ rfl (by decide +kernel)
      simp [go_sem, Oper.wp, execOp, Act.eval, h1]
      exact ⟨_, rfl, rfl, hp⟩
    · refine ⟨rfl, .inr ⟨by decide, 0, 2, by decide +kernel, by decide +kernel, fun p γ a wx _ hph hp hk => ?_⟩⟩
      obtain ⟨u1, hu1, ru1⟩ := hk.2.1 6 _ 9 rfl rfl (by decide +kernel)
      replace ru1 : u1 = _ := ru1
      subst ru1
      have hc : wx.cell? ⟨w.heap.size, 3, none⟩ = some (.slice x.al x.nl x.cl) := by
        have h := hp.blk.cell 3
        simp only [List.getElem?_toArray, List.getElem?_cons_succ, List.getElem?_cons_zero] at h
        rw [h, if_neg (by omega)]
      simp [go_sem, Oper.wp, execOp, Act.eval, hu1, hc]
      exact ⟨_, rfl, rfl, hp⟩
    · refine ⟨rfl, .inl ⟨2, rfl, fun γ a wx hp hk => ?_⟩⟩
      obtain ⟨u1, hu1, ru1⟩ := hk.2.1 7 _ 10 rfl rfl (by decide +kernel)
      replace ru1 : u1 = _ := ru1
      subst ru1
      simp [go_sem, Oper.wp, execOp, Act.eval, hu1]
      refine (clone_lease st.leases x.al x.nl x.cl wx (HS.out.l.below hp.below |>.more hp.below.size) HS.out.ll (by omega)).mono ?_
      rintro e w' ⟨A', c', rfl, ho, hb⟩
      rw [HS.out.ll] at ho ⊢
      exact ⟨_, rfl, { γ with al := A', cl := c' }, ownV_tr 8 (fun _ => ⟨rfl, rfl⟩) (fun _ => ⟨rfl, rfl⟩) (fun h => absurd rfl h), rfl, { below := hp.below.trans (hb.mono hp.below.size), blk := Blk.eq (hp.blk.below hb hp.blk.lt) (by simp), res := hp.res.below hb hp.res.lt, j := fun _ => ownU_below (hp.j (by omega)) hb, n := fun _ => ownU_below (hp.n (by omega)) hb, l := fun _ => ownT_base ho (by have := hp.res.lt; omega) }⟩
    · refine ⟨rfl, .inr ⟨by decide, 0, 6, by decide +kernel, by decide +kernel, fun p γ a wx _ hph hp hk => ?_⟩⟩
      have h1 := hk.1 1 _ rfl (by decide +kernel)
      simp [go_sem, Oper.wp, execOp, Act.eval, h1]
      exact ⟨_, rfl, rfl, hp⟩
    · refine ⟨rfl, .inl ⟨3, rfl, fun γ a wx hp hk => ?_⟩⟩
      obtain ⟨u1, hu1, ru1⟩ := hk.2.1 9 _ 12 rfl rfl (by decide +kernel)
      replace ru1 : u1 = _ := ru1
      subst ru1
      obtain ⟨u2, hu2, ru2⟩ := hk.2.1 2 _ 5 rfl rfl (by decide +kernel)
      replace ru2 : u2 = _ := ru2
      subst ru2
      have hc : wx.cell? ⟨w.heap.size, 1, none⟩ = some (.slice x.aj x.nj x.cj) := by
        have h := hp.blk.cell 1
        simp only [List.getElem?_toArray, List.getElem?_cons_succ, List.getElem?_cons_zero] at h
        rw [h, if_neg (by omega)]
      have hz : wx.frozen? ⟨w.heap.size, 1, none⟩ = false := hp.blk.thaw 1
      simp [go_sem, Oper.wp, execOp, Act.eval, hu1, hu2, hc, hz]
      exact ⟨.int .i64 0, γ, fun _ _ _ h => h, trivial, { below := grow_keep hp.below (grow_set wx w.heap.size 1 _) (Nat.le_refl _), blk := Blk.eq (hp.blk.set 1 _) rfl, res := grow_blk (grow_set wx w.heap.size 1 _) hp.res (by omega), j := fun _ => ownT_grow (hp.j (by omega)) (grow_set wx w.heap.size 1 _) (by omega), n := fun _ => ownT_grow (hp.n (by omega)) (grow_set wx w.heap.size 1 _) (by omega), l := fun _ => ownT_grow (hp.l (by omega)) (grow_set wx w.heap.size 1 _) (by omega) }⟩
    · refine ⟨rfl, .inr ⟨by decide, 0, 6, by decide +kernel, by decide +kernel, fun p γ a wx _ hph hp hk => ?_⟩⟩
      have h1 := hk.1 1 _ rfl (by decide +kernel)
      simp [go_sem, Oper.wp, execOp, Act.eval, h1]
      exact ⟨_, rfl, rfl, hp⟩
    · refine ⟨rfl, .inl ⟨4, rfl, fun γ a wx hp hk => ?_⟩⟩
      obtain ⟨u1, hu1, ru1⟩ := hk.2.1 11 _ 13 rfl rfl (by decide +kernel)
      replace ru1 : u1 = _ := ru1
      subst ru1
      obtain ⟨u2, hu2, ru2⟩ := hk.2.1 5 _ 8 rfl rfl (by decide +kernel)
      replace ru2 : u2 = _ := ru2
      subst ru2
      have hc : wx.cell? ⟨w.heap.size, 2, none⟩ = some (.slice x.an x.nn x.cn) := by
        have h := hp.blk.cell 2
        simp only [List.getElem?_toArray, List.getElem?_cons_succ, List.getElem?_cons_zero] at h
        rw [h, if_neg (by omega)]
      have hz : wx.frozen? ⟨w.heap.size, 2, none⟩ = false := hp.blk.thaw 2
      simp [go_sem, Oper.wp, execOp, Act.eval, hu1, hu2, hc, hz]
      exact ⟨.int .i64 0, γ, fun _ _ _ h => h, trivial, { below := grow_keep hp.below (grow_set wx w.heap.size 2 _) (Nat.le_refl _), blk := Blk.eq (hp.blk.set 2 _) rfl, res := grow_blk (grow_set wx w.heap.size 2 _) hp.res (by omega), j := fun _ => ownT_grow (hp.j (by omega)) (grow_set wx w.heap.size 2 _) (by omega), n := fun _ => ownT_grow (hp.n (by omega)) (grow_set wx w.heap.size 2 _) (by omega), l := fun _ => ownT_grow (hp.l (by omega)) (grow_set wx w.heap.size 2 _) (by omega) }⟩
    · refine ⟨rfl, .inr ⟨by decide, 0, 6, by decide +kernel, by decide +kernel, fun p γ a wx _ hph hp hk => ?_⟩⟩
      have h1 := hk.1 1 _ rfl (by decide +kernel)
      simp [go_sem, Oper.wp, execOp, Act.eval, h1]
      exact ⟨_, rfl, rfl, hp⟩
    · refine ⟨rfl, .inl ⟨5, rfl, fun γ a wx hp hk => ?_⟩⟩
      obtain ⟨u1, hu1, ru1⟩ := hk.2.1 13 _ 14 rfl rfl (by decide +kernel)
      replace ru1 : u1 = _ := ru1
      subst ru1
      obtain ⟨u2, hu2, ru2⟩ := hk.2.1 8 _ 11 rfl rfl (by decide +kernel)
      replace ru2 : u2 = _ := ru2
      subst ru2
      have hc : wx.cell? ⟨w.heap.size, 3, none⟩ = some (.slice x.al x.nl x.cl) := by
        have h := hp.blk.cell 3
        simp only [List.getElem?_toArray, List.getElem?_cons_succ, List.getElem?_cons_zero] at h
        rw [h, if_neg (by omega)]
      have hz : wx.frozen? ⟨w.heap.size, 3, none⟩ = false := hp.blk.thaw 3
      simp [go_sem, Oper.wp, execOp, Act.eval, hu1, hu2, hc, hz]
      exact ⟨.int .i64 0, γ, fun _ _ _ h => h, trivial, { below := grow_keep hp.below (grow_set wx w.heap.size 3 _) (Nat.le_refl _), blk := Blk.eq (hp.blk.set 3 _) rfl, res := grow_blk (grow_set wx w.heap.size 3 _) hp.res (by omega), j := fun _ => ownT_grow (hp.j (by omega)) (grow_set wx w.heap.size 3 _) (by omega), n := fun _ => ownT_grow (hp.n (by omega)) (grow_set wx w.heap.size 3 _) (by omega), l := fun _ => ownT_grow (hp.l (by omega)) (grow_set wx w.heap.size 3 _) (by omega) }⟩
  · intro γ a wx hd
    have hp : OwnAt w st x γ 6 3 wx := hd.ph
    obtain ⟨fv, rfl, -⟩ := hd.frame [3, 4, 5, 6, 7, 8, 9, 10, 11, 12, 13, 14] rfl
    have hB : Blk wx w.heap.size 26 #[.int .i64 st.rev, .slice γ.aj x.nj γ.cj, .slice γ.an x.nn γ.cn, .slice γ.al x.nl γ.cl] := hp.blk
    have hR := hp.res
    have hbl := hB.lt
    have hrl := hR.lt
    have b0 : wx.cell? ⟨w.heap.size, 0, none⟩ = some (.int .i64 st.rev) := hB.cell 0
    have b1 : wx.cell? ⟨w.heap.size, 1, none⟩ = some (.slice γ.aj x.nj γ.cj) := hB.cell 1
    have b2 : wx.cell? ⟨w.heap.size, 2, none⟩ = some (.slice γ.an x.nn γ.cn) := hB.cell 2
    have b3 : wx.cell? ⟨w.heap.size, 3, none⟩ = some (.slice γ.al x.nl γ.cl) := hB.cell 3
    have u0 : wx.frozen? ⟨w.heap.size + 1, 0, none⟩ = false := hR.thaw 0
    have s0 : wx.cell? ⟨w.heap.size + 1, 0, none⟩ = some (.int .i64 0) := hR.cell 0
    have u1 : wx.frozen? ⟨w.heap.size + 1, 1, none⟩ = false := hR.thaw 1
    have s1 : wx.cell? ⟨w.heap.size + 1, 1, none⟩ = some (.slice none 0 0) := hR.cell 1
    have u2 : wx.frozen? ⟨w.heap.size + 1, 2, none⟩ = false := hR.thaw 2
    have s2 : wx.cell? ⟨w.heap.size + 1, 2, none⟩ = some (.slice none 0 0) := hR.cell 2
    have u3 : wx.frozen? ⟨w.heap.size + 1, 3, none⟩ = false := hR.thaw 3
    have s3 : wx.cell? ⟨w.heap.size + 1, 3, none⟩ = some (.slice none 0 0) := hR.cell 3
    have hR4 := (Blk.eq ((Blk.eq ((Blk.eq ((Blk.eq (hR.set 0 (.int .i64 st.rev)) (show _ = #[.int .i64 st.rev, .slice none 0 0, .slice none 0 0, .slice none 0 0] from rfl)).set 1 (.slice γ.aj x.nj γ.cj)) (show _ = #[.int .i64 st.rev, .slice γ.aj x.nj γ.cj, .slice none 0 0, .slice none 0 0] from rfl)).set 2 (.slice γ.an x.nn γ.cn)) (show _ = #[.int .i64 st.rev, .slice γ.aj x.nj γ.cj, .slice γ.an x.nn γ.cn, .slice none 0 0] from rfl)).set 3 (.slice γ.al x.nl γ.cl)) (show _ = #[.int .i64 st.rev, .slice γ.aj x.nj γ.cj, .slice γ.an x.nn γ.cn, .slice γ.al x.nl γ.cl] from rfl))
    have q0 := (show _ = (some (.int .i64 st.rev) : Option Value) from hR4.cell 0)
    have q1 := (show _ = (some (.slice γ.aj x.nj γ.cj) : Option Value) from hR4.cell 1)
    have q2 := (show _ = (some (.slice γ.an x.nn γ.cn) : Option Value) from hR4.cell 2)
    have q3 := (show _ = (some (.slice γ.al x.nl γ.cl) : Option Value) from hR4.cell 3)
    have hG4 := (bes_set (bes_set (bes_set (bes_set (grow_refl wx (w.heap.size + 1)) 0 (.int .i64 st.rev)) 1 (.slice γ.aj x.nj γ.cj)) 2 (.slice γ.an x.nn γ.cn)) 3 (.slice γ.al x.nl γ.cl))
    have Hend := Lib.hid (show OwnPost st x w (.returned (.agg (stC st ⟨γ.aj, x.nj, γ.cj, γ.an, x.nn, γ.cn, γ.al, x.nl, γ.cl⟩))) _ from ⟨⟨γ.aj, x.nj, γ.cj, γ.an, x.nn, γ.cn, γ.al, x.nl, γ.cl⟩, rfl, rfl, rfl, rfl, ⟨ownT_grow (hp.j (by omega)) hG4 (by omega), ownT_grow (hp.n (by omega)) hG4 (by omega), ownT_grow (hp.l (by omega)) hG4 (by omega), HS.out.lj, HS.out.ln, HS.out.ll⟩, grow_keep hp.below hG4 (by omega)⟩)
    clear hd hp hB hR hR4 hG4 H0
    simp [Exit.then]
    go_wp2
    refine bodyPost_ret (v := .agg #[.int .i64 st.rev, .slice γ.aj x.nj γ.cj, .slice γ.an x.nn γ.cn, .slice γ.al x.nl γ.cl]) (by simp [results, Tryd.results46, go_sem, *]) rfl ?_
    exact Hend.out
end Go.Proofs.YtbbagnfmoecdfaaDoor
namespace Go.Proofs.YtbbagnfmoecdfaaDoor
open Go.RowKit
/-- A function value that answers a predicate of a row: whatever the world above. -/
def Answers {α : Type} (p : α → Bool) (F : FuncId) (caps : Array Value) (enc : α → List Value) (xs : List α) (w : World) : Prop :=
  ∀ W, Below w.heap.size w W → ∀ x ∈ xs, Calls Tryd.prog F (#[.agg (enc x).toArray] ++ caps) W fun e W' => e = .returned (.bool (p x)) ∧ Below W.heap.size W W'
def IxInv {α : Type} (p : α → Bool) (xs : List α) (n : Nat) (w : World) (i : Value) (wr : World) : Prop := ∃ k : Nat, k ≤ n ∧ i = .int .i64 k ∧ (xs.take k).any p = false ∧ Below w.heap.size w wr
def IxPost {α : Type} (p : α → Bool) (xs : List α) (w : World) (e : Ending) (w' : World) : Prop :=
  ∃ i : Int, e = .returned (.int .i64 i) ∧ Below w.heap.size w w' ∧ ((i = -1 ∧ xs.any p = false) ∨ (0 ≤ i ∧ xs.any p = true))
theorem any_hit {α : Type} {p : α → Bool} {xs : List α} {k : Nat} {x : α} (h : xs[k]? = some x) (hp : p x = true) : xs.any p = true := List.any_eq_true.2 ⟨x, List.mem_of_getElem? h, hp⟩
theorem any_miss {α : Type} {p : α → Bool} {xs : List α} {k : Nat} {x : α} (h : xs[k]? = some x) (ht : (xs.take k).any p = false) (hp : p x = false) : (xs.take (k + 1)).any p = false := by
  rw [List.take_add_one, h, List.any_append, ht]; simp [hp]
theorem any_out {α : Type} {p : α → Bool} {xs : List α} {k : Nat} (ht : (xs.take k).any p = false) (hk : xs.length ≤ k) : xs.any p = false := by rwa [List.take_of_length_le hk] at ht

set_option maxRecDepth 100000 in
set_option maxHeartbeats 1000000 in
theorem ixf_lease (p : LeaseD → Bool) (F : FuncId) (caps : Array Value) (xs : List LeaseD) (A : Option Addr) (n c : Nat) (w : World) (hent : ∀ args w, (callFunc F args).run Tryd.prog w = .ok (.enter F args) w) (hx : SlAt w w.heap.size 3 A n (rowsV leaseV xs)) (hl : xs.length = n) (hn : n ≤ 9223372036854775807) (hp : Answers p F caps leaseV xs w) :
    Calls Tryd.prog 135 #[.slice A n c, .func (.func F) #[] caps] w (IxPost p xs w) := by
  have Hl := Lib.hid hl
  have Hp := Lib.hid hp
  clear hl hp
  go_enter Tryd.func135, Tryd.ntmps135
  go_wp2
  go_loopw [4, 5, 8, 16] (fun _ _ i _ wr => IxInv p xs n w i wr) (fun _ _ i _ _ => n - (intOf i).toNat)
  case atStart => exact ⟨0, Nat.zero_le _, rfl, by simp, Below.refl _ _⟩
  case round =>
    obtain ⟨k, hk, rfl, hnone, hb⟩ := hrel
    have Hnone := Lib.hid hnone
    have Hb := Lib.hid hb
    have hsz := hb.size
    clear hnone
    by_cases hlt : k < n
    · obtain ⟨x, hf⟩ : ∃ x, xs[k]? = some x := ⟨_, List.getElem?_eq_getElem (by rw [Hl.out]; exact hlt)⟩
      obtain ⟨b, off, rfl, hbB, hc⟩ := (hx.below hb).rec_ leaseV_len Hl.out hf
      have Hf := Lib.hid hf
      have hcon := Lib.hid (Hp.out wr hb x (List.mem_of_getElem? hf))
      obtain ⟨t, ht⟩ : ∃ t, p x = t := ⟨_, rfl⟩
      rw [ht] at hcon
      have Ht := Lib.hid ht
      obtain ⟨job, node, till⟩ := x
      have c0 : wr.cell? ⟨b, off + k * 3, none⟩ = some (.string job) := hc 0 _ rfl
      have c1 : wr.cell? ⟨b, off + k * 3 + 1, none⟩ = some (.string node) := hc 1 _ rfl
      have c2 : wr.cell? ⟨b, off + k * 3 + 2, none⟩ = some (.int .i64 till) := hc 2 _ rfl
      have hcon := Lib.hid (show Calls Tryd.prog F (#[.agg #[.string job, .string node, .int .i64 till]] ++ caps) wr fun e W' => e = .returned (.bool t) ∧ Below wr.heap.size wr W' from hcon.out)
      clear hc hf hx hb ht
      have hlb : b < wr.heap.size := by omega
      go_wp2_with fail
      refine Calls.mono hcon.out ?_
      rintro e w2 ⟨rfl, hb2⟩
      have Hb2 := Lib.hid (Hb.out.trans (hb2.mono Hb.out.size))
      clear hcon hb2
      cases t
      · have fin := Lib.hid (any_miss Hf.out Hnone.out Ht.out)
        go_wp2
        go_roundw
        case rel => exact ⟨k + 1, by omega, by go_num, fin.out, Hb2.out⟩
        case measure => simp [intOf]; omega
      · have fin := Lib.hid (any_hit Hf.out Ht.out)
        go_wp2
        go_ret
        exact ⟨_, rfl, Hb2.out, .inr ⟨by omega, fin.out⟩⟩
    · have fin := Lib.hid (any_out Hnone.out (by rw [Hl.out]; omega))
      clear hx
      go_wp2
      go_ret
      exact ⟨_, rfl, Hb.out, .inl ⟨rfl, fin.out⟩⟩
set_option maxRecDepth 100000 in
theorem hasf_lease (p : LeaseD → Bool) (F : FuncId) (caps : Array Value) (xs : List LeaseD) (A : Option Addr) (n c : Nat) (w : World) (hent : ∀ args w, (callFunc F args).run Tryd.prog w = .ok (.enter F args) w) (hx : SlAt w w.heap.size 3 A n (rowsV leaseV xs)) (hl : xs.length = n) (hn : n ≤ 9223372036854775807) (hp : Answers p F caps leaseV xs w) :
    Calls Tryd.prog 120 #[.slice A n c, .func (.func F) #[] caps] w fun e w' => e = .returned (.bool (xs.any p)) ∧ Below w.heap.size w w' := by
  have hC := Lib.hid (ixf_lease p F caps xs A n c w hent hx hl hn hp)
  clear hx hl hn hp hent
  go_enter Tryd.func120, Tryd.ntmps120
  go_wp2_with fail
  refine Calls.mono hC.out ?_
  rintro e w2 ⟨i, rfl, hb2, hcase⟩
  rcases hcase with ⟨rfl, hn⟩ | ⟨hi, hn⟩
  · go_wp2
    go_ret
    exact ⟨ret_bool hn.symm, hb2⟩
  · have d0 : decide (0 ≤ i) = true := decide_eq_true hi
    go_wp2
    go_ret
    exact ⟨ret_bool hn.symm, hb2⟩
end Go.Proofs.YtbbagnfmoecdfaaDoor
namespace Go.Proofs.YtbbagnfmoecdfaaDoor
def dash : ByteArray := ⟨#[45]⟩
def upJ (ls : List LeaseD) (j : JobD) : JobD := { j with tries := if ls.any (fun l => decide (l.job = j.name)) then 1 else 0 }
def upN (n : NodeD) : NodeD := { n with zone := dash }
/-- The step to a version. -/
def stepSt (st : StateD) (v : Int) : StateD := if v = 2 then ⟨st.rev, st.jobs.map (upJ st.leases), st.nodes.map upN, st.leases⟩ else if v = 3 then { st with rev := 1 } else st
def upSt (st : StateD) (a b : Int) : StateD := ⟨if a < 3 ∧ b = 3 then 1 else st.rev, if a < 2 ∧ 1 < b then st.jobs.map (upJ st.leases) else st.jobs, if a < 2 ∧ 1 < b then st.nodes.map upN else st.nodes, st.leases⟩
def isWayB (a b : Int) : Bool := decide (1 ≤ a) && decide (a ≤ b) && decide (b ≤ 3)
/-- What State answers. -/
def upF (st : StateD) (a b : Int) : StateD × Int := if isWayB a b = false then (zeroSt, 1) else if checkE st ≠ 0 then (zeroSt, checkE st) else if fitsE st a = false then (zeroSt, 4) else (upSt st a b, 0)
theorem upSt_self {st : StateD} {a : Int} (h : a ≤ 3) : upSt st a a = st := by
  unfold upSt
  rw [if_neg (by omega), if_neg (by omega), if_neg (by omega)]
/-- One step more. -/
theorem upSt_step {st : StateD} {a v : Int} (ha : 1 ≤ a) (h : a < v) (hv : v ≤ 3) : stepSt (upSt st a (v - 1)) v = upSt st a v := by
  rcases (show v = 2 ∨ v = 3 by omega) with rfl | rfl
  · obtain rfl : a = 1 := by omega
    unfold stepSt
    rw [if_pos rfl]
    rfl
  · unfold stepSt
    rw [if_neg (by decide), if_pos rfl]
    unfold upSt
    by_cases h2 : a < 2
    · simp [h2, show a < 3 by omega]
    · simp [h2, show a < 3 by omega]
theorem upF_way {st : StateD} {a b : Int} (h : isWayB a b = false) : upF st a b = (zeroSt, 1) := by unfold upF; rw [if_pos h]
theorem upF_check {st : StateD} {a b : Int} (h : isWayB a b = true) (h2 : checkE st ≠ 0) : upF st a b = (zeroSt, checkE st) := by unfold upF; rw [if_neg (by rw [h]; simp), if_pos h2]
theorem upF_form {st : StateD} {a b : Int} (h : isWayB a b = true) (h2 : checkE st = 0) (h3 : fitsE st a = false) : upF st a b = (zeroSt, 4) := by unfold upF; rw [if_neg (by rw [h]; simp), if_neg (by simp [h2]), if_pos h3]
theorem upF_ok {st : StateD} {a b : Int} (h : isWayB a b = true) (h2 : checkE st = 0) (h3 : fitsE st a = true) : upF st a b = (upSt st a b, 0) := by unfold upF; rw [if_neg (by rw [h]; simp), if_neg (by simp [h2]), if_neg (by rw [h3]; simp)]
theorem fits_tries {st : StateD} (h : fitsE st 1 = true) : ∀ j ∈ st.jobs, j.tries = 0 := by
  intro j hj
  unfold fitsE at h
  simp only [Bool.and_eq_true] at h
  have := List.all_eq_true.1 h.1.2 j hj
  unfold okJ at this
  simp at this
  exact this.2
end Go.Proofs.YtbbagnfmoecdfaaDoor
namespace Go.Proofs.YtbbagnfmoecdfaaDoor
open Go.RowKit
set_option maxRecDepth 100000 in
set_option maxHeartbeats 2000000 in
theorem stepcl_is (job node : ByteArray) (till : Int) (S I b off n c k : Nat) (name : ByteArray) (w : World) (hS : w.cell? ⟨S, 1, none⟩ = some (.slice (some ⟨b, off, none⟩) n c)) (hI : w.cell? ⟨I, 0, none⟩ = some (.int .i64 k)) (hk : k < n) (hn : n ≤ 1000) (hc : w.cell? ⟨b, off + k * 5, none⟩ = some (.string name)) :
    Calls Tryd.prog 121 #[.agg #[.string job, .string node, .int .i64 till], .pointer (some ⟨S, 0, none⟩), .pointer (some ⟨I, 0, none⟩)] w fun e w' => e = .returned (.bool (decide (job = name))) ∧ Below w.heap.size w w' := by
  rw [← beq_dec]
  have hb0 := (Below.refl w.heap.size w).alloc (Nat.le_refl _) (.cells #[.string job, .string node, .int .i64 till] 59)
  have hSl := block_lt_of_cell hS
  have hIl := block_lt_of_cell hI
  have hcl := block_lt_of_cell hc
  generalize hw1 : w.alloc (.cells #[.string job, .string node, .int .i64 till] 59) = w1 at hb0
  have b0 := fun d os => cell_regrown (show w1.cell? ⟨w.heap.size, 0, none⟩ = some (.string job) by rw [← hw1]; simp [go_sem]) d os
  have s0 := fun d os => cell_regrown ((hb0.cell (p := ⟨S, 1, none⟩) hSl).trans hS) d os
  have i0 := fun d os => cell_regrown ((hb0.cell (p := ⟨I, 0, none⟩) hIl).trans hI) d os
  have c0 := fun d os => cell_regrown ((hb0.cell (p := ⟨b, off + k * 5, none⟩) hcl).trans hc) d os
  have Hb0 := Lib.hid hb0
  have HW := Lib.hid hw1
  clear hb0 hw1 hS hI hc hSl hIl hcl
  go_enter Tryd.func121, Tryd.ntmps121
  go_wp2_with fail
  rw [HW.out]
  refine wp_region_quiet_below (by kernel_rfl) (by kernel_rfl) ?_
  repeat (go_big_quiet_step ((fail)))
  refine wpQuiet_nil ?_
  intro _ hw'
  obtain ⟨⟨nq, osq⟩, hw''⟩ := hw'
  subst hw''
  have hb2 := Lib.hid (Hb0.out.trans ((below_regrown w1 nq osq).mono Hb0.out.size))
  clear b0 s0 i0 c0
  dsimp only
  generalize Sort.grow (redrawn w1 nq) osq = w2 at hb2 ⊢
  go_wp2
  go_ret
  exact ⟨rfl, hb2.out⟩
section
variable {α : Type} {f : α → α} {l : List α} {k : Nat} {y : α}
def mapK (f : α → α) (l : List α) (k : Nat) : List α := (l.take k).map f ++ l.drop k
theorem mapK_get (f : α → α) (l : List α) (k : Nat) : (mapK f l k)[k]? = l[k]? := by
  unfold mapK
  by_cases h : k ≤ l.length
  · rw [List.getElem?_append_right (by simp; omega), List.getElem?_drop]
    congr 1
    simp; omega
  · rw [List.getElem?_eq_none (by simp; omega), List.getElem?_eq_none (by omega)]
theorem mapK_len (f : α → α) (l : List α) (k : Nat) : (mapK f l k).length = l.length := by unfold mapK; simp; omega
theorem mapK_zero (f : α → α) (l : List α) : mapK f l 0 = l := rfl
theorem mapK_all (f : α → α) {l : List α} {k : Nat} (h : l.length ≤ k) : mapK f l k = l.map f := by unfold mapK; rw [List.take_of_length_le h, List.drop_of_length_le h, List.append_nil]
theorem mapK_eq (h : l[k]? = some y) : mapK f l k = (l.take k).map f ++ y :: l.drop (k + 1) := by unfold mapK; rw [drop_cons h]
theorem mapK_succ (h : l[k]? = some y) : mapK f l (k + 1) = (l.take k).map f ++ f y :: l.drop (k + 1) := by unfold mapK; rw [List.take_add_one, h]; simp
theorem mapK_same (h : l[k]? = some y) (hf : f y = y) : mapK f l (k + 1) = mapK f l k := by rw [mapK_succ h, mapK_eq h, hf]
theorem mapK_set (h : l[k]? = some y) : (mapK f l k).set k (f y) = mapK f l (k + 1) := by
  have hk : ((l.take k).map f).length = k := by
    have := (List.getElem?_eq_some_iff.1 h).1
    simp; omega
  rw [mapK_succ h, mapK_eq h, List.set_append_right _ _ (by omega), hk, Nat.sub_self, List.set_cons_zero]
end
/-- On the way through step: the box of the state, the result's box, the rows as they stand. -/
structure StepAt (w0 wr : World) (base S : Nat) (cs : Array Value) (st : StateD) (x : StA) : Prop where
  below : Below base w0 wr
  box : Blk wr S 26 cs
  res : Blk wr (S + 1) 26 #[.int .i64 0, .slice none 0 0, .slice none 0 0, .slice none 0 0]
  own : StOwn wr base st x
theorem StOwn.kept {w w' : World} {base : Nat} {st : StateD} {x : StA} (h : StOwn w base st x) (hb : Below w.heap.size w w') : StOwn w' base st x :=
  ⟨ownU_below h.j hb, ownU_below h.n hb, ownU_below h.l hb, h.lj, h.ln, h.ll⟩
theorem StepAt.kept {w0 w w' : World} {base S : Nat} {cs : Array Value} {st : StateD} {x : StA} (h : StepAt w0 w base S cs st x) (hb : Below w.heap.size w w') (h0 : base ≤ w.heap.size) : StepAt w0 w' base S cs st x :=
  ⟨h.below.trans (hb.mono h0), h.box.below hb h.box.lt, h.res.below hb h.res.lt, h.own.kept hb⟩
def StepPost (st st' : StateD) (x : StA) (base : Nat) (w : World) (e : Ending) (w' : World) : Prop := e = .returned (.agg (stC st' x)) ∧ StOwn w' base st' x ∧ Below base w w'
theorem stepSt_2 (st : StateD) : stepSt st 2 = ⟨st.rev, st.jobs.map (upJ st.leases), st.nodes.map upN, st.leases⟩ := if_pos rfl
theorem stepSt_3 (st : StateD) : stepSt st 3 = { st with rev := 1 } := by unfold stepSt; rw [if_neg (by decide), if_pos rfl]
theorem upJ_yes {ls : List LeaseD} {j : JobD} (h : (ls.any fun l => decide (l.job = j.name)) = true) : upJ ls j = { j with tries := 1 } := by unfold upJ; rw [h]; rfl
theorem upJ_no {ls : List LeaseD} {j : JobD} (h : (ls.any fun l => decide (l.job = j.name)) = false) (h0 : j.tries = 0) : upJ ls j = j := by unfold upJ; rw [h, if_neg (by simp), ← h0]
set_option maxRecDepth 100000 in
set_option maxHeartbeats 4000000 in
theorem step3_any (st : StateD) (x : StA) (base : Nat) (w : World) (hO : StOwn w base st x) (hbw : base ≤ w.heap.size) (h1 : x.nj ≤ 1000) (h2 : x.nn ≤ 1000) (h3 : x.nl ≤ 1000) :
    Calls Tryd.prog 86 #[.agg (stC st x), .int .i64 3] w (StepPost st (stepSt st 3) x base w) := by
  rw [stepSt_3]
  have hb1 : Below w.heap.size w (w.alloc (.cells (stC st x) 26)) := (Below.refl _ _).alloc (Nat.le_refl _) _
  have hb2 := hb1.alloc hb1.size (.cells #[.int .i64 0, .slice none 0 0, .slice none 0 0, .slice none 0 0] 26)
  have HST := Lib.hid (show StepAt w ((w.alloc (.cells (stC st x) 26)).alloc (.cells #[.int .i64 0, .slice none 0 0, .slice none 0 0, .slice none 0 0] 26)) base w.heap.size (stC st x) st x from
    ⟨hb2.mono hbw, Blk.alloc (show Blk _ _ _ _ from heap_alloc_new w _) _, by
      have h := heap_alloc_new (w.alloc (.cells (stC st x) 26)) (.cells #[.int .i64 0, .slice none 0 0, .slice none 0 0, .slice none 0 0] 26)
      rw [show (w.alloc (.cells (stC st x) 26)).heap.size = w.heap.size + 1 by simp] at h
      exact h, hO.kept hb2⟩)
  clear hb1 hb2
  obtain ⟨rev, jobs, nodes, leases⟩ := st
  obtain ⟨aj, nj, cj, an, nn, cn, al, nl, cl⟩ := x
  unfold stC at *
  dsimp only at *
  go_enter Tryd.func86, Tryd.ntmps86
  have hA1 : Below w.heap.size w (w.alloc (.cells #[.int .i64 1, .slice aj nj cj, .slice an nn cn, .slice al nl cl] 26)) := (Below.refl _ _).alloc (Nat.le_refl _) _
  have hA2 := hA1.alloc hA1.size (.cells #[.int .i64 1, .slice aj nj cj, .slice an nn cn, .slice al nl cl] 26)
  have Hend := Lib.hid (show StepPost ⟨rev, jobs, nodes, leases⟩ ⟨1, jobs, nodes, leases⟩ ⟨aj, nj, cj, an, nn, cn, al, nl, cl⟩ base w (.returned (.agg #[.int .i64 1, .slice aj nj cj, .slice an nn cn, .slice al nl cl])) _ from ⟨rfl, ⟨ownU_below hO.j hA2, ownU_below hO.n hA2, ownU_below hO.l hA2, hO.lj, hO.ln, hO.ll⟩, hA2.mono hbw⟩)
  clear hA1 hA2 hO HST
  go_wp2
  refine bodyPost_ret (v := .agg #[.int .i64 1, .slice aj nj cj, .slice an nn cn, .slice al nl cl]) (by simp [results, Tryd.results86, go_sem]) rfl ?_
  exact Hend.out
set_option maxRecDepth 100000 in
set_option maxHeartbeats 4000000 in
theorem step2_any (st : StateD) (x : StA) (base : Nat) (w : World) (hO : StOwn w base st x) (hbw : base ≤ w.heap.size) (h1 : x.nj ≤ 1000) (h2 : x.nn ≤ 1000) (h3 : x.nl ≤ 1000) (htr : ∀ j ∈ st.jobs, j.tries = 0) :
    Calls Tryd.prog 86 #[.agg (stC st x), .int .i64 2] w (StepPost st (stepSt st 2) x base w) := by
  rw [stepSt_2]
  have hb1 : Below w.heap.size w (w.alloc (.cells (stC st x) 26)) := (Below.refl _ _).alloc (Nat.le_refl _) _
  have hb2 := hb1.alloc hb1.size (.cells #[.int .i64 0, .slice none 0 0, .slice none 0 0, .slice none 0 0] 26)
  have HST := Lib.hid (show StepAt w ((w.alloc (.cells (stC st x) 26)).alloc (.cells #[.int .i64 0, .slice none 0 0, .slice none 0 0, .slice none 0 0] 26)) base w.heap.size (stC st x) st x from
    ⟨hb2.mono hbw, Blk.alloc (show Blk _ _ _ _ from heap_alloc_new w _) _, by
      have h := heap_alloc_new (w.alloc (.cells (stC st x) 26)) (.cells #[.int .i64 0, .slice none 0 0, .slice none 0 0, .slice none 0 0] 26)
      rw [show (w.alloc (.cells (stC st x) 26)).heap.size = w.heap.size + 1 by simp] at h
      exact h, hO.kept hb2⟩)
  clear hb1 hb2 hO
  obtain ⟨rev, jobs, nodes, leases⟩ := st
  obtain ⟨aj, nj, cj, an, nn, cn, al, nl, cl⟩ := x
  unfold stC at *
  dsimp only at *
  go_enter Tryd.func86, Tryd.ntmps86
  have Htr := Lib.hid htr
  have y1 := HST.out.box.cell 1
  clear htr
  have hnj : jobs.length = nj := HST.out.own.lj
  have hnn : nodes.length = nn := HST.out.own.ln
  have hnl : leases.length = nl := HST.out.own.ll
  have y1 : ((w.alloc (.cells #[.int .i64 rev, .slice aj nj cj, .slice an nn cn, .slice al nl cl] 26)).alloc (.cells #[.int .i64 0, .slice none 0 0, .slice none 0 0, .slice none 0 0] 26)).cell? ⟨w.heap.size, 1, none⟩ = some (.slice aj nj cj) := HST.out.box.cell 1
  go_wp2
  go_loopw [13] (fun i wr => ∃ k : Nat, k ≤ nj ∧ i = .int .i64 k ∧ StepAt w wr base w.heap.size #[.int .i64 rev, .slice aj nj cj, .slice an nn cn, .slice al nl cl] ⟨rev, mapK (upJ leases) jobs k, nodes, leases⟩ ⟨aj, nj, cj, an, nn, cn, al, nl, cl⟩) (fun i _ => nj - (intOf i).toNat)
  case atStart => exact ⟨0, Nat.zero_le _, rfl, HST.out⟩
  case round =>
    clear HST y1
    obtain ⟨k, hk, rfl, hst⟩ := hrel
    have HS := Lib.hid hst
    have hbr : base ≤ wr.heap.size := Nat.le_trans hbw hst.below.size
    have hbl := hst.box.lt
    clear hst
    by_cases hlt : k < nj
    · obtain ⟨y, hf⟩ : ∃ y, jobs[k]? = some y := ⟨_, List.getElem?_eq_getElem (by omega)⟩
      have hfk : (mapK (upJ leases) jobs k)[k]? = some y := by rw [mapK_get]; exact hf
      obtain ⟨b, off, hao, hbb, hbs, hc⟩ := own_rec jobV_len HS.out.own.j HS.out.own.lj hfk
      dsimp only at hao
      subst hao
      have hA2 : Below wr.heap.size wr (wr.alloc (.cells #[.int .i64 k] 3)) := (Below.refl _ _).alloc (Nat.le_refl _) _
      have hI : Blk (wr.alloc (.cells #[.int .i64 k] 3)) wr.heap.size 3 #[.int .i64 k] := heap_alloc_new wr _
      have Htry := Lib.hid (Htr.out y (List.mem_of_getElem? hf))
      obtain ⟨name, prio, need, tries, tag⟩ := y
      have c0 : wr.cell? ⟨b, off + k * 5, none⟩ = some (.string name) := hc 0 _ rfl
      have c3 : wr.cell? ⟨b, off + k * 5 + 3, none⟩ = some (.int .i64 tries) := hc 3 _ rfl
      have s1 : wr.cell? ⟨w.heap.size, 1, none⟩ = some (.slice (some ⟨b, off, none⟩) nj cj) := HS.out.box.cell 1
      have s3 : wr.cell? ⟨w.heap.size, 3, none⟩ = some (.slice al nl cl) := HS.out.box.cell 3
      have HSA := HS.out.kept hA2 hbr
      generalize hWA : (wr.alloc (.cells #[.int .i64 k] 3)) = WA at hA2 hI HSA
      have hla : wr.heap.size < WA.heap.size := hI.lt
      have a0 : WA.cell? ⟨b, off + k * 5, none⟩ = some (.string name) := (hA2.cell (p := ⟨b, off + k * 5, none⟩) hbs).trans c0
      have a3 : WA.cell? ⟨b, off + k * 5 + 3, none⟩ = some (.int .i64 tries) := (hA2.cell (p := ⟨b, off + k * 5 + 3, none⟩) hbs).trans c3
      have as3 : WA.cell? ⟨w.heap.size, 3, none⟩ = some (.slice al nl cl) := HSA.box.cell 3
      have hP : Answers (fun l : LeaseD => decide (l.job = name)) 121 #[.pointer (some ⟨w.heap.size, 0, none⟩), .pointer (some ⟨wr.heap.size, 0, none⟩)] leaseV leases WA := by
        intro W hW l hl
        obtain ⟨lj, ln, lt⟩ := l
        exact stepcl_is lj ln lt w.heap.size wr.heap.size b off nj cj k name W ((HSA.box.below hW HSA.box.lt).cell 1) ((hI.below hW hI.lt).cell 0) hlt h1 ((hW.cell (p := ⟨b, off + k * 5, none⟩) (by show b < _; omega)).trans a0)
      have hCF := hasf_lease (fun l : LeaseD => decide (l.job = name)) 121 #[.pointer (some ⟨w.heap.size, 0, none⟩), .pointer (some ⟨wr.heap.size, 0, none⟩)] leases al nl cl WA (Go.Proofs.enters_of Tryd.func121 (by kernel_rfl) rfl) (own_slAt HSA.own.l) HSA.own.ll (by omega) hP
      have HCF := Lib.hid hCF
      have HSAh := Lib.hid HSA
      have HI := Lib.hid hI
      have HWA := Lib.hid hWA
      have HA3 := Lib.hid a3
      have Hf := Lib.hid hf
      have Hfk := Lib.hid hfk
      have hmf : ∀ (fn : Fn) (first cap : Array Value) (w : World), (Instr.makeFunc fn first cap).run Tryd.prog w = .ok (.func fn first cap) w := fun _ _ _ _ => rfl
      clear hA2 hI HSA hWA hP hCF hc c0 c3 a0 a3 hf hfk s1
      go_wp2_with fail
      rw [HWA.out]
      refine Calls.mono HCF.out ?_
      rintro e w2 ⟨rfl, hb2⟩
      have HS2 := Lib.hid (HSAh.out.kept hb2 (by omega))
      have hi2 := HI.out.below hb2 HI.out.lt
      have i0 : w2.cell? ⟨wr.heap.size, 0, none⟩ = some (.int .i64 k) := hi2.cell 0
      have hil := hi2.lt
      have t1 : w2.cell? ⟨w.heap.size, 1, none⟩ = some (.slice (some ⟨b, off, none⟩) nj cj) := HS2.out.box.cell 1
      have d3 : w2.cell? ⟨b, off + k * 5 + 3, none⟩ = some (.int .i64 tries) := (hb2.cell (p := ⟨b, off + k * 5 + 3, none⟩) (by show b < _; omega)).trans HA3.out
      have hs2 := hb2.size
      have hbl2 := HS2.out.box.lt
      clear hb2 hi2 HCF HSAh HI HWA HA3 HS as3 s3
      cases hany : leases.any (fun l => decide (l.job = name))
      · have HS3 := Lib.hid (show StepAt w w2 base w.heap.size #[.int .i64 rev, .slice (some ⟨b, off, none⟩) nj cj, .slice an nn cn, .slice al nl cl] ⟨rev, mapK (upJ leases) jobs (k + 1), nodes, leases⟩ ⟨some ⟨b, off, none⟩, nj, cj, an, nn, cn, al, nl, cl⟩ from by
          rw [mapK_same Hf.out (upJ_no hany Htry.out)]; exact HS2.out)
        clear hany t1 i0 d3
        go_wp2
        go_roundw
        case rel => exact ⟨k + 1, by omega, by go_num, HS3.out⟩
        case measure => simp [intOf]; omega
      · obtain ⟨ho, hz, hbs2, hbb2, ccs, hblk⟩ := own_setAt HS2.out.own.j (k * 5 + 3) (by dsimp only; omega) (.int .i64 1)
        have hset := rowsV_set jobV_len (mapK (upJ leases) jobs k) k 3 ⟨name, prio, need, tries, tag⟩ (upJ leases ⟨name, prio, need, tries, tag⟩) (.int .i64 1) Hfk.out (by omega) (by rw [upJ_yes hany]; rfl)
        rw [mapK_set Hf.out] at hset
        dsimp only at ho hz hblk
        rw [hset, ← Nat.add_assoc] at ho
        rw [← Nat.add_assoc] at hz
        have HS3 := Lib.hid (show StepAt w (w2.setCell ⟨b, off + k * 5 + 3, none⟩ (.int .i64 1)) base w.heap.size #[.int .i64 rev, .slice (some ⟨b, off, none⟩) nj cj, .slice an nn cn, .slice al nl cl] ⟨rev, mapK (upJ leases) jobs (k + 1), nodes, leases⟩ ⟨some ⟨b, off, none⟩, nj, cj, an, nn, cn, al, nl, cl⟩ from
          ⟨below_setB HS2.out.below hbb2, blk_setOther HS2.out.box hblk (by decide), blk_setOther HS2.out.res hblk (by decide), ⟨ho, own_setOther HS2.out.own.n hblk (by decide), own_setOther HS2.out.own.l hblk (by decide), by show _ = nj; rw [mapK_len]; exact hnj, hnn, hnl⟩⟩)
        clear hany ho hset hblk HS2
        go_wp2
        go_roundw
        case rel => exact ⟨k + 1, by omega, by go_num, HS3.out⟩
        case measure => simp [intOf]; omega
    · obtain rfl : k = nj := by omega
      have hst := HS.out
      rw [mapK_all _ (by omega)] at hst
      have HSB := Lib.hid hst
      have y2 : wr.cell? ⟨w.heap.size, 2, none⟩ = some (.slice an nn cn) := hst.box.cell 2
      clear hst HS
      go_wp2
      go_loopw [29] (fun i wr => ∃ q : Nat, q ≤ nn ∧ i = .int .i64 q ∧ StepAt w wr base w.heap.size #[.int .i64 rev, .slice aj k cj, .slice an nn cn, .slice al nl cl] ⟨rev, jobs.map (upJ leases), mapK upN nodes q, leases⟩ ⟨aj, k, cj, an, nn, cn, al, nl, cl⟩) (fun i _ => nn - (intOf i).toNat)
      case atStart => exact ⟨0, Nat.zero_le _, rfl, HSB.out⟩
      case round =>
        clear HSB y2 hbr hbl
        obtain ⟨q, hq, rfl, hst⟩ := hrel
        have HS := Lib.hid hst
        have hbr : base ≤ wr.heap.size := Nat.le_trans hbw hst.below.size
        have hbl := hst.box.lt
        clear hst
        by_cases hltq : q < nn
        · obtain ⟨y, hf⟩ : ∃ y, nodes[q]? = some y := ⟨_, List.getElem?_eq_getElem (by omega)⟩
          have hfk : (mapK upN nodes q)[q]? = some y := by rw [mapK_get]; exact hf
          obtain ⟨b, off, hao, hbb, hbs, hc⟩ := own_rec nodeV_len HS.out.own.n HS.out.own.ln hfk
          dsimp only at hao
          subst hao
          obtain ⟨ho, hz, hbs2, hbb2, ccs, hblk⟩ := own_setAt HS.out.own.n (q * 3 + 2) (by dsimp only; omega) (.string ⟨#[45]⟩)
          obtain ⟨name, room, zone⟩ := y
          have hset := rowsV_set nodeV_len (mapK upN nodes q) q 2 ⟨name, room, zone⟩ (upN ⟨name, room, zone⟩) (.string ⟨#[45]⟩) hfk (by omega) rfl
          rw [mapK_set hf] at hset
          dsimp only at ho hz hblk
          rw [hset, ← Nat.add_assoc] at ho
          rw [← Nat.add_assoc] at hz
          have c2 : wr.cell? ⟨b, off + q * 3 + 2, none⟩ = some (.string zone) := hc 2 _ rfl
          have s2 : wr.cell? ⟨w.heap.size, 2, none⟩ = some (.slice (some ⟨b, off, none⟩) nn cn) := HS.out.box.cell 2
          have HS3 := Lib.hid (show StepAt w (wr.setCell ⟨b, off + q * 3 + 2, none⟩ (.string ⟨#[45]⟩)) base w.heap.size #[.int .i64 rev, .slice aj k cj, .slice (some ⟨b, off, none⟩) nn cn, .slice al nl cl] ⟨rev, jobs.map (upJ leases), mapK upN nodes (q + 1), leases⟩ ⟨aj, k, cj, some ⟨b, off, none⟩, nn, cn, al, nl, cl⟩ from
            ⟨below_setB HS.out.below hbb2, blk_setOther HS.out.box hblk (by decide), blk_setOther HS.out.res hblk (by decide), ⟨own_setOther HS.out.own.j hblk (by decide), ho, own_setOther HS.out.own.l hblk (by decide), HS.out.own.lj, by show _ = nn; rw [mapK_len]; exact hnn, hnl⟩⟩)
          clear hf hfk hc ho hset hblk HS
          go_wp2
          go_roundw
          case rel => exact ⟨q + 1, by omega, by go_num, HS3.out⟩
          case measure => simp [intOf]; omega
        · obtain rfl : q = nn := by omega
          have hst := HS.out
          rw [mapK_all _ (by omega)] at hst
          clear HS
          have hB := hst.box
          have hR := hst.res
          have hrl := hR.lt
          have hbl := hB.lt
          have b0 : wr.cell? ⟨w.heap.size, 0, none⟩ = some (.int .i64 rev) := hB.cell 0
          have b1 : wr.cell? ⟨w.heap.size, 1, none⟩ = some (.slice aj k cj) := hB.cell 1
          have b2 : wr.cell? ⟨w.heap.size, 2, none⟩ = some (.slice an q cn) := hB.cell 2
          have b3 : wr.cell? ⟨w.heap.size, 3, none⟩ = some (.slice al nl cl) := hB.cell 3
          have u0 : wr.frozen? ⟨w.heap.size + 1, 0, none⟩ = false := hR.thaw 0
          have s0 : wr.cell? ⟨w.heap.size + 1, 0, none⟩ = some (.int .i64 0) := hR.cell 0
          have u1 : wr.frozen? ⟨w.heap.size + 1, 1, none⟩ = false := hR.thaw 1
          have s1 : wr.cell? ⟨w.heap.size + 1, 1, none⟩ = some (.slice none 0 0) := hR.cell 1
          have u2 : wr.frozen? ⟨w.heap.size + 1, 2, none⟩ = false := hR.thaw 2
          have s2 : wr.cell? ⟨w.heap.size + 1, 2, none⟩ = some (.slice none 0 0) := hR.cell 2
          have u3 : wr.frozen? ⟨w.heap.size + 1, 3, none⟩ = false := hR.thaw 3
          have s3 : wr.cell? ⟨w.heap.size + 1, 3, none⟩ = some (.slice none 0 0) := hR.cell 3
          have hR4 := (Blk.eq ((Blk.eq ((Blk.eq ((Blk.eq (hR.set 0 (.int .i64 rev)) (show _ = #[.int .i64 rev, .slice none 0 0, .slice none 0 0, .slice none 0 0] from rfl)).set 1 (.slice aj k cj)) (show _ = #[.int .i64 rev, .slice aj k cj, .slice none 0 0, .slice none 0 0] from rfl)).set 2 (.slice an q cn)) (show _ = #[.int .i64 rev, .slice aj k cj, .slice an q cn, .slice none 0 0] from rfl)).set 3 (.slice al nl cl)) (show _ = #[.int .i64 rev, .slice aj k cj, .slice an q cn, .slice al nl cl] from rfl))
          have q0 := (show _ = (some (.int .i64 rev) : Option Value) from hR4.cell 0)
          have q1 := (show _ = (some (.slice aj k cj) : Option Value) from hR4.cell 1)
          have q2 := (show _ = (some (.slice an q cn) : Option Value) from hR4.cell 2)
          have q3 := (show _ = (some (.slice al nl cl) : Option Value) from hR4.cell 3)
          have hOw := hst.own
          have Hend := Lib.hid (show StepPost ⟨rev, jobs, nodes, leases⟩ ⟨rev, jobs.map (upJ leases), nodes.map upN, leases⟩ ⟨aj, k, cj, an, q, cn, al, nl, cl⟩ base w (.returned (.agg #[.int .i64 rev, .slice aj k cj, .slice an q cn, .slice al nl cl])) _ from ⟨rfl, ⟨(own_setOther (own_setOther (own_setOther (own_setOther hOw.j hR (by decide) (i := 0) (u := .int .i64 rev)) (Blk.eq (hR.set 0 (.int .i64 rev)) (show _ = #[.int .i64 rev, .slice none 0 0, .slice none 0 0, .slice none 0 0] from rfl)) (by decide) (i := 1) (u := .slice aj k cj)) (Blk.eq ((Blk.eq (hR.set 0 (.int .i64 rev)) (show _ = #[.int .i64 rev, .slice none 0 0, .slice none 0 0, .slice none 0 0] from rfl)).set 1 (.slice aj k cj)) (show _ = #[.int .i64 rev, .slice aj k cj, .slice none 0 0, .slice none 0 0] from rfl)) (by decide) (i := 2) (u := .slice an q cn)) (Blk.eq ((Blk.eq ((Blk.eq (hR.set 0 (.int .i64 rev)) (show _ = #[.int .i64 rev, .slice none 0 0, .slice none 0 0, .slice none 0 0] from rfl)).set 1 (.slice aj k cj)) (show _ = #[.int .i64 rev, .slice aj k cj, .slice none 0 0, .slice none 0 0] from rfl)).set 2 (.slice an q cn)) (show _ = #[.int .i64 rev, .slice aj k cj, .slice an q cn, .slice none 0 0] from rfl)) (by decide) (i := 3) (u := .slice al nl cl)), (own_setOther (own_setOther (own_setOther (own_setOther hOw.n hR (by decide) (i := 0) (u := .int .i64 rev)) (Blk.eq (hR.set 0 (.int .i64 rev)) (show _ = #[.int .i64 rev, .slice none 0 0, .slice none 0 0, .slice none 0 0] from rfl)) (by decide) (i := 1) (u := .slice aj k cj)) (Blk.eq ((Blk.eq (hR.set 0 (.int .i64 rev)) (show _ = #[.int .i64 rev, .slice none 0 0, .slice none 0 0, .slice none 0 0] from rfl)).set 1 (.slice aj k cj)) (show _ = #[.int .i64 rev, .slice aj k cj, .slice none 0 0, .slice none 0 0] from rfl)) (by decide) (i := 2) (u := .slice an q cn)) (Blk.eq ((Blk.eq ((Blk.eq (hR.set 0 (.int .i64 rev)) (show _ = #[.int .i64 rev, .slice none 0 0, .slice none 0 0, .slice none 0 0] from rfl)).set 1 (.slice aj k cj)) (show _ = #[.int .i64 rev, .slice aj k cj, .slice none 0 0, .slice none 0 0] from rfl)).set 2 (.slice an q cn)) (show _ = #[.int .i64 rev, .slice aj k cj, .slice an q cn, .slice none 0 0] from rfl)) (by decide) (i := 3) (u := .slice al nl cl)), (own_setOther (own_setOther (own_setOther (own_setOther hOw.l hR (by decide) (i := 0) (u := .int .i64 rev)) (Blk.eq (hR.set 0 (.int .i64 rev)) (show _ = #[.int .i64 rev, .slice none 0 0, .slice none 0 0, .slice none 0 0] from rfl)) (by decide) (i := 1) (u := .slice aj k cj)) (Blk.eq ((Blk.eq (hR.set 0 (.int .i64 rev)) (show _ = #[.int .i64 rev, .slice none 0 0, .slice none 0 0, .slice none 0 0] from rfl)).set 1 (.slice aj k cj)) (show _ = #[.int .i64 rev, .slice aj k cj, .slice none 0 0, .slice none 0 0] from rfl)) (by decide) (i := 2) (u := .slice an q cn)) (Blk.eq ((Blk.eq ((Blk.eq (hR.set 0 (.int .i64 rev)) (show _ = #[.int .i64 rev, .slice none 0 0, .slice none 0 0, .slice none 0 0] from rfl)).set 1 (.slice aj k cj)) (show _ = #[.int .i64 rev, .slice aj k cj, .slice none 0 0, .slice none 0 0] from rfl)).set 2 (.slice an q cn)) (show _ = #[.int .i64 rev, .slice aj k cj, .slice an q cn, .slice none 0 0] from rfl)) (by decide) (i := 3) (u := .slice al nl cl)), hOw.lj, hOw.ln, hOw.ll⟩, (below_setB (below_setB (below_setB (below_setB hst.below (by omega) (b := w.heap.size + 1) (i := 0) (u := .int .i64 rev)) (by omega) (b := w.heap.size + 1) (i := 1) (u := .slice aj k cj)) (by omega) (b := w.heap.size + 1) (i := 2) (u := .slice an q cn)) (by omega) (b := w.heap.size + 1) (i := 3) (u := .slice al nl cl))⟩)
          clear hB hR hR4 hOw
          go_wp2
          refine bodyPost_ret (v := .agg #[.int .i64 rev, .slice aj k cj, .slice an q cn, .slice al nl cl]) (by simp [results, Tryd.results86, go_sem, *]) rfl ?_
          exact Hend.out
end Go.Proofs.YtbbagnfmoecdfaaDoor
namespace Go.Proofs.YtbbagnfmoecdfaaDoor
open Go.RowKit
theorem upSt_ok {st : StateD} {a b : Int} (hj : JobsOk st.jobs) (hn : NodesOk st.nodes) : JobsOk (upSt st a b).jobs ∧ NodesOk (upSt st a b).nodes ∧ (upSt st a b).leases = st.leases := by
  refine ⟨?_, ?_, rfl⟩
  · show JobsOk (if a < 2 ∧ 1 < b then st.jobs.map (upJ st.leases) else st.jobs)
    split
    · intro y hy
      obtain ⟨x, hx, rfl⟩ := List.mem_map.1 hy
      exact hj x hx
    · exact hj
  · show NodesOk (if a < 2 ∧ 1 < b then st.nodes.map upN else st.nodes)
    split
    · intro y hy
      obtain ⟨x, hx, rfl⟩ := List.mem_map.1 hy
      exact ⟨(hn x hx).1, by show (1 : Nat) ≤ _; decide⟩
    · exact hn
def StepsPost (st' : StateD) (x : StA) (w : World) (e : Ending) (w' : World) : Prop :=
  ∃ x' : StA, e = .returned (.agg (stC st' x')) ∧ x'.nj = x.nj ∧ x'.nn = x.nn ∧ x'.nl = x.nl ∧ StOwn w' w.heap.size st' x' ∧ Below w.heap.size w w'
theorem StOwn.base {w : World} {base b : Nat} {st : StateD} {x : StA} (h : StOwn w base st x) (hb : b ≤ base) : StOwn w b st x :=
  ⟨ownT_base h.j hb, ownT_base h.n hb, ownT_base h.l hb, h.lj, h.ln, h.ll⟩
/-- A step, whichever. -/
theorem step_any (st : StateD) (x : StA) (a q : Int) (base : Nat) (w : World) (hO : StOwn w base (upSt st a q) x) (hbw : base ≤ w.heap.size) (h1 : x.nj ≤ 1000) (h2 : x.nn ≤ 1000) (h3 : x.nl ≤ 1000) (ha : 1 ≤ a) (hq : a ≤ q) (hq3 : q < 3) (htr : a < 2 → ∀ j ∈ st.jobs, j.tries = 0) :
    Calls Tryd.prog 86 #[.agg (stC (upSt st a q) x), .int .i64 (q + 1)] w (StepPost (upSt st a q) (upSt st a (q + 1)) x base w) := by
  have hs : stepSt (upSt st a q) (q + 1) = upSt st a (q + 1) := by
    have := upSt_step (st := st) (a := a) (v := q + 1) ha (by omega) (by omega)
    rwa [show q + 1 - 1 = q by omega] at this
  rw [← hs]
  rcases (show q = 1 ∨ q = 2 by omega) with rfl | rfl
  · obtain rfl : a = 1 := by omega
    exact step2_any _ x base w hO hbw h1 h2 h3 (by rw [upSt_self (by decide)]; exact htr (by decide))
  · exact step3_any _ x base w hO hbw h1 h2 h3
structure StepsAt (w0 wr : World) (st' : StateD) (x : StA) : Prop where
  below : Below w0.heap.size w0 wr
  box : Blk wr w0.heap.size 26 (stC st' x)
  res : Blk wr (w0.heap.size + 1) 26 #[.int .i64 0, .slice none 0 0, .slice none 0 0, .slice none 0 0]
  own : StOwn wr (w0.heap.size + 2) st' x
  big : w0.heap.size + 2 ≤ wr.heap.size
theorem StepsAt.setBox {w0 w : World} {st st' : StateD} {x x' : StA} (h : StepsAt w0 w st x) (hO : StOwn w (w0.heap.size + 2) st' x') :
    StepsAt w0 ((((w.setCell ⟨w0.heap.size, 0, none⟩ (.int .i64 st'.rev)).setCell ⟨w0.heap.size, 1, none⟩ (.slice x'.aj x'.nj x'.cj)).setCell ⟨w0.heap.size, 2, none⟩ (.slice x'.an x'.nn x'.cn)).setCell ⟨w0.heap.size, 3, none⟩ (.slice x'.al x'.nl x'.cl)) st' x' := by
  have hG := bes_set (bes_set (bes_set (bes_set (grow_refl w w0.heap.size) 0 (.int .i64 st'.rev)) 1 (.slice x'.aj x'.nj x'.cj)) 2 (.slice x'.an x'.nn x'.cn)) 3 (.slice x'.al x'.nl x'.cl)
  exact ⟨grow_keep h.below hG (Nat.le_refl _), Blk.eq ((((h.box.set 0 (.int .i64 st'.rev)).set 1 (.slice x'.aj x'.nj x'.cj)).set 2 (.slice x'.an x'.nn x'.cn)).set 3 (.slice x'.al x'.nl x'.cl)) rfl, grow_blk hG h.res (by omega), hO.grow hG (by omega), Nat.le_trans h.big hG.size⟩
set_option maxRecDepth 100000 in
set_option maxHeartbeats 4000000 in
theorem steps_any (st : StateD) (x : StA) (a b : Int) (w : World) (hS : StAt w w.heap.size st x) (h1 : x.nj ≤ 1000) (h2 : x.nn ≤ 1000) (h3 : x.nl ≤ 1000) (ha : 1 ≤ a) (hab : a ≤ b) (hb3 : b ≤ 3) (htr : a < 2 → ∀ j ∈ st.jobs, j.tries = 0) :
    Calls Tryd.prog 47 #[.agg (stC st x), .int .i64 a, .int .i64 b] w (StepsPost (upSt st a b) x w) := by
  have hb1 : Below w.heap.size w (w.alloc (.cells (stC st x) 26)) := (Below.refl _ _).alloc (Nat.le_refl _) _
  have hb2 := hb1.alloc hb1.size (.cells #[.int .i64 0, .slice none 0 0, .slice none 0 0, .slice none 0 0] 26)
  have hBS : Blk ((w.alloc (.cells (stC st x) 26)).alloc (.cells #[.int .i64 0, .slice none 0 0, .slice none 0 0, .slice none 0 0] 26)) w.heap.size 26 (stC st x) := Blk.alloc (show Blk _ _ _ _ from heap_alloc_new w _) _
  have hBR : Blk ((w.alloc (.cells (stC st x) 26)).alloc (.cells #[.int .i64 0, .slice none 0 0, .slice none 0 0, .slice none 0 0] 26)) (w.heap.size + 1) 26 #[.int .i64 0, .slice none 0 0, .slice none 0 0, .slice none 0 0] := by
    have h := heap_alloc_new (w.alloc (.cells (stC st x) 26)) (.cells #[.int .i64 0, .slice none 0 0, .slice none 0 0, .slice none 0 0] 26)
    rwa [show (w.alloc (.cells (stC st x) 26)).heap.size = w.heap.size + 1 by simp] at h
  have hsz : ((w.alloc (.cells (stC st x) 26)).alloc (.cells #[.int .i64 0, .slice none 0 0, .slice none 0 0, .slice none 0 0] 26)).heap.size = w.heap.size + 2 := by simp
  have HOwn := Lib.hid (uown_any st x _ (hS.up hb2) h1 h2 h3)
  have Hb2 := Lib.hid hb2
  have HBS := Lib.hid hBS
  have HBR := Lib.hid hBR
  have Htr := Lib.hid htr
  have Hself := Lib.hid (upSt_self (st := st) (a := a) (by omega))
  clear hb1 hb2 hS hBS hBR htr
  go_enter Tryd.func47, Tryd.ntmps47
  unfold stC at *
  go_wp2_with fail
  refine Calls.mono HOwn.out ?_
  rintro e w1 ⟨x', rfl, e1, e2, e3, hO, hb⟩
  rw [hsz] at hO
  have hB1 := HBS.out.below hb HBS.out.lt
  have hR1 := HBR.out.below hb HBR.out.lt
  have hS1 := hb.size
  rw [hsz] at hS1
  have hB1 := HBS.out.below hb HBS.out.lt
  have hR1 := HBR.out.below hb HBR.out.lt
  have hbl := hB1.lt
  obtain ⟨aj, nj, cj, an, nn, cn, al, nl, cl⟩ := x'
  dsimp only at e1 e2 e3
  rw [show stC st ⟨aj, nj, cj, an, nn, cn, al, nl, cl⟩ = #[.int .i64 st.rev, .slice aj nj cj, .slice an nn cn, .slice al nl cl] from rfl]
  have k1 : nj ≤ 1000 := by omega
  have k2 : nn ≤ 1000 := by omega
  have k3 : nl ≤ 1000 := by omega
  have E1 := Lib.hid e1
  have E2 := Lib.hid e2
  have E3 := Lib.hid e3
  clear e1 e2 e3
  have hO2 := hO.base (show w.heap.size + 2 ≤ w.heap.size + 2 + 2 by omega)
  have hG := bes_set (bes_set (bes_set (bes_set (grow_refl w1 w.heap.size) 0 (.int .i64 st.rev)) 1 (.slice aj nj cj)) 2 (.slice an nn cn)) 3 (.slice al nl cl)
  have H1 := Lib.hid (show StepsAt w ((((w1.setCell ⟨w.heap.size, 0, none⟩ (.int .i64 st.rev)).setCell ⟨w.heap.size, 1, none⟩ (.slice aj nj cj)).setCell ⟨w.heap.size, 2, none⟩ (.slice an nn cn)).setCell ⟨w.heap.size, 3, none⟩ (.slice al nl cl)) (upSt st a a) ⟨aj, nj, cj, an, nn, cn, al, nl, cl⟩ from by
    rw [Hself.out]
    exact ⟨grow_keep (Hb2.out.trans (hb.mono Hb2.out.size)) hG (Nat.le_refl _), Blk.eq ((((hB1.set 0 (.int .i64 st.rev)).set 1 (.slice aj nj cj)).set 2 (.slice an nn cn)).set 3 (.slice al nl cl)) rfl, grow_blk hG hR1 (by omega), hO2.grow hG (by omega), Nat.le_trans hS1 hG.size⟩)
  have c0 := hB1.cell 0
  have z0 := hB1.thaw 0
  have z1 := hB1.thaw 1
  have z2 := hB1.thaw 2
  have z3 := hB1.thaw 3
  have c0 : w1.cell? ⟨w.heap.size, 0, none⟩ = some (.int .i64 st.rev) := hB1.cell 0
  have c1 : w1.cell? ⟨w.heap.size, 1, none⟩ = some (.slice x.aj x.nj x.cj) := hB1.cell 1
  have c2 : w1.cell? ⟨w.heap.size, 2, none⟩ = some (.slice x.an x.nn x.cn) := hB1.cell 2
  have c3 : w1.cell? ⟨w.heap.size, 3, none⟩ = some (.slice x.al x.nl x.cl) := hB1.cell 3
  clear hb hO hO2 hG HOwn HBS HBR hB1 hR1 Hself
  go_wp2
  clear c0 c1 c2 c3 z0 z1 z2 z3
  go_loopw [7] (fun i wr => ∃ q : Int, a ≤ q ∧ q ≤ b ∧ i = .int .i64 (q + 1) ∧ StepsAt w wr (upSt st a q) ⟨aj, nj, cj, an, nn, cn, al, nl, cl⟩) (fun i _ => (b + 1 - intOf i).toNat)
  case atStart => exact ⟨a, by omega, hab, rfl, H1.out⟩
  case round =>
    clear H1 hbl hS1
    obtain ⟨q, hq1, hq2, rfl, hst⟩ := hrel
    have HS := Lib.hid hst
    obtain ⟨rev, hrev⟩ : ∃ r, (upSt st a q).rev = r := ⟨_, rfl⟩
    have hbl := hst.box.lt
    have y0 : wr.cell? ⟨w.heap.size, 0, none⟩ = some (.int .i64 rev) := by rw [← hrev]; exact hst.box.cell 0
    have y1 : wr.cell? ⟨w.heap.size, 1, none⟩ = some (.slice aj nj cj) := hst.box.cell 1
    have y2 : wr.cell? ⟨w.heap.size, 2, none⟩ = some (.slice an nn cn) := hst.box.cell 2
    have y3 : wr.cell? ⟨w.heap.size, 3, none⟩ = some (.slice al nl cl) := hst.box.cell 3
    by_cases hlt : q < b
    · have hC := step_any st ⟨aj, nj, cj, an, nn, cn, al, nl, cl⟩ a q (w.heap.size + 2) wr hst.own hst.big k1 k2 k3 ha hq1 (by omega) Htr.out
      rw [show stC (upSt st a q) ⟨aj, nj, cj, an, nn, cn, al, nl, cl⟩ = #[.int .i64 rev, .slice aj nj cj, .slice an nn cn, .slice al nl cl] from by rw [← hrev]; rfl] at hC
      have HC := Lib.hid hC
      have hle : decide (q + 1 ≤ b) = true := decide_eq_true (by omega)
      clear hst hC
      go_wp2_with fail
      refine Calls.mono HC.out ?_
      rintro e w2 ⟨rfl, hO, hb⟩
      have hs2 := hb.size
      have h2 : StepsAt w w2 (upSt st a q) ⟨aj, nj, cj, an, nn, cn, al, nl, cl⟩ ∨ True := .inr trivial
      have hbox := HS.out.box.below hb (by omega)
      have hres := HS.out.res.below hb (by omega)
      have hG2 := bes_set (bes_set (bes_set (bes_set (grow_refl w2 w.heap.size) 0 (.int .i64 (upSt st a (q + 1)).rev)) 1 (.slice aj nj cj)) 2 (.slice an nn cn)) 3 (.slice al nl cl)
      obtain ⟨rev2, hrev2⟩ : ∃ r, (upSt st a (q + 1)).rev = r := ⟨_, rfl⟩
      have H2 := Lib.hid (show StepsAt w ((((w2.setCell ⟨w.heap.size, 0, none⟩ (.int .i64 rev2)).setCell ⟨w.heap.size, 1, none⟩ (.slice aj nj cj)).setCell ⟨w.heap.size, 2, none⟩ (.slice an nn cn)).setCell ⟨w.heap.size, 3, none⟩ (.slice al nl cl)) (upSt st a (q + 1)) ⟨aj, nj, cj, an, nn, cn, al, nl, cl⟩ from by
        rw [← hrev2]
        exact ⟨grow_keep (HS.out.below.trans (hb.mono (by omega))) hG2 (Nat.le_refl _), Blk.eq ((((hbox.set 0 (.int .i64 (upSt st a (q + 1)).rev)).set 1 (.slice aj nj cj)).set 2 (.slice an nn cn)).set 3 (.slice al nl cl)) rfl, grow_blk hG2 hres (by omega), hO.grow hG2 (by omega), Nat.le_trans (Nat.le_trans HS.out.big hs2) hG2.size⟩)
      have hbl2 := hbox.lt
      have z0 := hbox.thaw 0
      have z1 := hbox.thaw 1
      have z2 := hbox.thaw 2
      have z3 := hbox.thaw 3
      have c0 : w2.cell? ⟨w.heap.size, 0, none⟩ = some (.int .i64 rev) := by rw [← hrev]; exact hbox.cell 0
      have c1 : w2.cell? ⟨w.heap.size, 1, none⟩ = some (.slice aj nj cj) := hbox.cell 1
      have c2 : w2.cell? ⟨w.heap.size, 2, none⟩ = some (.slice an nn cn) := hbox.cell 2
      have c3 : w2.cell? ⟨w.heap.size, 3, none⟩ = some (.slice al nl cl) := hbox.cell 3
      rw [show stC (upSt st a (q + 1)) ⟨aj, nj, cj, an, nn, cn, al, nl, cl⟩ = #[.int .i64 rev2, .slice aj nj cj, .slice an nn cn, .slice al nl cl] from by rw [← hrev2]; rfl]
      clear hb hO hG2 hbox hres HS HC y0 y1 y2 y3 hrev hrev2 h2
      go_wp2
      go_roundw
      case rel => exact ⟨q + 1, by omega, by omega, by first | rfl | go_num, H2.out⟩
      case measure => simp [intOf]; omega
    · obtain rfl : q = b := by omega
      have hle : decide (q + 1 ≤ q) = false := decide_eq_false (by omega)
      have hR := HS.out.res
      have hrl := hR.lt
      have u0 : wr.frozen? ⟨w.heap.size + 1, 0, none⟩ = false := hR.thaw 0
      have s0 : wr.cell? ⟨w.heap.size + 1, 0, none⟩ = some (.int .i64 0) := hR.cell 0
      have u1 : wr.frozen? ⟨w.heap.size + 1, 1, none⟩ = false := hR.thaw 1
      have s1 : wr.cell? ⟨w.heap.size + 1, 1, none⟩ = some (.slice none 0 0) := hR.cell 1
      have u2 : wr.frozen? ⟨w.heap.size + 1, 2, none⟩ = false := hR.thaw 2
      have s2 : wr.cell? ⟨w.heap.size + 1, 2, none⟩ = some (.slice none 0 0) := hR.cell 2
      have u3 : wr.frozen? ⟨w.heap.size + 1, 3, none⟩ = false := hR.thaw 3
      have s3 : wr.cell? ⟨w.heap.size + 1, 3, none⟩ = some (.slice none 0 0) := hR.cell 3
      have hR4 := (Blk.eq ((Blk.eq ((Blk.eq ((Blk.eq (hR.set 0 (.int .i64 rev)) (show _ = #[.int .i64 rev, .slice none 0 0, .slice none 0 0, .slice none 0 0] from rfl)).set 1 (.slice aj nj cj)) (show _ = #[.int .i64 rev, .slice aj nj cj, .slice none 0 0, .slice none 0 0] from rfl)).set 2 (.slice an nn cn)) (show _ = #[.int .i64 rev, .slice aj nj cj, .slice an nn cn, .slice none 0 0] from rfl)).set 3 (.slice al nl cl)) (show _ = #[.int .i64 rev, .slice aj nj cj, .slice an nn cn, .slice al nl cl] from rfl))
      have q0 := (show _ = (some (.int .i64 rev) : Option Value) from hR4.cell 0)
      have q1 := (show _ = (some (.slice aj nj cj) : Option Value) from hR4.cell 1)
      have q2 := (show _ = (some (.slice an nn cn) : Option Value) from hR4.cell 2)
      have q3 := (show _ = (some (.slice al nl cl) : Option Value) from hR4.cell 3)
      have hG4 := (bes_set (bes_set (bes_set (bes_set (grow_refl wr (w.heap.size + 1)) 0 (.int .i64 rev)) 1 (.slice aj nj cj)) 2 (.slice an nn cn)) 3 (.slice al nl cl))
      have Hend := Lib.hid (show StepsPost (upSt st a q) x w (.returned (.agg #[.int .i64 rev, .slice aj nj cj, .slice an nn cn, .slice al nl cl])) _ from ⟨⟨aj, nj, cj, an, nn, cn, al, nl, cl⟩, by rw [← hrev]; rfl, E1.out, E2.out, E3.out, (HS.out.own.grow hG4 (by omega)).base (by omega), grow_keep HS.out.below hG4 (by omega)⟩)
      clear hR hR4 hG4 hst HS hrev
      go_wp2
      refine bodyPost_ret (v := .agg #[.int .i64 rev, .slice aj nj cj, .slice an nn cn, .slice al nl cl]) (by simp [results, Tryd.results47, go_sem, *]) rfl ?_
      exact Hend.out
set_option maxRecDepth 100000 in
theorem isway_any (a b : Int) (w : World) : Calls Tryd.prog 52 #[.int .i64 a, .int .i64 b] w fun e w' => e = .returned (.bool (isWayB a b)) ∧ w = w' := by
  unfold isWayB
  generalize h1 : decide (1 ≤ a) = p1
  generalize h2 : decide (a ≤ b) = p2
  generalize h3 : decide (b ≤ 3) = p3
  cases p1 <;> cases p2 <;> cases p3 <;> (
    go_enter Tryd.func52, Tryd.ntmps52
    go_wp2
    go_ret
    exact ⟨rfl, rfl⟩)
end Go.Proofs.YtbbagnfmoecdfaaDoor
