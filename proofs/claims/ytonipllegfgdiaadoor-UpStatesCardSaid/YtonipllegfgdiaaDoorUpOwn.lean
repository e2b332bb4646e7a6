/- The walk of up.own: a state of one's own. -/
import Derived.Test.YtonipllegfgdiaaDoorClone
import Derived.Test.YtonipllegfgdiaaDoorRDec1
import Derived.Test.YtonipllegfgdiaaDoorRPh
set_option linter.unusedVariables false
set_option linter.unusedSimpArgs false
namespace Go.Proofs.YtonipllegfgdiaaDoor
open Go.RowKit
theorem ownU_below {w w' : World} {base n sz : Nat} {e : TypeId} {v : Value} {xs : List Value} (ho : w.ownsRow base e sz v n xs) (hb : Below w.heap.size w w') : w'.ownsRow base e sz v n xs := by
  rcases ho with ⟨h1, h | ⟨q, cap, cur, hv, hq, hgq, r⟩⟩
  · exact ⟨h1, .inl h⟩
  · have hlt : q < w.heap.size := (Array.getElem?_eq_some_iff.1 hgq).1
    exact ⟨h1, .inr ⟨q, cap, cur, hv, hq, (hb.block q hlt).trans hgq, r⟩⟩
/-- What the clones' region leaves, operation by operation; γ: where the clones lie. -/
def ownV (B : Nat) (x γ : StA) : Nat → Value → Prop
  | 0, u => u = .pointer (some ⟨B, 1, none⟩)
  | 1, u => u = .slice x.aj x.nj x.cj
  | 2, u => u = .slice γ.aj x.nj γ.cj
  | 3, u => u = .pointer (some ⟨B, 2, none⟩)
  | 4, u => u = .slice x.an x.nn x.cn
  | 5, u => u = .slice γ.an x.nn γ.cn
  | 6, u => u = .pointer (some ⟨B, 3, none⟩)
  | 7, u => u = .slice x.al x.nl x.cl
  | 8, u => u = .slice γ.al x.nl γ.cl
  | 9, u => u = .pointer (some ⟨B, 1, none⟩)
  | 11, u => u = .pointer (some ⟨B, 2, none⟩)
  | 13, u => u = .pointer (some ⟨B, 3, none⟩)
  | _, _ => True
/-- How far it has come: how many clones are made, how many are stored. -/
structure OwnAt (w0 : World) (st : StateD) (x γ : StA) (c k : Nat) (w : World) : Prop where
  below : Below w0.heap.size w0 w
  blk : Blk w w0.heap.size 26 #[.int .i64 st.rev, if 0 < k then .slice γ.aj x.nj γ.cj else .slice x.aj x.nj x.cj, if 1 < k then .slice γ.an x.nn γ.cn else .slice x.an x.nn x.cn, if 2 < k then .slice γ.al x.nl γ.cl else .slice x.al x.nl x.cl]
  res : Blk w (w0.heap.size + 1) 26 #[.int .i64 0, .slice none 0 0, .slice none 0 0, .slice none 0 0]
  j : 0 < c → w.ownsRow (w0.heap.size + 2) 74 5 (.slice γ.aj x.nj γ.cj) x.nj (rowsV jobV st.jobs)
  n : 1 < c → w.ownsRow (w0.heap.size + 2) 60 3 (.slice γ.an x.nn γ.cn) x.nn (rowsV nodeV st.nodes)
  l : 2 < c → w.ownsRow (w0.heap.size + 2) 71 3 (.slice γ.al x.nl γ.cl) x.nl (rowsV leaseV st.leases)
def ownPh (w0 : World) (st : StateD) (x : StA) (p : Nat) (γ : StA) (w : World) : Prop := OwnAt w0 st x γ p (p - 3) w
theorem ownV_tr {B : Nat} {x γ γ' : StA} (d : Nat) (h2 : d ≠ 2 → γ'.aj = γ.aj ∧ γ'.cj = γ.cj) (h5 : d ≠ 5 → γ'.an = γ.an ∧ γ'.cn = γ.cn) (h8 : d ≠ 8 → γ'.al = γ.al ∧ γ'.cl = γ.cl) : ∀ j v, j ≠ d → ownV B x γ j v → ownV B x γ' j v := by
  intro j v hj h
  match j, hj, h with
  | 0, _, h => exact h
  | 1, _, h => exact h
  | 2, hj, h => obtain ⟨e1, e2⟩ := h2 (fun e => hj e.symm); exact (show v = _ by rw [e1, e2]; exact h)
  | 3, _, h => exact h
  | 4, _, h => exact h
  | 5, hj, h => obtain ⟨e1, e2⟩ := h5 (fun e => hj e.symm); exact (show v = _ by rw [e1, e2]; exact h)
  | 6, _, h => exact h
  | 7, _, h => exact h
  | 8, hj, h => obtain ⟨e1, e2⟩ := h8 (fun e => hj e.symm); exact (show v = _ by rw [e1, e2]; exact h)
  | 9, _, h => exact h
  | 10, _, _ => trivial
  | 11, _, h => exact h
  | 12, _, _ => trivial
  | 13, _, h => exact h
  | _ + 14, _, _ => trivial
def OwnPost (st : StateD) (x : StA) (w : World) (e : Ending) (w' : World) : Prop :=
  ∃ x' : StA, e = .returned (.agg (stC st x')) ∧ x'.nj = x.nj ∧ x'.nn = x.nn ∧ x'.nl = x.nl ∧ StOwn w' (w.heap.size + 2) st x' ∧ Below w.heap.size w w'
set_option maxRecDepth 100000 in
set_option maxHeartbeats 4000000 in
theorem uown_any (st : StateD) (x : StA) (w : World) (hS : StAt w w.heap.size st x) (h1 : x.nj ≤ 1000) (h2 : x.nn ≤ 1000) (h3 : x.nl ≤ 1000) :
    Calls Tryd.prog 114 #[.agg (stC st x)] w (OwnPost st x w) := by
  have hb1 : Below w.heap.size w (w.alloc (.cells (stC st x) 26)) := (Below.refl _ _).alloc (Nat.le_refl _) _
  have hb2 := hb1.alloc hb1.size (.cells #[.int .i64 0, .slice none 0 0, .slice none 0 0, .slice none 0 0] 26)
  have H0 : OwnAt w st x x 0 0 (((w.alloc (.cells (stC st x) 26)).alloc (.cells #[.int .i64 0, .slice none 0 0, .slice none 0 0, .slice none 0 0] 26))).drew :=
    { below := hb2.drew
      blk := Blk.alloc (show Blk _ _ _ _ from heap_alloc_new w _) _
      res := by
        have h := heap_alloc_new (w.alloc (.cells (stC st x) 26)) (.cells #[.int .i64 0, .slice none 0 0, .slice none 0 0, .slice none 0 0] 26)
        rw [show (w.alloc (.cells (stC st x) 26)).heap.size = w.heap.size + 1 by simp] at h
        exact h
      j := fun h => absurd h (by omega)
      n := fun h => absurd h (by omega)
      l := fun h => absurd h (by omega) }
  have HS := Lib.hid hS
  clear hb1 hb2 hS
  go_enter Tryd.func114, Tryd.ntmps114
  unfold stC at *
  go_wp2_with fail
  refine wp_region_phases (n := 16) (by kernel_rfl) (ownV w.heap.size x) [2, 5, 8, 10, 12, 14] (ownPh w st x) x (by decide +kernel) (by decide +kernel) rfl H0 ?_ ?_
  · refine ⟨?_, ?_, ?_, ?_, ?_, ?_, ?_, ?_, ?_, ?_, ?_, ?_, ?_, ?_, ?_, trivial⟩
    · refine ⟨rfl, .inr ⟨by decide, 0, 6, by decide +kernel, by decide +kernel, fun p γ a wx _ hph hp hk => ?_⟩⟩
      have h1 := hk.1 1 _ rfl (by decide +kernel)
      simp [go_sem, Oper.wp, execOp, Act.eval, h1]
      exact ⟨_, rfl, rfl, hp⟩
    · refine ⟨rfl, .inr ⟨by decide, 0, 0, by decide +kernel, by decide +kernel, fun p γ a wx _ hph hp hk => ?_⟩⟩
      obtain ⟨u1, hu1, ru1⟩ := hk.2.1 0 _ 3 rfl rfl (by decide +kernel)
      replace ru1 : u1 = _ := ru1
      subst ru1
      have hc : wx.cell? ⟨w.heap.size, 1, none⟩ = some (.slice x.aj x.nj x.cj) := by
        have h := hp.blk.cell 1
        simp only [List.getElem?_toArray, List.getElem?_cons_succ, List.getElem?_cons_zero] at h
        rw [h, if_neg (by omega)]
      simp [go_sem, Oper.wp, execOp, Act.eval, hu1, hc]
      exact ⟨_, rfl, rfl, hp⟩
    · refine ⟨rfl, .inl ⟨0, rfl, fun γ a wx hp hk => ?_⟩⟩
      obtain ⟨u1, hu1, ru1⟩ := hk.2.1 1 _ 4 rfl rfl (by decide +kernel)
      replace ru1 : u1 = _ := ru1
      subst ru1
      simp [go_sem, Oper.wp, execOp, Act.eval, hu1]
      refine (clone_job st.jobs x.aj x.nj x.cj wx (HS.out.j.below hp.below |>.more hp.below.size) HS.out.lj (by omega)).mono ?_
      rintro e w' ⟨A', c', rfl, ho, hb⟩
      rw [HS.out.lj] at ho ⊢
      exact ⟨_, rfl, { γ with aj := A', cj := c' }, ownV_tr 2 (fun h => absurd rfl h) (fun _ => ⟨rfl, rfl⟩) (fun _ => ⟨rfl, rfl⟩), rfl, { below := hp.below.trans (hb.mono hp.below.size), blk := Blk.eq (hp.blk.below hb hp.blk.lt) (by simp), res := hp.res.below hb hp.res.lt, j := fun _ => ownT_base ho (by have := hp.res.lt; omega), n := fun h => absurd h (by omega), l := fun h => absurd h (by omega) }⟩
    · refine ⟨rfl, .inr ⟨by decide, 0, 6, by decide +kernel, by decide +kernel, fun p γ a wx _ hph hp hk => ?_⟩⟩
      have h1 := hk.1 1 _ rfl (by decide +kernel)
      simp [go_sem, Oper.wp, execOp, Act.eval, h1]
      exact ⟨_, rfl, rfl, hp⟩
    · refine ⟨rfl, .inr ⟨by decide, 0, 1, by decide +kernel, by decide +kernel, fun p γ a wx _ hph hp hk => ?_⟩⟩
      obtain ⟨u1, hu1, ru1⟩ := hk.2.1 3 _ 6 rfl rfl (by decide +kernel)
      replace ru1 : u1 = _ := ru1
      subst ru1
      have hc : wx.cell? ⟨w.heap.size, 2, none⟩ = some (.slice x.an x.nn x.cn) := by
        have h := hp.blk.cell 2
        simp only [List.getElem?_toArray, List.getElem?_cons_succ, List.getElem?_cons_zero] at h
        rw [h, if_neg (by omega)]
      simp [go_sem, Oper.wp, execOp, Act.eval, hu1, hc]
      exact ⟨_, rfl, rfl, hp⟩
    · refine ⟨rfl, .inl ⟨1, rfl, fun γ a wx hp hk => ?_⟩⟩
      obtain ⟨u1, hu1, ru1⟩ := hk.2.1 4 _ 7 rfl rfl (by decide +kernel)
      replace ru1 : u1 = _ := ru1
      subst ru1
      simp [go_sem, Oper.wp, execOp, Act.eval, hu1]
      refine (clone_node st.nodes x.an x.nn x.cn wx (HS.out.n.below hp.below |>.more hp.below.size) HS.out.ln (by omega)).mono ?_
      rintro e w' ⟨A', c', rfl, ho, hb⟩
      rw [HS.out.ln] at ho ⊢
      exact ⟨_, rfl, { γ with an := A', cn := c' }, ownV_tr 5 (fun _ => ⟨rfl, rfl⟩) (fun h => absurd rfl h) (fun _ => ⟨rfl, rfl⟩), rfl, { below := hp.below.trans (hb.mono hp.below.size), blk := Blk.eq (hp.blk.below hb hp.blk.lt) (by simp), res := hp.res.below hb hp.res.lt, j := fun _ => ownU_below (hp.j (by omega)) hb, n := fun _ => ownT_base ho (by have := hp.res.lt; omega), l := fun h => absurd h (by omega) }⟩
    · refine ⟨rfl, .inr ⟨by decide, 0, 6, by decide +kernel, by decide +kernel, fun p γ a wx _ hph hp hk => ?_⟩⟩
      have h1 := hk.1 1 _ rfl (by decide +kernel)
      simp [go_sem, Oper.wp, execOp, Act.eval, h1]
      exact ⟨_, rfl, rfl, hp⟩
    · refine ⟨rfl, .inr ⟨by decide, 0, 2, by decide +kernel, by decide +kernel, fun p γ a wx _ hph hp hk => ?_⟩⟩
      obtain ⟨u1, hu1, ru1⟩ := hk.2.1 6 _ 9 rfl rfl (by decide +kernel)
      replace ru1 : u1 = _ := ru1
      subst ru1
      have hc : wx.cell? ⟨w.heap.size, 3, none⟩ = some (.slice x.al x.nl x.cl) := by
        have h := hp.blk.cell 3
        simp only [List.getElem?_toArray, List.getElem?_cons_succ, List.getElem?_cons_zero] at h
        rw [h, if_neg (by omega)]
      simp [go_sem, Oper.wp, execOp, Act.eval, hu1, hc]
      exact ⟨_, rfl, rfl, hp⟩
    · refine ⟨rfl, .inl ⟨2, rfl, fun γ a wx hp hk => ?_⟩⟩
      obtain ⟨u1, hu1, ru1⟩ := hk.2.1 7 _ 10 rfl rfl (by decide +kernel)
      replace ru1 : u1 = _ := ru1
      subst ru1
      simp [go_sem, Oper.wp, execOp, Act.eval, hu1]
      refine (clone_lease st.leases x.al x.nl x.cl wx (HS.out.l.below hp.below |>.more hp.below.size) HS.out.ll (by omega)).mono ?_
      rintro e w' ⟨A', c', rfl, ho, hb⟩
      rw [HS.out.ll] at ho ⊢
      exact ⟨_, rfl, { γ with al := A', cl := c' }, ownV_tr 8 (fun _ => ⟨rfl, rfl⟩) (fun _ => ⟨rfl, rfl⟩) (fun h => absurd rfl h), rfl, { below := hp.below.trans (hb.mono hp.below.size), blk := Blk.eq (hp.blk.below hb hp.blk.lt) (by simp), res := hp.res.below hb hp.res.lt, j := fun _ => ownU_below (hp.j (by omega)) hb, n := fun _ => ownU_below (hp.n (by omega)) hb, l := fun _ => ownT_base ho (by have := hp.res.lt; omega) }⟩
    · refine ⟨rfl, .inr ⟨by decide, 0, 6, by decide +kernel, by decide +kernel, fun p γ a wx _ hph hp hk => ?_⟩⟩
      have h1 := hk.1 1 _ rfl (by decide +kernel)
      simp [go_sem, Oper.wp, execOp, Act.eval, h1]
      exact ⟨_, rfl, rfl, hp⟩
    · refine ⟨rfl, .inl ⟨3, rfl, fun γ a wx hp hk => ?_⟩⟩
      obtain ⟨u1, hu1, ru1⟩ := hk.2.1 9 _ 12 rfl rfl (by decide +kernel)
      replace ru1 : u1 = _ := ru1
      subst ru1
      obtain ⟨u2, hu2, ru2⟩ := hk.2.1 2 _ 5 rfl rfl (by decide +kernel)
      replace ru2 : u2 = _ := ru2
      subst ru2
      have hc : wx.cell? ⟨w.heap.size, 1, none⟩ = some (.slice x.aj x.nj x.cj) := by
        have h := hp.blk.cell 1
        simp only [List.getElem?_toArray, List.getElem?_cons_succ, List.getElem?_cons_zero] at h
        rw [h, if_neg (by omega)]
      have hz : wx.frozen? ⟨w.heap.size, 1, none⟩ = false := hp.blk.thaw 1
      simp [go_sem, Oper.wp, execOp, Act.eval, hu1, hu2, hc, hz]
      exact ⟨.int .i64 0, γ, fun _ _ _ h => h, trivial, { below := grow_keep hp.below (grow_set wx w.heap.size 1 _) (Nat.le_refl _), blk := Blk.eq (hp.blk.set 1 _) rfl, res := grow_blk (grow_set wx w.heap.size 1 _) hp.res (by omega), j := fun _ => ownT_grow (hp.j (by omega)) (grow_set wx w.heap.size 1 _) (by omega), n := fun _ => ownT_grow (hp.n (by omega)) (grow_set wx w.heap.size 1 _) (by omega), l := fun _ => ownT_grow (hp.l (by omega)) (grow_set wx w.heap.size 1 _) (by omega) }⟩
    · refine ⟨rfl, .inr ⟨by decide, 0, 6, by decide +kernel, by decide +kernel, fun p γ a wx _ hph hp hk => ?_⟩⟩
      have h1 := hk.1 1 _ rfl (by decide +kernel)
      simp [go_sem, Oper.wp, execOp, Act.eval, h1]
      exact ⟨_, rfl, rfl, hp⟩
    · refine ⟨rfl, .inl ⟨4, rfl, fun γ a wx hp hk => ?_⟩⟩
      obtain ⟨u1, hu1, ru1⟩ := hk.2.1 11 _ 13 rfl rfl (by decide +kernel)
      replace ru1 : u1 = _ := ru1
      subst ru1
      obtain ⟨u2, hu2, ru2⟩ := hk.2.1 5 _ 8 rfl rfl (by decide +kernel)
      replace ru2 : u2 = _ := ru2
      subst ru2
      have hc : wx.cell? ⟨w.heap.size, 2, none⟩ = some (.slice x.an x.nn x.cn) := by
        have h := hp.blk.cell 2
        simp only [List.getElem?_toArray, List.getElem?_cons_succ, List.getElem?_cons_zero] at h
        rw [h, if_neg (by omega)]
      have hz : wx.frozen? ⟨w.heap.size, 2, none⟩ = false := hp.blk.thaw 2
      simp [go_sem, Oper.wp, execOp, Act.eval, hu1, hu2, hc, hz]
      exact ⟨.int .i64 0, γ, fun _ _ _ h => h, trivial, { below := grow_keep hp.below (grow_set wx w.heap.size 2 _) (Nat.le_refl _), blk := Blk.eq (hp.blk.set 2 _) rfl, res := grow_blk (grow_set wx w.heap.size 2 _) hp.res (by omega), j := fun _ => ownT_grow (hp.j (by omega)) (grow_set wx w.heap.size 2 _) (by omega), n := fun _ => ownT_grow (hp.n (by omega)) (grow_set wx w.heap.size 2 _) (by omega), l := fun _ => ownT_grow (hp.l (by omega)) (grow_set wx w.heap.size 2 _) (by omega) }⟩
    · refine ⟨rfl, .inr ⟨by decide, 0, 6, by decide +kernel, by decide +kernel, fun p γ a wx _ hph hp hk => ?_⟩⟩
      have h1 := hk.1 1 _ rfl (by decide +kernel)
      simp [go_sem, Oper.wp, execOp, Act.eval, h1]
      exact ⟨_, rfl, rfl, hp⟩
    · refine ⟨rfl, .inl ⟨5, rfl, fun γ a wx hp hk => ?_⟩⟩
      obtain ⟨u1, hu1, ru1⟩ := hk.2.1 13 _ 14 rfl rfl (by decide +kernel)
      replace ru1 : u1 = _ := ru1
      subst ru1
      obtain ⟨u2, hu2, ru2⟩ := hk.2.1 8 _ 11 rfl rfl (by decide +kernel)
      replace ru2 : u2 = _ := ru2
      subst ru2
      have hc : wx.cell? ⟨w.heap.size, 3, none⟩ = some (.slice x.al x.nl x.cl) := by
        have h := hp.blk.cell 3
        simp only [List.getElem?_toArray, List.getElem?_cons_succ, List.getElem?_cons_zero] at h
        rw [h, if_neg (by omega)]
      have hz : wx.frozen? ⟨w.heap.size, 3, none⟩ = false := hp.blk.thaw 3
      simp [go_sem, Oper.wp, execOp, Act.eval, hu1, hu2, hc, hz]
      exact ⟨.int .i64 0, γ, fun _ _ _ h => h, trivial, { below := grow_keep hp.below (grow_set wx w.heap.size 3 _) (Nat.le_refl _), blk := Blk.eq (hp.blk.set 3 _) rfl, res := grow_blk (grow_set wx w.heap.size 3 _) hp.res (by omega), j := fun _ => ownT_grow (hp.j (by omega)) (grow_set wx w.heap.size 3 _) (by omega), n := fun _ => ownT_grow (hp.n (by omega)) (grow_set wx w.heap.size 3 _) (by omega), l := fun _ => ownT_grow (hp.l (by omega)) (grow_set wx w.heap.size 3 _) (by omega) }⟩
  · intro γ a wx hd
    have hp : OwnAt w st x γ 6 3 wx := hd.ph
    obtain ⟨fv, rfl, -⟩ := hd.frame [3, 4, 5, 6, 7, 8, 9, 10, 11, 12, 13, 14] rfl
    have hB : Blk wx w.heap.size 26 #[.int .i64 st.rev, .slice γ.aj x.nj γ.cj, .slice γ.an x.nn γ.cn, .slice γ.al x.nl γ.cl] := hp.blk
    have hR := hp.res
    have hbl := hB.lt
    have hrl := hR.lt
    have b0 : wx.cell? ⟨w.heap.size, 0, none⟩ = some (.int .i64 st.rev) := hB.cell 0
    have b1 : wx.cell? ⟨w.heap.size, 1, none⟩ = some (.slice γ.aj x.nj γ.cj) := hB.cell 1
    have b2 : wx.cell? ⟨w.heap.size, 2, none⟩ = some (.slice γ.an x.nn γ.cn) := hB.cell 2
    have b3 : wx.cell? ⟨w.heap.size, 3, none⟩ = some (.slice γ.al x.nl γ.cl) := hB.cell 3
    have u0 : wx.frozen? ⟨w.heap.size + 1, 0, none⟩ = false := hR.thaw 0
    have s0 : wx.cell? ⟨w.heap.size + 1, 0, none⟩ = some (.int .i64 0) := hR.cell 0
    have u1 : wx.frozen? ⟨w.heap.size + 1, 1, none⟩ = false := hR.thaw 1
    have s1 : wx.cell? ⟨w.heap.size + 1, 1, none⟩ = some (.slice none 0 0) := hR.cell 1
    have u2 : wx.frozen? ⟨w.heap.size + 1, 2, none⟩ = false := hR.thaw 2
    have s2 : wx.cell? ⟨w.heap.size + 1, 2, none⟩ = some (.slice none 0 0) := hR.cell 2
    have u3 : wx.frozen? ⟨w.heap.size + 1, 3, none⟩ = false := hR.thaw 3
    have s3 : wx.cell? ⟨w.heap.size + 1, 3, none⟩ = some (.slice none 0 0) := hR.cell 3
    have hR4 := (Blk.eq ((Blk.eq ((Blk.eq ((Blk.eq (hR.set 0 (.int .i64 st.rev)) (show _ = #[.int .i64 st.rev, .slice none 0 0, .slice none 0 0, .slice none 0 0] from rfl)).set 1 (.slice γ.aj x.nj γ.cj)) (show _ = #[.int .i64 st.rev, .slice γ.aj x.nj γ.cj, .slice none 0 0, .slice none 0 0] from rfl)).set 2 (.slice γ.an x.nn γ.cn)) (show _ = #[.int .i64 st.rev, .slice γ.aj x.nj γ.cj, .slice γ.an x.nn γ.cn, .slice none 0 0] from rfl)).set 3 (.slice γ.al x.nl γ.cl)) (show _ = #[.int .i64 st.rev, .slice γ.aj x.nj γ.cj, .slice γ.an x.nn γ.cn, .slice γ.al x.nl γ.cl] from rfl))
    have q0 := (show _ = (some (.int .i64 st.rev) : Option Value) from hR4.cell 0)
    have q1 := (show _ = (some (.slice γ.aj x.nj γ.cj) : Option Value) from hR4.cell 1)
    have q2 := (show _ = (some (.slice γ.an x.nn γ.cn) : Option Value) from hR4.cell 2)
    have q3 := (show _ = (some (.slice γ.al x.nl γ.cl) : Option Value) from hR4.cell 3)
    have hG4 := (bes_set (bes_set (bes_set (bes_set (grow_refl wx (w.heap.size + 1)) 0 (.int .i64 st.rev)) 1 (.slice γ.aj x.nj γ.cj)) 2 (.slice γ.an x.nn γ.cn)) 3 (.slice γ.al x.nl γ.cl))
    have Hend := Lib.hid (show OwnPost st x w (.returned (.agg (stC st ⟨γ.aj, x.nj, γ.cj, γ.an, x.nn, γ.cn, γ.al, x.nl, γ.cl⟩))) _ from ⟨⟨γ.aj, x.nj, γ.cj, γ.an, x.nn, γ.cn, γ.al, x.nl, γ.cl⟩, rfl, rfl, rfl, rfl, ⟨ownT_grow (hp.j (by omega)) hG4 (by omega), ownT_grow (hp.n (by omega)) hG4 (by omega), ownT_grow (hp.l (by omega)) hG4 (by omega), HS.out.lj, HS.out.ln, HS.out.ll⟩, grow_keep hp.below hG4 (by omega)⟩)
    clear hd hp hB hR hR4 hG4 H0
    simp [Exit.then]
    go_wp2
    refine bodyPost_ret (v := .agg #[.int .i64 st.rev, .slice γ.aj x.nj γ.cj, .slice γ.an x.nn γ.cn, .slice γ.al x.nl γ.cl]) (by simp [results, Tryd.results114, go_sem, *]) rfl ?_
    exact Hend.out
end Go.Proofs.YtonipllegfgdiaaDoor
