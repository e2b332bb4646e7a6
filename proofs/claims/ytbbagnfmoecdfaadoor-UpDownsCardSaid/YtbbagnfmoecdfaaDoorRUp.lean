/- The walk of the reference's Up. -/
import Derived.Test.YtbbagnfmoecdfaaDoorUp
import Derived.Test.YtbbagnfmoecdfaaDoorAtL
import Derived.Test.YtbbagnfmoecdfaaDoorRPhG
import Derived.Test.YtbbagnfmoecdfaaDoorOwn
import Derived.Test.YtbbagnfmoecdfaaDoorWDec
set_option linter.unusedVariables false
set_option linter.unusedSimpArgs false
namespace Go.Proofs.YtbbagnfmoecdfaaDoor
open Go.RowKit
/-- What the region that makes the state leaves: γ: the copy of the leases, and the new state's block. -/
def rupV (S : Nat) (rev : Int) (al : Option Addr) (nl cl : Nat) (γ : Option (Option Addr × Nat) × Option Nat) : Nat → Value → Prop
  | 0, u => u = .pointer (some ⟨S, 0, none⟩)
  | 1, u => u = .int .i64 rev
  | 2, u => u = .pointer (some ⟨S, 3, none⟩)
  | 3, u => u = .slice al nl cl
  | 4, u => ∃ y, γ.1 = some y ∧ u = .slice y.1 nl y.2
  | 5, u => ∃ y, γ.1 = some y ∧ u = .agg #[.int .i64 rev, .slice none 0 0, .slice none 0 0, .slice y.1 nl y.2]
  | 6, u => ∃ D, γ.2 = some D ∧ u = .pointer (some ⟨D, 0, none⟩)
  | _, _ => True
structure RupAt (w0 : World) (st : StateD) (x : StA) (y : Option Addr × Nat) (d : Option Nat) (c : Nat) (w : World) : Prop where
  below : Below w0.heap.size w0 w
  box : Blk w w0.heap.size 26 (stC st x)
  res : Blk w (w0.heap.size + 1) 26 #[.int .i64 0, .slice none 0 0, .slice none 0 0, .slice none 0 0]
  new : ∀ D, d = some D → w0.heap.size + 2 ≤ D ∧ Blk w D 26 (if c < 2 then #[.int .i64 0, .slice none 0 0, .slice none 0 0, .slice none 0 0] else #[.int .i64 st.rev, .slice none 0 0, .slice none 0 0, .slice y.1 x.nl y.2])
  l : 0 < c → w.ownsRow (w0.heap.size + 2) 59 3 (.slice y.1 x.nl y.2) x.nl (rowsV leaseV st.leases)
theorem RupAt.kept {w0 w w' : World} {st : StateD} {x : StA} {y : Option Addr × Nat} {d : Option Nat} {c : Nat} (h : RupAt w0 st x y d c w) (hb : Below w.heap.size w w') : RupAt w0 st x y d c w' :=
  ⟨h.below.trans (hb.mono h.below.size), h.box.below hb h.box.lt, h.res.below hb h.res.lt, fun D hD => ⟨(h.new D hD).1, (h.new D hD).2.below hb (h.new D hD).2.lt⟩, fun hc => ownU_below (h.l hc) hb⟩
def rupPh (w0 : World) (st : StateD) (x : StA) : Nat → Option (Option Addr × Nat) × Option Nat → World → Prop
  | 0, γ, w => γ.1 = none ∧ RupAt w0 st x (none, 0) γ.2 0 w
  | 1, γ, w => ∃ y, γ.1 = some y ∧ RupAt w0 st x y γ.2 1 w
  | _, γ, w => ∃ y D, γ.1 = some y ∧ γ.2 = some D ∧ RupAt w0 st x y γ.2 2 w
theorem rupV_4 {S : Nat} {rev : Int} {al : Option Addr} {nl cl : Nat} {γ : Option (Option Addr × Nat) × Option Nat} (h0 : γ.1 = none) (y : Option (Option Addr × Nat)) : ∀ j v, j ≠ 4 → rupV S rev al nl cl γ j v → rupV S rev al nl cl (y, γ.2) j v := fun j v hj h =>
  match j, hj, h with
  | 0, _, h => h | 1, _, h => h | 2, _, h => h | 3, _, h => h | 4, hj, _ => absurd rfl hj | 5, _, ⟨z, hz, _⟩ => (by rw [h0] at hz; cases hz) | 6, _, h => h | _ + 7, _, _ => trivial
theorem rupV_6 {S : Nat} {rev : Int} {al : Option Addr} {nl cl : Nat} {γ : Option (Option Addr × Nat) × Option Nat} (y : Option Nat) : ∀ j v, j ≠ 6 → rupV S rev al nl cl γ j v → rupV S rev al nl cl (γ.1, y) j v := fun j v hj h =>
  match j, hj, h with
  | 0, _, h => h | 1, _, h => h | 2, _, h => h | 3, _, h => h | 4, _, h => h | 5, _, h => h | 6, hj, _ => absurd rfl hj | _ + 7, _, _ => trivial
abbrev RBox (w0 w : World) (cs : Array Value) : Prop := Blk w w0.heap.size 26 cs
theorem rupBox {w0 w : World} {st : StateD} {x : StA} {p : Nat} {γ : Option (Option Addr × Nat) × Option Nat} (h : rupPh w0 st x p γ w) : RBox w0 w (stC st x) := by
  match p, h with
  | 0, h => exact h.2.box
  | 1, h => obtain ⟨_, _, h⟩ := h; exact h.box
  | _ + 2, h => obtain ⟨_, _, _, _, h⟩ := h; exact h.box
theorem RupAt.alloc {w0 w : World} {st : StateD} {x : StA} {y : Option Addr × Nat} {d : Option Nat} {c : Nat} (h : RupAt w0 st x y d c w) (hc : c < 2) : RupAt w0 st x y (some w.heap.size) c (w.alloc (.cells #[.int .i64 0, .slice none 0 0, .slice none 0 0, .slice none 0 0] 26)) := by
  have hb : Below w.heap.size w (w.alloc (.cells #[.int .i64 0, .slice none 0 0, .slice none 0 0, .slice none 0 0] 26)) := (Below.refl _ _).alloc (Nat.le_refl _) _
  have k := h.kept hb
  refine ⟨k.below, k.box, k.res, fun D hD => ?_, k.l⟩
  injection hD with hD
  subst hD
  refine ⟨by have := h.res.lt; omega, ?_⟩
  rw [if_pos hc]
  exact heap_alloc_new w _
theorem rupAlloc {w0 w : World} {st : StateD} {x : StA} {p : Nat} {γ : Option (Option Addr × Nat) × Option Nat} (hp1 : p ≤ 1) (h : rupPh w0 st x p γ w) : rupPh w0 st x p (γ.1, some w.heap.size) (w.alloc (.cells #[.int .i64 0, .slice none 0 0, .slice none 0 0, .slice none 0 0] 26)) := by
  match p, hp1, h with
  | 0, _, h => exact ⟨h.1, h.2.alloc (by decide)⟩
  | 1, _, h => obtain ⟨y, e, h⟩ := h; exact ⟨y, e, h.alloc (by decide)⟩
structure RupL (w0 w1 : World) (D : Nat) (cs : Array Value) (st : StateD) (x : StA) (y : Option Addr × Nat) (wr : World) : Prop where
  below : Below w0.heap.size w0 wr
  box : Blk wr w0.heap.size 26 (stC st x)
  res : Blk wr (w0.heap.size + 1) 26 #[.int .i64 0, .slice none 0 0, .slice none 0 0, .slice none 0 0]
  new : Blk wr D 26 cs
  l : wr.ownsRow (w0.heap.size + 2) 59 3 (.slice y.1 x.nl y.2) x.nl (rowsV leaseV st.leases)
  size : w1.heap.size ≤ wr.heap.size
  at_ : w0.heap.size + 2 ≤ D ∧ D < w1.heap.size
theorem RupL.kept {w0 w1 w w' : World} {D : Nat} {cs : Array Value} {st : StateD} {x : StA} {y : Option Addr × Nat} (h : RupL w0 w1 D cs st x y w) (hb : Below w.heap.size w w') : RupL w0 w1 D cs st x y w' :=
  ⟨h.below.trans (hb.mono h.below.size), h.box.below hb h.box.lt, h.res.below hb h.res.lt, h.new.below hb h.new.lt, ownU_below h.l hb, Nat.le_trans h.size hb.size, h.at_⟩
theorem RupL.grew {w0 w1 w w' : World} {D sz' n' : Nat} {cs : Array Value} {st : StateD} {x : StA} {y : Option Addr × Nat} {e' : TypeId} {u u' : Value} {ys : List Value} (h : RupL w0 w1 D cs st x y w) (hg : Grew w w' u u') (hu : w.ownsRow w1.heap.size e' sz' u n' ys) (hne : 59 ≠ e') (h0 : w0.heap.size + 2 ≤ w1.heap.size) : RupL w0 w1 D cs st x y w' :=
  have hv := fun k hk => (hu.lt k hk).1
  ⟨h.below.trans (hg.below (B := w0.heap.size) h.below.size (fun k hk => by have := hv k hk; omega)), h.box.grewT hg hv (by omega), h.res.grewT hg hv (by omega), h.new.grewT hg hv h.at_.2, own_grewOther h.l hg hu hne, Nat.le_trans h.size hg.grown.size, h.at_⟩
theorem RupL.set {w0 w1 w : World} {D i : Nat} {cs cs' : Array Value} {st : StateD} {x : StA} {y : Option Addr × Nat} {u : Value} (h : RupL w0 w1 D cs st x y w) (hc : cs.setIfInBounds i u = cs') : RupL w0 w1 D cs' st x y (w.setCell ⟨D, i, none⟩ u) :=
  ⟨grow_keep h.below (grow_set w D i u) (by have := h.at_; omega), grow_blk (grow_set w D i u) h.box (by have := h.at_; omega), grow_blk (grow_set w D i u) h.res (by have := h.at_; omega), Blk.eq (h.new.set i u) hc, own_setOther h.l h.new (by decide), by have := h.size; simpa [World.setCell] using this, h.at_⟩
theorem RupL.setAbove {w0 w1 w : World} {D J i : Nat} {cs cj : Array Value} {st : StateD} {x : StA} {y : Option Addr × Nat} {u : Value} (h : RupL w0 w1 D cs st x y w) (hJ : Blk w J 49 cj) (hD : D < J) : RupL w0 w1 D cs st x y (w.setCell ⟨J, i, none⟩ u) :=
  ⟨grow_keep h.below (grow_set w J i u) (by have := h.at_; omega), grow_blk (grow_set w J i u) h.box (by have := h.at_; omega), grow_blk (grow_set w J i u) h.res (by have := h.at_; omega), grow_blk (grow_set w J i u) h.new (by omega), own_setOther h.l hJ (by decide), by have := h.size; simpa [World.setCell] using this, h.at_⟩
set_option maxRecDepth 100000 in
set_option maxHeartbeats 4000000 in
theorem rup_11 (st : StateD) (x : StA) (w : World) (hS : StAt w w.heap.size st x) (h1 : x.nj ≤ 1000) (h2 : x.nn ≤ 1000) (h3 : x.nl ≤ 1000) :
    Calls Tryd.prog 51 #[.agg (stC st x), .int .i64 1, .int .i64 1] w (StepsPost (upSt st 1 1) x w) := by
  have hb1 : Below w.heap.size w (w.alloc (.cells (stC st x) 26)) := (Below.refl _ _).alloc (Nat.le_refl _) _
  have hb2 := hb1.alloc hb1.size (.cells #[.int .i64 0, .slice none 0 0, .slice none 0 0, .slice none 0 0] 26)
  have H0 : rupPh w st x 0 (none, none) (((w.alloc (.cells (stC st x) 26)).alloc (.cells #[.int .i64 0, .slice none 0 0, .slice none 0 0, .slice none 0 0] 26))).drew :=
    ⟨rfl, hb2.drew, Blk.alloc (show Blk _ _ _ _ from heap_alloc_new w _) _, by
      have h := heap_alloc_new (w.alloc (.cells (stC st x) 26)) (.cells #[.int .i64 0, .slice none 0 0, .slice none 0 0, .slice none 0 0] 26)
      rw [show (w.alloc (.cells (stC st x) 26)).heap.size = w.heap.size + 1 by simp] at h
      exact h, (fun D hD => by cases hD), fun h => absurd h (by omega)⟩
  have HS := Lib.hid hS
  have Hup := Lib.hid (show upSt st 1 1 = ⟨st.rev, st.jobs, st.nodes, st.leases⟩ from by unfold upSt; rw [if_neg (by decide)]; rw [if_neg (by decide), if_neg (by decide)])
  clear hb1 hb2 hS
  obtain ⟨rev, jobs, nodes, leases⟩ := st
  obtain ⟨aj, nj, cj, an, nn, cn, al, nl, cl⟩ := x
  unfold stC at *
  dsimp only at *
  go_enter Tryd.func51, Tryd.ntmps51
  go_wp2_with fail
  refine wp_region_phasesG (n := 75) (by kernel_rfl) (rupV w.heap.size rev al nl cl) [4, 7] (rupPh w ⟨rev, jobs, nodes, leases⟩ ⟨aj, nj, cj, an, nn, cn, al, nl, cl⟩) (none, none) (by decide +kernel) (by decide +kernel) rfl H0 ?_ ?_
  · refine ⟨?_, ?_, ?_, ?_, ?_, ?_, ?_, ?_, trivial⟩
    · refine ⟨rfl, .inr ⟨by decide, 0, 2, by decide +kernel, by decide +kernel, fun p γ a wx _ hph hp hk => ?_⟩⟩
      have h1 := hk.1 3 _ rfl (by decide +kernel)
      simp [go_sem, Oper.wp, execOp, Act.eval, h1]
      exact ⟨_, rfl, γ.1, γ.2, fun _ _ _ h => h, rfl, hp⟩
    · refine ⟨rfl, .inr ⟨by decide, 0, 2, by decide +kernel, by decide +kernel, fun p γ a wx _ hph hp hk => ?_⟩⟩
      obtain ⟨u1, hu1, ru1⟩ := hk.2.1 0 _ 12 rfl rfl (by decide +kernel)
      replace ru1 : u1 = _ := ru1
      subst ru1
      have hbx : RBox w wx #[.int .i64 rev, .slice aj nj cj, .slice an nn cn, .slice al nl cl] := rupBox hp
      have hc : wx.cell? ⟨w.heap.size, 0, none⟩ = some (.int .i64 rev) := hbx.cell 0
      simp [go_sem, Oper.wp, execOp, Act.eval, hu1, hc]
      exact ⟨_, rfl, γ.1, γ.2, fun _ _ _ h => h, rfl, hp⟩
    · refine ⟨rfl, .inr ⟨by decide, 0, 2, by decide +kernel, by decide +kernel, fun p γ a wx _ hph hp hk => ?_⟩⟩
      have h1 := hk.1 3 _ rfl (by decide +kernel)
      simp [go_sem, Oper.wp, execOp, Act.eval, h1]
      exact ⟨_, rfl, γ.1, γ.2, fun _ _ _ h => h, rfl, hp⟩
    · refine ⟨rfl, .inr ⟨by decide, 0, 2, by decide +kernel, by decide +kernel, fun p γ a wx _ hph hp hk => ?_⟩⟩
      obtain ⟨u1, hu1, ru1⟩ := hk.2.1 2 _ 14 rfl rfl (by decide +kernel)
      replace ru1 : u1 = _ := ru1
      subst ru1
      have hbx : RBox w wx #[.int .i64 rev, .slice aj nj cj, .slice an nn cn, .slice al nl cl] := rupBox hp
      have hc : wx.cell? ⟨w.heap.size, 3, none⟩ = some (.slice al nl cl) := hbx.cell 3
      simp [go_sem, Oper.wp, execOp, Act.eval, hu1, hc]
      exact ⟨_, rfl, γ.1, γ.2, fun _ _ _ h => h, rfl, hp⟩
    · refine ⟨rfl, .inl ⟨0, rfl, fun γ a wx hp hk => ?_⟩⟩
      obtain ⟨u1, hu1, ru1⟩ := hk.2.1 3 _ 15 rfl rfl (by decide +kernel)
      replace ru1 : u1 = _ := ru1
      subst ru1
      simp [go_sem, Oper.wp, execOp, Act.eval, hu1]
      obtain ⟨h0, hp⟩ := hp
      refine (copy_lease leases al nl cl wx (HS.out.l.below hp.below |>.more hp.below.size) HS.out.ll (by omega)).mono ?_
      rintro e w' ⟨A', c', rfl, ho, hb⟩
      rw [HS.out.ll] at ho ⊢
      dsimp only at ho ⊢
      have hk' := hp.kept hb
      exact ⟨_, rfl, some (A', c'), γ.2, rupV_4 h0 _, ⟨(A', c'), rfl, rfl⟩, (A', c'), rfl, ⟨hk'.below, hk'.box, hk'.res, hk'.new, fun _ => ownT_base ho (by have := hp.res.lt; omega)⟩⟩
    · refine ⟨rfl, .inr ⟨by decide, 0, 2, by decide +kernel, by decide +kernel, fun p γ a wx _ hph hp hk => ?_⟩⟩
      obtain ⟨u1, hu1, ru1⟩ := hk.2.1 1 _ 13 rfl rfl (by decide +kernel)
      replace ru1 : u1 = _ := ru1
      subst ru1
      obtain ⟨u2, hu2, ru2⟩ := hk.2.1 4 _ 16 rfl rfl (by decide +kernel)
      obtain ⟨y, ey, ru2⟩ := (show ∃ _, _ from ru2)
      subst ru2
      simp [go_sem, Oper.wp, execOp, Act.eval, hu1, hu2]
      exact ⟨_, rfl, γ.1, γ.2, fun _ _ _ h => h, ⟨y, ey, rfl⟩, hp⟩
    · refine ⟨rfl, .inr ⟨by decide, 0, 1, by decide +kernel, by decide +kernel, fun p γ a wx _ hph hp hk => ?_⟩⟩
      simp [go_sem, Oper.wp, execOp, Act.eval, ]
      exact ⟨_, rfl, γ.1, some wx.heap.size, rupV_6 _, ⟨_, rfl, rfl⟩, rupAlloc hph hp⟩
    · refine ⟨rfl, .inl ⟨1, rfl, fun γ a wx hp hk => ?_⟩⟩
      obtain ⟨u1, hu1, ru1⟩ := hk.2.1 6 _ 7 rfl rfl (by decide +kernel)
      obtain ⟨D, eD, ru1⟩ := (show ∃ _, _ from ru1)
      subst ru1
      obtain ⟨u2, hu2, ru2⟩ := hk.2.1 5 _ 17 rfl rfl (by decide +kernel)
      obtain ⟨y, ey, ru2⟩ := (show ∃ _, _ from ru2)
      subst ru2
      obtain ⟨y', ey', hp⟩ := hp
      rw [ey] at ey'
      injection ey' with ey'
      subst ey'
      obtain ⟨hD, hB⟩ := hp.new D eD
      have hB : Blk wx D 26 #[.int .i64 0, .slice none 0 0, .slice none 0 0, .slice none 0 0] := hB
      have z0 : wx.frozen? ⟨D, 0, none⟩ = false := hB.thaw 0
      have c0 : wx.cell? ⟨D, 0, none⟩ = some (.int .i64 0) := hB.cell 0
      have z1 : wx.frozen? ⟨D, 1, none⟩ = false := hB.thaw 1
      have c1 : wx.cell? ⟨D, 1, none⟩ = some (.slice none 0 0) := hB.cell 1
      have z2 : wx.frozen? ⟨D, 2, none⟩ = false := hB.thaw 2
      have c2 : wx.cell? ⟨D, 2, none⟩ = some (.slice none 0 0) := hB.cell 2
      have z3 : wx.frozen? ⟨D, 3, none⟩ = false := hB.thaw 3
      have c3 : wx.cell? ⟨D, 3, none⟩ = some (.slice none 0 0) := hB.cell 3
      have hbl := hB.lt
      have hrl := hp.res.lt
      have hG := bes_set (bes_set (bes_set (bes_set (grow_refl wx D) 0 (.int .i64 rev)) 1 (.slice none 0 0)) 2 (.slice none 0 0)) 3 (.slice y.1 nl y.2)
      have hnew : Blk _ D 26 #[.int .i64 rev, .slice none 0 0, .slice none 0 0, .slice y.1 nl y.2] := Blk.eq ((((hB.set 0 (.int .i64 rev)).set 1 (.slice none 0 0)).set 2 (.slice none 0 0)).set 3 (.slice y.1 nl y.2)) rfl
      have hfin := (show rupPh w ⟨rev, jobs, nodes, leases⟩ ⟨aj, nj, cj, an, nn, cn, al, nl, cl⟩ 2 γ _ from ⟨y, D, ey, eD, ⟨grow_keep hp.below hG (by omega), grow_blk hG hp.box (by omega), grow_blk hG hp.res (by omega), fun D' hD' => by
        rw [eD] at hD'; injection hD' with hD'; subst hD'; exact ⟨hD, hnew⟩, fun _ => own_setOther (own_setOther (own_setOther (own_setOther (hp.l (by omega)) hB (by decide)) (hB.set 0 _) (by decide)) ((hB.set 0 _).set 1 _) (by decide)) (((hB.set 0 _).set 1 _).set 2 _) (by decide)⟩⟩)
      clear hnew hG hp hB
      simp [go_sem, Oper.wp, execOp, Act.eval, hu1, hu2, c0, c1, c2, c3, z0, z1, z2, z3]
      exact ⟨.int .i64 0, γ.1, γ.2, fun _ _ _ h => h, trivial, hfin⟩
  intro γ act wx hd
  obtain ⟨y, D, ey, eD, hp⟩ := (show ∃ y D, _ from hd.ph)
  obtain ⟨fv, rfl, hfv⟩ := hd.frame [12, 13, 14, 15, 16, 17, 7] rfl
  obtain ⟨D', eD', h7⟩ := (show ∃ D, _ from hfv 6 _ 7 rfl rfl)
  rw [eD] at eD'
  injection eD' with eD'
  subst eD'
  obtain ⟨hD, hB⟩ := hp.new D eD
  have hB : Blk wx D 26 #[.int .i64 rev, .slice none 0 0, .slice none 0 0, .slice y.1 nl y.2] := hB
  have HL0 := (show RupL w wx D #[.int .i64 rev, .slice none 0 0, .slice none 0 0, .slice y.1 nl y.2] ⟨rev, jobs, nodes, leases⟩ ⟨aj, nj, cj, an, nn, cn, al, nl, cl⟩ y wx from ⟨hp.below, hp.box, hp.res, hB, hp.l (by omega), Nat.le_refl _, hD, hB.lt⟩)
  have hrs := hp.res.lt
  clear hd hp hB H0 hfv ey eD
  have hDl := HL0.new.lt
  have HL1 := HL0
  clear HL0
  have Hl1 := Lib.hid HL1
  have hbW : w.heap.size + 2 ≤ wx.heap.size := by have := HL1.at_; omega
  have hDW : D < wx.heap.size := HL1.at_.2
  have H7 := h7
  have yb1 : wx.cell? ⟨w.heap.size, 1, none⟩ = some (.slice aj nj cj) := HL1.box.cell 1
  clear HL1
  simp [Exit.then, h7]
  go_wp2
  go_loopw [28] (fun i wr => ∃ (k : Nat) (A : Option Addr) (c : Nat), k ≤ nj ∧ i = .int .i64 k ∧ RupL w wx D #[.int .i64 rev, .slice A k c, .slice none 0 0, .slice y.1 nl y.2] ⟨rev, jobs, nodes, leases⟩ ⟨aj, nj, cj, an, nn, cn, al, nl, cl⟩ y wr ∧ wr.ownsRow wx.heap.size 49 5 (.slice A k c) k (rowsV jobV (jobs.take k))) (fun i _ => nj - (intOf i).toNat)
  case atStart => exact ⟨0, none, 0, Nat.zero_le _, rfl, Hl1.out, World.ownsRow_nil _ _ _ _⟩
  case round =>
    clear Hl1 yb1
    obtain ⟨k, A, c, hk, rfl, hL, ho⟩ := hrel
    have HL := Lib.hid hL
    have Ho := Lib.hid ho
    have hDr := hL.new.lt
    have hsr := hL.size
    have hbr := hL.below.size
    have HoLt := Lib.hid ho.lt
    have y1 : wr.cell? ⟨D, 1, none⟩ = some (.slice A k c) := hL.new.cell 1
    by_cases hlt : k < nj
    · obtain ⟨r, hf⟩ : ∃ r, jobs[k]? = some r := ⟨_, List.getElem?_eq_getElem (by have := HS.out.lj; dsimp only at this; omega)⟩
      obtain ⟨b, off, hao, hbB, hc⟩ := (HS.out.j.below hL.below).rec_ jobV_len HS.out.lj hf
      dsimp only at hao
      subst hao
      have Hf := Lib.hid hf
      obtain ⟨name, prio, need, tries, tag⟩ := r
      have c0 : wr.cell? ⟨b, off + k * 5, none⟩ = some (.string name) := hc 0 _ rfl
      have c1 : wr.cell? ⟨b, off + k * 5 + 1, none⟩ = some (.int .i64 prio) := hc 1 _ rfl
      have c2 : wr.cell? ⟨b, off + k * 5 + 2, none⟩ = some (.int .i64 need) := hc 2 _ rfl
      have c3 : wr.cell? ⟨b, off + k * 5 + 3, none⟩ = some (.int .i64 tries) := hc 3 _ rfl
      have c4 : wr.cell? ⟨b, off + k * 5 + 4, none⟩ = some (.string tag) := hc 4 _ rfl
      have hlb : b < wr.heap.size := by omega
      have hA : Below wr.heap.size wr (wr.alloc (.cells #[.string name, .int .i64 prio, .int .i64 need, .int .i64 tries, .string tag] 49)) := (Below.refl _ _).alloc (Nat.le_refl _) _
      have HJ := Lib.hid (show Blk (wr.alloc (.cells #[.string name, .int .i64 prio, .int .i64 need, .int .i64 tries, .string tag] 49)) wr.heap.size 49 #[.string name, .int .i64 prio, .int .i64 need, .int .i64 tries, .string tag] from heap_alloc_new wr _)
      have hsA : (wr.alloc (.cells #[.string name, .int .i64 prio, .int .i64 need, .int .i64 tries, .string tag] 49)).heap.size = wr.heap.size + 1 := by simp
      have HL2 := Lib.hid (hL.kept hA)
      have HO2 := Lib.hid (ownU_below ho hA)
      clear hc hf hA hL ho HJ
      have hbrW : wx.heap.size ≤ (wr.alloc (.cells #[.string name, .int .i64 prio, .int .i64 need, .int .i64 tries, .string tag] 49)).heap.size := by omega
      go_wp2_with (at_builtin; refine push_rec jobV rfl _ _ 22 49 (.agg #[.string ⟨#[]⟩, .int .i64 0, .int .i64 0, .int .i64 0, .string ⟨#[]⟩]) 5 56 rfl Tryd.underlying22 infoJobT rfl (by decide) jobV_len jobV_oneT wx.heap.size _ _ _ _ rfl HO2.out _ ⟨name, prio, need, tries, tag⟩ rfl _ (by simp) rfl (by omega) (by unfold maxLen; omega) hbrW ?_; intro A2 c2 w4 ho4 hg4; have HL4 := HL2.out.grew hg4 HO2.out (by decide) hbW; have d1 : w4.cell? ⟨D, 1, none⟩ = some (.slice A k c) := HL4.new.cell 1; have z1 : w4.frozen? ⟨D, 1, none⟩ = false := HL4.new.thaw 1; have hd4 := HL4.new.lt)
      go_roundw
      case rel => exact ⟨k + 1, A2, c2, by omega, by go_num, HL4.set rfl, by rw [id_take_succ Hf.out]; exact own_setOther ho4 HL4.new (by decide)⟩
      case measure => simp [intOf]; omega
    · obtain rfl : nj = k := by omega
      have htk : jobs.take nj = jobs := List.take_of_length_le (by have := HS.out.lj; dsimp only at this; omega)
      rw [htk] at ho
      have HOJ := Lib.hid ho
      have Hl2 := Lib.hid hL
      have yb2 : wr.cell? ⟨w.heap.size, 2, none⟩ = some (.slice an nn cn) := hL.box.cell 2
      clear hL ho htk Ho HoLt HL y1
      go_wp2
      go_loopw [56] (fun i wr => ∃ (q : Nat) (AN : Option Addr) (cN : Nat), q ≤ nn ∧ i = .int .i64 q ∧ RupL w wx D #[.int .i64 rev, .slice A nj c, .slice AN q cN, .slice y.1 nl y.2] ⟨rev, jobs, nodes, leases⟩ ⟨aj, nj, cj, an, nn, cn, al, nl, cl⟩ y wr ∧ wr.ownsRow wx.heap.size 49 5 (.slice A nj c) nj (rowsV jobV (jobs)) ∧ wr.ownsRow wx.heap.size 54 3 (.slice AN q cN) q (rowsV nodeV (nodes.take q))) (fun i _ => nn - (intOf i).toNat)
      case atStart => exact ⟨0, none, 0, Nat.zero_le _, rfl, Hl2.out, HOJ.out, World.ownsRow_nil _ _ _ _⟩
      case round =>
        clear Hl2 HOJ yb2 hDr hsr hbr
        obtain ⟨q, AN, cN, hq, rfl, hL, hoJ, ho⟩ := hrel
        have HL := Lib.hid hL
        have HOJ := Lib.hid hoJ
        have hDr := hL.new.lt
        have hsr := hL.size
        have hbr := hL.below.size
        have y2 : wr.cell? ⟨D, 2, none⟩ = some (.slice AN q cN) := hL.new.cell 2
        by_cases hltq : q < nn
        · obtain ⟨r, hf⟩ : ∃ r, nodes[q]? = some r := ⟨_, List.getElem?_eq_getElem (by have := HS.out.ln; dsimp only at this; omega)⟩
          obtain ⟨b, off, hao, hbB, hc⟩ := (HS.out.n.below hL.below).rec_ nodeV_len HS.out.ln hf
          dsimp only at hao
          subst hao
          have Hf := Lib.hid hf
          obtain ⟨name, room, zone⟩ := r
          have c0 : wr.cell? ⟨b, off + q * 3, none⟩ = some (.string name) := hc 0 _ rfl
          have c1 : wr.cell? ⟨b, off + q * 3 + 1, none⟩ = some (.int .i64 room) := hc 1 _ rfl
          have c2 : wr.cell? ⟨b, off + q * 3 + 2, none⟩ = some (.string zone) := hc 2 _ rfl
          have hlb : b < wr.heap.size := by omega
          have hA : Below wr.heap.size wr (wr.alloc (.cells #[.string name, .int .i64 room, .string zone] 54)) := (Below.refl _ _).alloc (Nat.le_refl _) _
          have hsA : (wr.alloc (.cells #[.string name, .int .i64 room, .string zone] 54)).heap.size = wr.heap.size + 1 := by simp
          have HL2 := Lib.hid (hL.kept hA)
          have HO2 := Lib.hid (ownU_below ho hA)
          have HJ2 := Lib.hid (ownU_below hoJ hA)
          have hbrW : wx.heap.size ≤ (wr.alloc (.cells #[.string name, .int .i64 room, .string zone] 54)).heap.size := by omega
          clear hc hf hA hL ho hoJ
          go_wp2_with (at_builtin; refine push_rec nodeV rfl _ _ 23 54 (.agg #[.string ⟨#[]⟩, .int .i64 0, .string ⟨#[]⟩]) 3 40 rfl Tryd.underlying23 infoNodeT rfl (by decide) nodeV_len nodeV_oneT wx.heap.size _ _ _ _ rfl HO2.out _ ⟨name, room, zone⟩ rfl _ (by simp) rfl (by omega) (by unfold maxLen; omega) hbrW ?_; intro A2 c2 w4 ho4 hg4; have HL4 := HL2.out.grew hg4 HO2.out (by decide) hbW; have hJ4 := own_grewOther HJ2.out hg4 HO2.out (by decide); have d1 : w4.cell? ⟨D, 2, none⟩ = some (.slice AN q cN) := HL4.new.cell 2; have z1 : w4.frozen? ⟨D, 2, none⟩ = false := HL4.new.thaw 2; have hd4 := HL4.new.lt)
          go_roundw
          case rel => exact ⟨q + 1, A2, c2, by omega, by go_num, HL4.set rfl, own_setOther hJ4 HL4.new (by decide), by rw [id_take_succ Hf.out]; exact own_setOther ho4 HL4.new (by decide)⟩
          case measure => simp [intOf]; omega
        · obtain rfl : nn = q := by omega
          have htk : nodes.take nn = nodes := List.take_of_length_le (by have := HS.out.ln; dsimp only at this; omega)
          rw [htk] at ho
          have hR := hL.res
          have hrl := hR.lt
          have b0 : wr.cell? ⟨D, 0, none⟩ = some (.int .i64 rev) := hL.new.cell 0
          have b1 : wr.cell? ⟨D, 1, none⟩ = some (.slice A nj c) := hL.new.cell 1
          have b2 : wr.cell? ⟨D, 2, none⟩ = some (.slice AN nn cN) := hL.new.cell 2
          have b3 : wr.cell? ⟨D, 3, none⟩ = some (.slice y.1 nl y.2) := hL.new.cell 3
          have u0 : wr.frozen? ⟨w.heap.size + 1, 0, none⟩ = false := hR.thaw 0
          have s0 : wr.cell? ⟨w.heap.size + 1, 0, none⟩ = some (.int .i64 0) := hR.cell 0
          have u1 : wr.frozen? ⟨w.heap.size + 1, 1, none⟩ = false := hR.thaw 1
          have s1 : wr.cell? ⟨w.heap.size + 1, 1, none⟩ = some (.slice none 0 0) := hR.cell 1
          have u2 : wr.frozen? ⟨w.heap.size + 1, 2, none⟩ = false := hR.thaw 2
          have s2 : wr.cell? ⟨w.heap.size + 1, 2, none⟩ = some (.slice none 0 0) := hR.cell 2
          have u3 : wr.frozen? ⟨w.heap.size + 1, 3, none⟩ = false := hR.thaw 3
          have s3 : wr.cell? ⟨w.heap.size + 1, 3, none⟩ = some (.slice none 0 0) := hR.cell 3
          have hR4 := (Blk.eq ((Blk.eq ((Blk.eq ((Blk.eq (hR.set 0 (.int .i64 rev)) (show _ = #[.int .i64 rev, .slice none 0 0, .slice none 0 0, .slice none 0 0] from rfl)).set 1 (.slice A nj c)) (show _ = #[.int .i64 rev, .slice A nj c, .slice none 0 0, .slice none 0 0] from rfl)).set 2 (.slice AN nn cN)) (show _ = #[.int .i64 rev, .slice A nj c, .slice AN nn cN, .slice none 0 0] from rfl)).set 3 (.slice y.1 nl y.2)) (show _ = #[.int .i64 rev, .slice A nj c, .slice AN nn cN, .slice y.1 nl y.2] from rfl))
          have q0 := (show _ = (some (.int .i64 rev) : Option Value) from hR4.cell 0)
          have q1 := (show _ = (some (.slice A nj c) : Option Value) from hR4.cell 1)
          have q2 := (show _ = (some (.slice AN nn cN) : Option Value) from hR4.cell 2)
          have q3 := (show _ = (some (.slice y.1 nl y.2) : Option Value) from hR4.cell 3)
          have hG4 := (bes_set (bes_set (bes_set (bes_set (grow_refl wr (w.heap.size + 1)) 0 (.int .i64 rev)) 1 (.slice A nj c)) 2 (.slice AN nn cN)) 3 (.slice y.1 nl y.2))
          have hne := hL.at_
          have hsame : ∀ (i : Nat) (u : Value) (W : World) (g : Nat), True := fun _ _ _ _ => trivial
          have Hend := Lib.hid (show StepsPost (upSt ⟨rev, jobs, nodes, leases⟩ 1 1) ⟨aj, nj, cj, an, nn, cn, al, nl, cl⟩ w (.returned (.agg #[.int .i64 rev, .slice A nj c, .slice AN nn cN, .slice y.1 nl y.2])) _ from by
            rw [Hup.out]
            exact ⟨⟨A, nj, c, AN, nn, cN, y.1, nl, y.2⟩, rfl, rfl, rfl, rfl, ⟨ownT_base (ownT_grow hoJ hG4 (by omega)) (by omega), ownT_base (ownT_grow ho hG4 (by omega)) (by omega), ownT_base (ownT_grow hL.l hG4 (by omega)) (by omega), by have := HS.out.lj; dsimp only at this ⊢; exact this, by have := HS.out.ln; dsimp only at this ⊢; exact this, HS.out.ll⟩, grow_keep hL.below hG4 (by omega)⟩)
          clear hL hR hR4 hG4 ho hoJ HL HOJ htk hsame
          go_wp2
          refine bodyPost_ret (v := .agg #[.int .i64 rev, .slice A nj c, .slice AN nn cN, .slice y.1 nl y.2]) (by simp [results, Tryd.results51, go_sem, *]) rfl ?_
          exact Hend.out
set_option maxRecDepth 100000 in
set_option maxHeartbeats 4000000 in
theorem rup_12 (st : StateD) (x : StA) (w : World) (hS : StAt w w.heap.size st x) (h1 : x.nj ≤ 1000) (h2 : x.nn ≤ 1000) (h3 : x.nl ≤ 1000) :
    Calls Tryd.prog 51 #[.agg (stC st x), .int .i64 1, .int .i64 2] w (StepsPost (upSt st 1 2) x w) := by
  have hb1 : Below w.heap.size w (w.alloc (.cells (stC st x) 26)) := (Below.refl _ _).alloc (Nat.le_refl _) _
  have hb2 := hb1.alloc hb1.size (.cells #[.int .i64 0, .slice none 0 0, .slice none 0 0, .slice none 0 0] 26)
  have H0 : rupPh w st x 0 (none, none) (((w.alloc (.cells (stC st x) 26)).alloc (.cells #[.int .i64 0, .slice none 0 0, .slice none 0 0, .slice none 0 0] 26))).drew :=
    ⟨rfl, hb2.drew, Blk.alloc (show Blk _ _ _ _ from heap_alloc_new w _) _, by
      have h := heap_alloc_new (w.alloc (.cells (stC st x) 26)) (.cells #[.int .i64 0, .slice none 0 0, .slice none 0 0, .slice none 0 0] 26)
      rw [show (w.alloc (.cells (stC st x) 26)).heap.size = w.heap.size + 1 by simp] at h
      exact h, (fun D hD => by cases hD), fun h => absurd h (by omega)⟩
  have HS := Lib.hid hS
  have Hup := Lib.hid (show upSt st 1 2 = ⟨st.rev, st.jobs.map (upJ st.leases), st.nodes.map upN, st.leases⟩ from by unfold upSt; rw [if_neg (by decide)]; rw [if_pos (by decide), if_pos (by decide)])
  clear hb1 hb2 hS
  obtain ⟨rev, jobs, nodes, leases⟩ := st
  obtain ⟨aj, nj, cj, an, nn, cn, al, nl, cl⟩ := x
  unfold stC at *
  dsimp only at *
  go_enter Tryd.func51, Tryd.ntmps51
  go_wp2_with fail
  refine wp_region_phasesG (n := 75) (by kernel_rfl) (rupV w.heap.size rev al nl cl) [4, 7] (rupPh w ⟨rev, jobs, nodes, leases⟩ ⟨aj, nj, cj, an, nn, cn, al, nl, cl⟩) (none, none) (by decide +kernel) (by decide +kernel) rfl H0 ?_ ?_
  · refine ⟨?_, ?_, ?_, ?_, ?_, ?_, ?_, ?_, trivial⟩
    · refine ⟨rfl, .inr ⟨by decide, 0, 2, by decide +kernel, by decide +kernel, fun p γ a wx _ hph hp hk => ?_⟩⟩
      have h1 := hk.1 3 _ rfl (by decide +kernel)
      simp [go_sem, Oper.wp, execOp, Act.eval, h1]
      exact ⟨_, rfl, γ.1, γ.2, fun _ _ _ h => h, rfl, hp⟩
    · refine ⟨rfl, .inr ⟨by decide, 0, 2, by decide +kernel, by decide +kernel, fun p γ a wx _ hph hp hk => ?_⟩⟩
      obtain ⟨u1, hu1, ru1⟩ := hk.2.1 0 _ 12 rfl rfl (by decide +kernel)
      replace ru1 : u1 = _ := ru1
      subst ru1
      have hbx : RBox w wx #[.int .i64 rev, .slice aj nj cj, .slice an nn cn, .slice al nl cl] := rupBox hp
      have hc : wx.cell? ⟨w.heap.size, 0, none⟩ = some (.int .i64 rev) := hbx.cell 0
      simp [go_sem, Oper.wp, execOp, Act.eval, hu1, hc]
      exact ⟨_, rfl, γ.1, γ.2, fun _ _ _ h => h, rfl, hp⟩
    · refine ⟨rfl, .inr ⟨by decide, 0, 2, by decide +kernel, by decide +kernel, fun p γ a wx _ hph hp hk => ?_⟩⟩
      have h1 := hk.1 3 _ rfl (by decide +kernel)
      simp [go_sem, Oper.wp, execOp, Act.eval, h1]
      exact ⟨_, rfl, γ.1, γ.2, fun _ _ _ h => h, rfl, hp⟩
    · refine ⟨rfl, .inr ⟨by decide, 0, 2, by decide +kernel, by decide +kernel, fun p γ a wx _ hph hp hk => ?_⟩⟩
      obtain ⟨u1, hu1, ru1⟩ := hk.2.1 2 _ 14 rfl rfl (by decide +kernel)
      replace ru1 : u1 = _ := ru1
      subst ru1
      have hbx : RBox w wx #[.int .i64 rev, .slice aj nj cj, .slice an nn cn, .slice al nl cl] := rupBox hp
      have hc : wx.cell? ⟨w.heap.size, 3, none⟩ = some (.slice al nl cl) := hbx.cell 3
      simp [go_sem, Oper.wp, execOp, Act.eval, hu1, hc]
      exact ⟨_, rfl, γ.1, γ.2, fun _ _ _ h => h, rfl, hp⟩
    · refine ⟨rfl, .inl ⟨0, rfl, fun γ a wx hp hk => ?_⟩⟩
      obtain ⟨u1, hu1, ru1⟩ := hk.2.1 3 _ 15 rfl rfl (by decide +kernel)
      replace ru1 : u1 = _ := ru1
      subst ru1
      simp [go_sem, Oper.wp, execOp, Act.eval, hu1]
      obtain ⟨h0, hp⟩ := hp
      refine (copy_lease leases al nl cl wx (HS.out.l.below hp.below |>.more hp.below.size) HS.out.ll (by omega)).mono ?_
      rintro e w' ⟨A', c', rfl, ho, hb⟩
      rw [HS.out.ll] at ho ⊢
      dsimp only at ho ⊢
      have hk' := hp.kept hb
      exact ⟨_, rfl, some (A', c'), γ.2, rupV_4 h0 _, ⟨(A', c'), rfl, rfl⟩, (A', c'), rfl, ⟨hk'.below, hk'.box, hk'.res, hk'.new, fun _ => ownT_base ho (by have := hp.res.lt; omega)⟩⟩
    · refine ⟨rfl, .inr ⟨by decide, 0, 2, by decide +kernel, by decide +kernel, fun p γ a wx _ hph hp hk => ?_⟩⟩
      obtain ⟨u1, hu1, ru1⟩ := hk.2.1 1 _ 13 rfl rfl (by decide +kernel)
      replace ru1 : u1 = _ := ru1
      subst ru1
      obtain ⟨u2, hu2, ru2⟩ := hk.2.1 4 _ 16 rfl rfl (by decide +kernel)
      obtain ⟨y, ey, ru2⟩ := (show ∃ _, _ from ru2)
      subst ru2
      simp [go_sem, Oper.wp, execOp, Act.eval, hu1, hu2]
      exact ⟨_, rfl, γ.1, γ.2, fun _ _ _ h => h, ⟨y, ey, rfl⟩, hp⟩
    · refine ⟨rfl, .inr ⟨by decide, 0, 1, by decide +kernel, by decide +kernel, fun p γ a wx _ hph hp hk => ?_⟩⟩
      simp [go_sem, Oper.wp, execOp, Act.eval, ]
      exact ⟨_, rfl, γ.1, some wx.heap.size, rupV_6 _, ⟨_, rfl, rfl⟩, rupAlloc hph hp⟩
    · refine ⟨rfl, .inl ⟨1, rfl, fun γ a wx hp hk => ?_⟩⟩
      obtain ⟨u1, hu1, ru1⟩ := hk.2.1 6 _ 7 rfl rfl (by decide +kernel)
      obtain ⟨D, eD, ru1⟩ := (show ∃ _, _ from ru1)
      subst ru1
      obtain ⟨u2, hu2, ru2⟩ := hk.2.1 5 _ 17 rfl rfl (by decide +kernel)
      obtain ⟨y, ey, ru2⟩ := (show ∃ _, _ from ru2)
      subst ru2
      obtain ⟨y', ey', hp⟩ := hp
      rw [ey] at ey'
      injection ey' with ey'
      subst ey'
      obtain ⟨hD, hB⟩ := hp.new D eD
      have hB : Blk wx D 26 #[.int .i64 0, .slice none 0 0, .slice none 0 0, .slice none 0 0] := hB
      have z0 : wx.frozen? ⟨D, 0, none⟩ = false := hB.thaw 0
      have c0 : wx.cell? ⟨D, 0, none⟩ = some (.int .i64 0) := hB.cell 0
      have z1 : wx.frozen? ⟨D, 1, none⟩ = false := hB.thaw 1
      have c1 : wx.cell? ⟨D, 1, none⟩ = some (.slice none 0 0) := hB.cell 1
      have z2 : wx.frozen? ⟨D, 2, none⟩ = false := hB.thaw 2
      have c2 : wx.cell? ⟨D, 2, none⟩ = some (.slice none 0 0) := hB.cell 2
      have z3 : wx.frozen? ⟨D, 3, none⟩ = false := hB.thaw 3
      have c3 : wx.cell? ⟨D, 3, none⟩ = some (.slice none 0 0) := hB.cell 3
      have hbl := hB.lt
      have hrl := hp.res.lt
      have hG := bes_set (bes_set (bes_set (bes_set (grow_refl wx D) 0 (.int .i64 rev)) 1 (.slice none 0 0)) 2 (.slice none 0 0)) 3 (.slice y.1 nl y.2)
      have hnew : Blk _ D 26 #[.int .i64 rev, .slice none 0 0, .slice none 0 0, .slice y.1 nl y.2] := Blk.eq ((((hB.set 0 (.int .i64 rev)).set 1 (.slice none 0 0)).set 2 (.slice none 0 0)).set 3 (.slice y.1 nl y.2)) rfl
      have hfin := (show rupPh w ⟨rev, jobs, nodes, leases⟩ ⟨aj, nj, cj, an, nn, cn, al, nl, cl⟩ 2 γ _ from ⟨y, D, ey, eD, ⟨grow_keep hp.below hG (by omega), grow_blk hG hp.box (by omega), grow_blk hG hp.res (by omega), fun D' hD' => by
        rw [eD] at hD'; injection hD' with hD'; subst hD'; exact ⟨hD, hnew⟩, fun _ => own_setOther (own_setOther (own_setOther (own_setOther (hp.l (by omega)) hB (by decide)) (hB.set 0 _) (by decide)) ((hB.set 0 _).set 1 _) (by decide)) (((hB.set 0 _).set 1 _).set 2 _) (by decide)⟩⟩)
      clear hnew hG hp hB
      simp [go_sem, Oper.wp, execOp, Act.eval, hu1, hu2, c0, c1, c2, c3, z0, z1, z2, z3]
      exact ⟨.int .i64 0, γ.1, γ.2, fun _ _ _ h => h, trivial, hfin⟩
  intro γ act wx hd
  obtain ⟨y, D, ey, eD, hp⟩ := (show ∃ y D, _ from hd.ph)
  obtain ⟨fv, rfl, hfv⟩ := hd.frame [12, 13, 14, 15, 16, 17, 7] rfl
  obtain ⟨D', eD', h7⟩ := (show ∃ D, _ from hfv 6 _ 7 rfl rfl)
  rw [eD] at eD'
  injection eD' with eD'
  subst eD'
  obtain ⟨hD, hB⟩ := hp.new D eD
  have hB : Blk wx D 26 #[.int .i64 rev, .slice none 0 0, .slice none 0 0, .slice y.1 nl y.2] := hB
  have HL0 := (show RupL w wx D #[.int .i64 rev, .slice none 0 0, .slice none 0 0, .slice y.1 nl y.2] ⟨rev, jobs, nodes, leases⟩ ⟨aj, nj, cj, an, nn, cn, al, nl, cl⟩ y wx from ⟨hp.below, hp.box, hp.res, hB, hp.l (by omega), Nat.le_refl _, hD, hB.lt⟩)
  have hrs := hp.res.lt
  clear hd hp hB H0 hfv ey eD
  have hDl := HL0.new.lt
  have HL1 := HL0
  clear HL0
  have Hl1 := Lib.hid HL1
  have hbW : w.heap.size + 2 ≤ wx.heap.size := by have := HL1.at_; omega
  have hDW : D < wx.heap.size := HL1.at_.2
  have H7 := h7
  have yb1 : wx.cell? ⟨w.heap.size, 1, none⟩ = some (.slice aj nj cj) := HL1.box.cell 1
  clear HL1
  simp [Exit.then, h7]
  go_wp2
  go_loopw [28] (fun i wr => ∃ (k : Nat) (A : Option Addr) (c : Nat), k ≤ nj ∧ i = .int .i64 k ∧ RupL w wx D #[.int .i64 rev, .slice A k c, .slice none 0 0, .slice y.1 nl y.2] ⟨rev, jobs, nodes, leases⟩ ⟨aj, nj, cj, an, nn, cn, al, nl, cl⟩ y wr ∧ wr.ownsRow wx.heap.size 49 5 (.slice A k c) k (rowsV jobV ((jobs.take k).map (upJ leases)))) (fun i _ => nj - (intOf i).toNat)
  case atStart => exact ⟨0, none, 0, Nat.zero_le _, rfl, Hl1.out, World.ownsRow_nil _ _ _ _⟩
  case round =>
    clear Hl1 yb1
    obtain ⟨k, A, c, hk, rfl, hL, ho⟩ := hrel
    have HL := Lib.hid hL
    have Ho := Lib.hid ho
    have hDr := hL.new.lt
    have hsr := hL.size
    have hbr := hL.below.size
    have HoLt := Lib.hid ho.lt
    have y1 : wr.cell? ⟨D, 1, none⟩ = some (.slice A k c) := hL.new.cell 1
    by_cases hlt : k < nj
    · obtain ⟨r, hf⟩ : ∃ r, jobs[k]? = some r := ⟨_, List.getElem?_eq_getElem (by have := HS.out.lj; dsimp only at this; omega)⟩
      obtain ⟨b, off, hao, hbB, hc⟩ := (HS.out.j.below hL.below).rec_ jobV_len HS.out.lj hf
      dsimp only at hao
      subst hao
      have Hf := Lib.hid hf
      obtain ⟨name, prio, need, tries, tag⟩ := r
      have c0 : wr.cell? ⟨b, off + k * 5, none⟩ = some (.string name) := hc 0 _ rfl
      have c1 : wr.cell? ⟨b, off + k * 5 + 1, none⟩ = some (.int .i64 prio) := hc 1 _ rfl
      have c2 : wr.cell? ⟨b, off + k * 5 + 2, none⟩ = some (.int .i64 need) := hc 2 _ rfl
      have c3 : wr.cell? ⟨b, off + k * 5 + 3, none⟩ = some (.int .i64 tries) := hc 3 _ rfl
      have c4 : wr.cell? ⟨b, off + k * 5 + 4, none⟩ = some (.string tag) := hc 4 _ rfl
      have hlb : b < wr.heap.size := by omega
      have hA : Below wr.heap.size wr (wr.alloc (.cells #[.string name, .int .i64 prio, .int .i64 need, .int .i64 0, .string tag] 49)) := (Below.refl _ _).alloc (Nat.le_refl _) _
      have HJ := Lib.hid (show Blk (wr.alloc (.cells #[.string name, .int .i64 prio, .int .i64 need, .int .i64 0, .string tag] 49)) wr.heap.size 49 #[.string name, .int .i64 prio, .int .i64 need, .int .i64 0, .string tag] from heap_alloc_new wr _)
      have hsA : (wr.alloc (.cells #[.string name, .int .i64 prio, .int .i64 need, .int .i64 0, .string tag] 49)).heap.size = wr.heap.size + 1 := by simp
      have HL2 := Lib.hid (hL.kept hA)
      have HO2 := Lib.hid (ownU_below ho hA)
      have hC := leaseAt_any leases name al nl cl (wr.alloc (.cells #[.string name, .int .i64 prio, .int .i64 need, .int .i64 0, .string tag] 49)) ((HS.out.l.below (HL2.out.below)).more HL2.out.below.size) HS.out.ll HS.out.bl
      have HC := Lib.hid hC
      have yb3 : wr.cell? ⟨w.heap.size, 3, none⟩ = some (.slice al nl cl) := hL.box.cell 3
      have hbx := hL.box.lt
      clear hc hf hA hL ho hC
      go_wp2_with fail
      refine Calls.mono HC.out ?_
      rintro e w3 ⟨i, rfl, hb3, hcase⟩
      have HL3 := Lib.hid (HL2.out.kept hb3)
      have HO3 := Lib.hid (ownU_below HO2.out hb3)
      have HJ3 := Lib.hid (HJ.out.below hb3 HJ.out.lt)
      have hs3 := hb3.size
      rw [hsA] at hs3
      have hfa := find_any LeaseD.job name leases
      unfold leaseOf at hcase
      have y1 : w3.cell? ⟨D, 1, none⟩ = some (.slice A k c) := HL3.out.new.cell 1
      have hDr3 := HL3.out.new.lt
      have hJl := HJ3.out.lt
      have j0 : w3.cell? ⟨wr.heap.size, 0, none⟩ = some (.string name) := HJ3.out.cell 0
      have j1 : w3.cell? ⟨wr.heap.size, 1, none⟩ = some (.int .i64 prio) := HJ3.out.cell 1
      have j2 : w3.cell? ⟨wr.heap.size, 2, none⟩ = some (.int .i64 need) := HJ3.out.cell 2
      have j3 : w3.cell? ⟨wr.heap.size, 3, none⟩ = some (.int .i64 0) := HJ3.out.cell 3
      have j4 : w3.cell? ⟨wr.heap.size, 4, none⟩ = some (.string tag) := HJ3.out.cell 4
      have jz : w3.frozen? ⟨wr.heap.size, 3, none⟩ = false := HJ3.out.thaw 3
      rcases hcase with ⟨rfl, hnone⟩ | ⟨kk, xx, rfl, hxx, hsome⟩
      · rw [hnone] at hfa
        have Hu := Lib.hid (show upJ leases ⟨name, prio, need, tries, tag⟩ = ⟨name, prio, need, 0, tag⟩ from by unfold upJ; rw [← hfa]; rfl)
        clear hb3 hfa hnone c0 c1 c2 c3 c4 jz
        have hbrW : wx.heap.size ≤ (w3).heap.size := by have := HL3.out.size; omega
        go_wp2_with (at_builtin; refine push_rec jobV rfl _ _ 22 49 (.agg #[.string ⟨#[]⟩, .int .i64 0, .int .i64 0, .int .i64 0, .string ⟨#[]⟩]) 5 56 rfl Tryd.underlying22 infoJobT rfl (by decide) jobV_len jobV_oneT wx.heap.size _ _ _ _ rfl HO3.out _ ⟨name, prio, need, 0, tag⟩ rfl _ (by simp) rfl (by omega) (by unfold maxLen; omega) hbrW ?_; intro A2 c2 w4 ho4 hg4; have HL4 := HL3.out.grew hg4 HO3.out (by decide) hbW; have d1 : w4.cell? ⟨D, 1, none⟩ = some (.slice A k c) := HL4.new.cell 1; have z1 : w4.frozen? ⟨D, 1, none⟩ = false := HL4.new.thaw 1; have hd4 := HL4.new.lt)
        go_roundw
        case rel => exact ⟨k + 1, A2, c2, by omega, by go_num, HL4.set rfl, by rw [map_take_succ _ Hf.out, Hu.out]; exact own_setOther ho4 HL4.new (by decide)⟩
        case measure => simp [intOf]; omega
      · rw [hsome] at hfa
        have Hu := Lib.hid (show upJ leases ⟨name, prio, need, tries, tag⟩ = ⟨name, prio, need, 1, tag⟩ from by unfold upJ; rw [← hfa]; rfl)
        have d0 : decide ((0 : Int) ≤ (kk : Int)) = true := decide_eq_true (by omega)
        have hJs : Blk (w3.setCell ⟨wr.heap.size, 3, none⟩ (.int .i64 1)) wr.heap.size 49 #[.string name, .int .i64 prio, .int .i64 need, .int .i64 1, .string tag] := Blk.eq (HJ3.out.set 3 (.int .i64 1)) rfl
        have HL5 := Lib.hid (show RupL w wx D _ ⟨rev, jobs, nodes, leases⟩ ⟨some ⟨b, off, none⟩, nj, cj, an, nn, cn, al, nl, cl⟩ y (w3.setCell ⟨wr.heap.size, 3, none⟩ (.int .i64 1)) from HL3.out.setAbove HJ3.out hDr)
        have HO5 := Lib.hid (show (w3.setCell ⟨wr.heap.size, 3, none⟩ (.int .i64 1)).ownsRow wx.heap.size 49 5 (.slice A k c) k (rowsV jobV ((jobs.take k).map (upJ leases))) from own_setNe HO3.out (fun q hq => by have := HoLt.out q hq; omega))
        have hbrS : wx.heap.size ≤ (w3.setCell ⟨wr.heap.size, 3, none⟩ (.int .i64 1)).heap.size := HL5.out.size
        have k0 : (w3.setCell ⟨wr.heap.size, 3, none⟩ (.int .i64 1)).cell? ⟨wr.heap.size, 0, none⟩ = some (.string name) := hJs.cell 0
        have k1 : (w3.setCell ⟨wr.heap.size, 3, none⟩ (.int .i64 1)).cell? ⟨wr.heap.size, 1, none⟩ = some (.int .i64 prio) := hJs.cell 1
        have k2 : (w3.setCell ⟨wr.heap.size, 3, none⟩ (.int .i64 1)).cell? ⟨wr.heap.size, 2, none⟩ = some (.int .i64 need) := hJs.cell 2
        have k3 : (w3.setCell ⟨wr.heap.size, 3, none⟩ (.int .i64 1)).cell? ⟨wr.heap.size, 3, none⟩ = some (.int .i64 1) := hJs.cell 3
        have k4 : (w3.setCell ⟨wr.heap.size, 3, none⟩ (.int .i64 1)).cell? ⟨wr.heap.size, 4, none⟩ = some (.string tag) := hJs.cell 4
        clear hb3 hfa hsome c0 c1 c2 c3 c4 hJs
        have hbrW : wx.heap.size ≤ (w3.setCell ⟨wr.heap.size, 3, none⟩ (.int .i64 1)).heap.size := hbrS
        go_wp2_with (at_builtin; refine push_rec jobV rfl _ _ 22 49 (.agg #[.string ⟨#[]⟩, .int .i64 0, .int .i64 0, .int .i64 0, .string ⟨#[]⟩]) 5 56 rfl Tryd.underlying22 infoJobT rfl (by decide) jobV_len jobV_oneT wx.heap.size _ _ _ _ rfl HO5.out _ ⟨name, prio, need, 1, tag⟩ rfl _ (by simp) rfl (by omega) (by unfold maxLen; omega) hbrW ?_; intro A2 c2 w4 ho4 hg4; have HL4 := HL5.out.grew hg4 HO5.out (by decide) hbW; have d1 : w4.cell? ⟨D, 1, none⟩ = some (.slice A k c) := HL4.new.cell 1; have z1 : w4.frozen? ⟨D, 1, none⟩ = false := HL4.new.thaw 1; have hd4 := HL4.new.lt)
        go_roundw
        case rel => exact ⟨k + 1, A2, c2, by omega, by go_num, HL4.set rfl, by rw [map_take_succ _ Hf.out, Hu.out]; exact own_setOther ho4 HL4.new (by decide)⟩
        case measure => simp [intOf]; omega
    · obtain rfl : nj = k := by omega
      have htk : jobs.take nj = jobs := List.take_of_length_le (by have := HS.out.lj; dsimp only at this; omega)
      rw [htk] at ho
      have HOJ := Lib.hid ho
      have Hl2 := Lib.hid hL
      have yb2 : wr.cell? ⟨w.heap.size, 2, none⟩ = some (.slice an nn cn) := hL.box.cell 2
      clear hL ho htk Ho HoLt HL y1
      go_wp2
      go_loopw [56] (fun i wr => ∃ (q : Nat) (AN : Option Addr) (cN : Nat), q ≤ nn ∧ i = .int .i64 q ∧ RupL w wx D #[.int .i64 rev, .slice A nj c, .slice AN q cN, .slice y.1 nl y.2] ⟨rev, jobs, nodes, leases⟩ ⟨aj, nj, cj, an, nn, cn, al, nl, cl⟩ y wr ∧ wr.ownsRow wx.heap.size 49 5 (.slice A nj c) nj (rowsV jobV ((jobs).map (upJ leases))) ∧ wr.ownsRow wx.heap.size 54 3 (.slice AN q cN) q (rowsV nodeV ((nodes.take q).map upN))) (fun i _ => nn - (intOf i).toNat)
      case atStart => exact ⟨0, none, 0, Nat.zero_le _, rfl, Hl2.out, HOJ.out, World.ownsRow_nil _ _ _ _⟩
      case round =>
        clear Hl2 HOJ yb2 hDr hsr hbr
        obtain ⟨q, AN, cN, hq, rfl, hL, hoJ, ho⟩ := hrel
        have HL := Lib.hid hL
        have HOJ := Lib.hid hoJ
        have hDr := hL.new.lt
        have hsr := hL.size
        have hbr := hL.below.size
        have y2 : wr.cell? ⟨D, 2, none⟩ = some (.slice AN q cN) := hL.new.cell 2
        by_cases hltq : q < nn
        · obtain ⟨r, hf⟩ : ∃ r, nodes[q]? = some r := ⟨_, List.getElem?_eq_getElem (by have := HS.out.ln; dsimp only at this; omega)⟩
          obtain ⟨b, off, hao, hbB, hc⟩ := (HS.out.n.below hL.below).rec_ nodeV_len HS.out.ln hf
          dsimp only at hao
          subst hao
          have Hf := Lib.hid hf
          obtain ⟨name, room, zone⟩ := r
          have c0 : wr.cell? ⟨b, off + q * 3, none⟩ = some (.string name) := hc 0 _ rfl
          have c1 : wr.cell? ⟨b, off + q * 3 + 1, none⟩ = some (.int .i64 room) := hc 1 _ rfl
          have c2 : wr.cell? ⟨b, off + q * 3 + 2, none⟩ = some (.string zone) := hc 2 _ rfl
          have hlb : b < wr.heap.size := by omega
          have hA : Below wr.heap.size wr (wr.alloc (.cells #[.string name, .int .i64 room, .string ⟨#[45]⟩] 54)) := (Below.refl _ _).alloc (Nat.le_refl _) _
          have hsA : (wr.alloc (.cells #[.string name, .int .i64 room, .string ⟨#[45]⟩] 54)).heap.size = wr.heap.size + 1 := by simp
          have HL2 := Lib.hid (hL.kept hA)
          have HO2 := Lib.hid (ownU_below ho hA)
          have HJ2 := Lib.hid (ownU_below hoJ hA)
          have hbrW : wx.heap.size ≤ (wr.alloc (.cells #[.string name, .int .i64 room, .string ⟨#[45]⟩] 54)).heap.size := by omega
          clear hc hf hA hL ho hoJ
          go_wp2_with (at_builtin; refine push_rec nodeV rfl _ _ 23 54 (.agg #[.string ⟨#[]⟩, .int .i64 0, .string ⟨#[]⟩]) 3 40 rfl Tryd.underlying23 infoNodeT rfl (by decide) nodeV_len nodeV_oneT wx.heap.size _ _ _ _ rfl HO2.out _ ⟨name, room, ⟨#[45]⟩⟩ rfl _ (by simp) rfl (by omega) (by unfold maxLen; omega) hbrW ?_; intro A2 c2 w4 ho4 hg4; have HL4 := HL2.out.grew hg4 HO2.out (by decide) hbW; have hJ4 := own_grewOther HJ2.out hg4 HO2.out (by decide); have d1 : w4.cell? ⟨D, 2, none⟩ = some (.slice AN q cN) := HL4.new.cell 2; have z1 : w4.frozen? ⟨D, 2, none⟩ = false := HL4.new.thaw 2; have hd4 := HL4.new.lt)
          go_roundw
          case rel => exact ⟨q + 1, A2, c2, by omega, by go_num, HL4.set rfl, own_setOther hJ4 HL4.new (by decide), by rw [map_take_succ _ Hf.out]; exact own_setOther ho4 HL4.new (by decide)⟩
          case measure => simp [intOf]; omega
        · obtain rfl : nn = q := by omega
          have htk : nodes.take nn = nodes := List.take_of_length_le (by have := HS.out.ln; dsimp only at this; omega)
          rw [htk] at ho
          have hR := hL.res
          have hrl := hR.lt
          have b0 : wr.cell? ⟨D, 0, none⟩ = some (.int .i64 rev) := hL.new.cell 0
          have b1 : wr.cell? ⟨D, 1, none⟩ = some (.slice A nj c) := hL.new.cell 1
          have b2 : wr.cell? ⟨D, 2, none⟩ = some (.slice AN nn cN) := hL.new.cell 2
          have b3 : wr.cell? ⟨D, 3, none⟩ = some (.slice y.1 nl y.2) := hL.new.cell 3
          have u0 : wr.frozen? ⟨w.heap.size + 1, 0, none⟩ = false := hR.thaw 0
          have s0 : wr.cell? ⟨w.heap.size + 1, 0, none⟩ = some (.int .i64 0) := hR.cell 0
          have u1 : wr.frozen? ⟨w.heap.size + 1, 1, none⟩ = false := hR.thaw 1
          have s1 : wr.cell? ⟨w.heap.size + 1, 1, none⟩ = some (.slice none 0 0) := hR.cell 1
          have u2 : wr.frozen? ⟨w.heap.size + 1, 2, none⟩ = false := hR.thaw 2
          have s2 : wr.cell? ⟨w.heap.size + 1, 2, none⟩ = some (.slice none 0 0) := hR.cell 2
          have u3 : wr.frozen? ⟨w.heap.size + 1, 3, none⟩ = false := hR.thaw 3
          have s3 : wr.cell? ⟨w.heap.size + 1, 3, none⟩ = some (.slice none 0 0) := hR.cell 3
          have hR4 := (Blk.eq ((Blk.eq ((Blk.eq ((Blk.eq (hR.set 0 (.int .i64 rev)) (show _ = #[.int .i64 rev, .slice none 0 0, .slice none 0 0, .slice none 0 0] from rfl)).set 1 (.slice A nj c)) (show _ = #[.int .i64 rev, .slice A nj c, .slice none 0 0, .slice none 0 0] from rfl)).set 2 (.slice AN nn cN)) (show _ = #[.int .i64 rev, .slice A nj c, .slice AN nn cN, .slice none 0 0] from rfl)).set 3 (.slice y.1 nl y.2)) (show _ = #[.int .i64 rev, .slice A nj c, .slice AN nn cN, .slice y.1 nl y.2] from rfl))
          have q0 := (show _ = (some (.int .i64 rev) : Option Value) from hR4.cell 0)
          have q1 := (show _ = (some (.slice A nj c) : Option Value) from hR4.cell 1)
          have q2 := (show _ = (some (.slice AN nn cN) : Option Value) from hR4.cell 2)
          have q3 := (show _ = (some (.slice y.1 nl y.2) : Option Value) from hR4.cell 3)
          have hG4 := (bes_set (bes_set (bes_set (bes_set (grow_refl wr (w.heap.size + 1)) 0 (.int .i64 rev)) 1 (.slice A nj c)) 2 (.slice AN nn cN)) 3 (.slice y.1 nl y.2))
          have hne := hL.at_
          have hsame : ∀ (i : Nat) (u : Value) (W : World) (g : Nat), True := fun _ _ _ _ => trivial
          have Hend := Lib.hid (show StepsPost (upSt ⟨rev, jobs, nodes, leases⟩ 1 2) ⟨aj, nj, cj, an, nn, cn, al, nl, cl⟩ w (.returned (.agg #[.int .i64 rev, .slice A nj c, .slice AN nn cN, .slice y.1 nl y.2])) _ from by
            rw [Hup.out]
            exact ⟨⟨A, nj, c, AN, nn, cN, y.1, nl, y.2⟩, rfl, rfl, rfl, rfl, ⟨ownT_base (ownT_grow hoJ hG4 (by omega)) (by omega), ownT_base (ownT_grow ho hG4 (by omega)) (by omega), ownT_base (ownT_grow hL.l hG4 (by omega)) (by omega), by have := HS.out.lj; dsimp only at this ⊢; rw [List.length_map]; exact this, by have := HS.out.ln; dsimp only at this ⊢; rw [List.length_map]; exact this, HS.out.ll⟩, grow_keep hL.below hG4 (by omega)⟩)
          clear hL hR hR4 hG4 ho hoJ HL HOJ htk hsame
          go_wp2
          refine bodyPost_ret (v := .agg #[.int .i64 rev, .slice A nj c, .slice AN nn cN, .slice y.1 nl y.2]) (by simp [results, Tryd.results51, go_sem, *]) rfl ?_
          exact Hend.out
set_option maxRecDepth 100000 in
set_option maxHeartbeats 4000000 in
theorem rup_13 (st : StateD) (x : StA) (w : World) (hS : StAt w w.heap.size st x) (h1 : x.nj ≤ 1000) (h2 : x.nn ≤ 1000) (h3 : x.nl ≤ 1000) :
    Calls Tryd.prog 51 #[.agg (stC st x), .int .i64 1, .int .i64 3] w (StepsPost (upSt st 1 3) x w) := by
  have hb1 : Below w.heap.size w (w.alloc (.cells (stC st x) 26)) := (Below.refl _ _).alloc (Nat.le_refl _) _
  have hb2 := hb1.alloc hb1.size (.cells #[.int .i64 0, .slice none 0 0, .slice none 0 0, .slice none 0 0] 26)
  have H0 : rupPh w st x 0 (none, none) (((w.alloc (.cells (stC st x) 26)).alloc (.cells #[.int .i64 0, .slice none 0 0, .slice none 0 0, .slice none 0 0] 26))).drew :=
    ⟨rfl, hb2.drew, Blk.alloc (show Blk _ _ _ _ from heap_alloc_new w _) _, by
      have h := heap_alloc_new (w.alloc (.cells (stC st x) 26)) (.cells #[.int .i64 0, .slice none 0 0, .slice none 0 0, .slice none 0 0] 26)
      rw [show (w.alloc (.cells (stC st x) 26)).heap.size = w.heap.size + 1 by simp] at h
      exact h, (fun D hD => by cases hD), fun h => absurd h (by omega)⟩
  have HS := Lib.hid hS
  have Hup := Lib.hid (show upSt st 1 3 = ⟨1, st.jobs.map (upJ st.leases), st.nodes.map upN, st.leases⟩ from by unfold upSt; rw [if_pos (by decide)]; rw [if_pos (by decide), if_pos (by decide)])
  clear hb1 hb2 hS
  obtain ⟨rev, jobs, nodes, leases⟩ := st
  obtain ⟨aj, nj, cj, an, nn, cn, al, nl, cl⟩ := x
  unfold stC at *
  dsimp only at *
  go_enter Tryd.func51, Tryd.ntmps51
  go_wp2_with fail
  refine wp_region_phasesG (n := 75) (by kernel_rfl) (rupV w.heap.size rev al nl cl) [4, 7] (rupPh w ⟨rev, jobs, nodes, leases⟩ ⟨aj, nj, cj, an, nn, cn, al, nl, cl⟩) (none, none) (by decide +kernel) (by decide +kernel) rfl H0 ?_ ?_
  · refine ⟨?_, ?_, ?_, ?_, ?_, ?_, ?_, ?_, trivial⟩
    · refine ⟨rfl, .inr ⟨by decide, 0, 2, by decide +kernel, by decide +kernel, fun p γ a wx _ hph hp hk => ?_⟩⟩
      have h1 := hk.1 3 _ rfl (by decide +kernel)
      simp [go_sem, Oper.wp, execOp, Act.eval, h1]
      exact ⟨_, rfl, γ.1, γ.2, fun _ _ _ h => h, rfl, hp⟩
    · refine ⟨rfl, .inr ⟨by decide, 0, 2, by decide +kernel, by decide +kernel, fun p γ a wx _ hph hp hk => ?_⟩⟩
      obtain ⟨u1, hu1, ru1⟩ := hk.2.1 0 _ 12 rfl rfl (by decide +kernel)
      replace ru1 : u1 = _ := ru1
      subst ru1
      have hbx : RBox w wx #[.int .i64 rev, .slice aj nj cj, .slice an nn cn, .slice al nl cl] := rupBox hp
      have hc : wx.cell? ⟨w.heap.size, 0, none⟩ = some (.int .i64 rev) := hbx.cell 0
      simp [go_sem, Oper.wp, execOp, Act.eval, hu1, hc]
      exact ⟨_, rfl, γ.1, γ.2, fun _ _ _ h => h, rfl, hp⟩
    · refine ⟨rfl, .inr ⟨by decide, 0, 2, by decide +kernel, by decide +kernel, fun p γ a wx _ hph hp hk => ?_⟩⟩
      have h1 := hk.1 3 _ rfl (by decide +kernel)
      simp [go_sem, Oper.wp, execOp, Act.eval, h1]
      exact ⟨_, rfl, γ.1, γ.2, fun _ _ _ h => h, rfl, hp⟩
    · refine ⟨rfl, .inr ⟨by decide, 0, 2, by decide +kernel, by decide +kernel, fun p γ a wx _ hph hp hk => ?_⟩⟩
      obtain ⟨u1, hu1, ru1⟩ := hk.2.1 2 _ 14 rfl rfl (by decide +kernel)
      replace ru1 : u1 = _ := ru1
      subst ru1
      have hbx : RBox w wx #[.int .i64 rev, .slice aj nj cj, .slice an nn cn, .slice al nl cl] := rupBox hp
      have hc : wx.cell? ⟨w.heap.size, 3, none⟩ = some (.slice al nl cl) := hbx.cell 3
      simp [go_sem, Oper.wp, execOp, Act.eval, hu1, hc]
      exact ⟨_, rfl, γ.1, γ.2, fun _ _ _ h => h, rfl, hp⟩
    · refine ⟨rfl, .inl ⟨0, rfl, fun γ a wx hp hk => ?_⟩⟩
      obtain ⟨u1, hu1, ru1⟩ := hk.2.1 3 _ 15 rfl rfl (by decide +kernel)
      replace ru1 : u1 = _ := ru1
      subst ru1
      simp [go_sem, Oper.wp, execOp, Act.eval, hu1]
      obtain ⟨h0, hp⟩ := hp
      refine (copy_lease leases al nl cl wx (HS.out.l.below hp.below |>.more hp.below.size) HS.out.ll (by omega)).mono ?_
      rintro e w' ⟨A', c', rfl, ho, hb⟩
      rw [HS.out.ll] at ho ⊢
      dsimp only at ho ⊢
      have hk' := hp.kept hb
      exact ⟨_, rfl, some (A', c'), γ.2, rupV_4 h0 _, ⟨(A', c'), rfl, rfl⟩, (A', c'), rfl, ⟨hk'.below, hk'.box, hk'.res, hk'.new, fun _ => ownT_base ho (by have := hp.res.lt; omega)⟩⟩
    · refine ⟨rfl, .inr ⟨by decide, 0, 2, by decide +kernel, by decide +kernel, fun p γ a wx _ hph hp hk => ?_⟩⟩
      obtain ⟨u1, hu1, ru1⟩ := hk.2.1 1 _ 13 rfl rfl (by decide +kernel)
      replace ru1 : u1 = _ := ru1
      subst ru1
      obtain ⟨u2, hu2, ru2⟩ := hk.2.1 4 _ 16 rfl rfl (by decide +kernel)
      obtain ⟨y, ey, ru2⟩ := (show ∃ _, _ from ru2)
      subst ru2
      simp [go_sem, Oper.wp, execOp, Act.eval, hu1, hu2]
      exact ⟨_, rfl, γ.1, γ.2, fun _ _ _ h => h, ⟨y, ey, rfl⟩, hp⟩
    · refine ⟨rfl, .inr ⟨by decide, 0, 1, by decide +kernel, by decide +kernel, fun p γ a wx _ hph hp hk => ?_⟩⟩
      simp [go_sem, Oper.wp, execOp, Act.eval, ]
      exact ⟨_, rfl, γ.1, some wx.heap.size, rupV_6 _, ⟨_, rfl, rfl⟩, rupAlloc hph hp⟩
    · refine ⟨rfl, .inl ⟨1, rfl, fun γ a wx hp hk => ?_⟩⟩
      obtain ⟨u1, hu1, ru1⟩ := hk.2.1 6 _ 7 rfl rfl (by decide +kernel)
      obtain ⟨D, eD, ru1⟩ := (show ∃ _, _ from ru1)
      subst ru1
      obtain ⟨u2, hu2, ru2⟩ := hk.2.1 5 _ 17 rfl rfl (by decide +kernel)
      obtain ⟨y, ey, ru2⟩ := (show ∃ _, _ from ru2)
      subst ru2
      obtain ⟨y', ey', hp⟩ := hp
      rw [ey] at ey'
      injection ey' with ey'
      subst ey'
      obtain ⟨hD, hB⟩ := hp.new D eD
      have hB : Blk wx D 26 #[.int .i64 0, .slice none 0 0, .slice none 0 0, .slice none 0 0] := hB
      have z0 : wx.frozen? ⟨D, 0, none⟩ = false := hB.thaw 0
      have c0 : wx.cell? ⟨D, 0, none⟩ = some (.int .i64 0) := hB.cell 0
      have z1 : wx.frozen? ⟨D, 1, none⟩ = false := hB.thaw 1
      have c1 : wx.cell? ⟨D, 1, none⟩ = some (.slice none 0 0) := hB.cell 1
      have z2 : wx.frozen? ⟨D, 2, none⟩ = false := hB.thaw 2
      have c2 : wx.cell? ⟨D, 2, none⟩ = some (.slice none 0 0) := hB.cell 2
      have z3 : wx.frozen? ⟨D, 3, none⟩ = false := hB.thaw 3
      have c3 : wx.cell? ⟨D, 3, none⟩ = some (.slice none 0 0) := hB.cell 3
      have hbl := hB.lt
      have hrl := hp.res.lt
      have hG := bes_set (bes_set (bes_set (bes_set (grow_refl wx D) 0 (.int .i64 rev)) 1 (.slice none 0 0)) 2 (.slice none 0 0)) 3 (.slice y.1 nl y.2)
      have hnew : Blk _ D 26 #[.int .i64 rev, .slice none 0 0, .slice none 0 0, .slice y.1 nl y.2] := Blk.eq ((((hB.set 0 (.int .i64 rev)).set 1 (.slice none 0 0)).set 2 (.slice none 0 0)).set 3 (.slice y.1 nl y.2)) rfl
      have hfin := (show rupPh w ⟨rev, jobs, nodes, leases⟩ ⟨aj, nj, cj, an, nn, cn, al, nl, cl⟩ 2 γ _ from ⟨y, D, ey, eD, ⟨grow_keep hp.below hG (by omega), grow_blk hG hp.box (by omega), grow_blk hG hp.res (by omega), fun D' hD' => by
        rw [eD] at hD'; injection hD' with hD'; subst hD'; exact ⟨hD, hnew⟩, fun _ => own_setOther (own_setOther (own_setOther (own_setOther (hp.l (by omega)) hB (by decide)) (hB.set 0 _) (by decide)) ((hB.set 0 _).set 1 _) (by decide)) (((hB.set 0 _).set 1 _).set 2 _) (by decide)⟩⟩)
      clear hnew hG hp hB
      simp [go_sem, Oper.wp, execOp, Act.eval, hu1, hu2, c0, c1, c2, c3, z0, z1, z2, z3]
      exact ⟨.int .i64 0, γ.1, γ.2, fun _ _ _ h => h, trivial, hfin⟩
  intro γ act wx hd
  obtain ⟨y, D, ey, eD, hp⟩ := (show ∃ y D, _ from hd.ph)
  obtain ⟨fv, rfl, hfv⟩ := hd.frame [12, 13, 14, 15, 16, 17, 7] rfl
  obtain ⟨D', eD', h7⟩ := (show ∃ D, _ from hfv 6 _ 7 rfl rfl)
  rw [eD] at eD'
  injection eD' with eD'
  subst eD'
  obtain ⟨hD, hB⟩ := hp.new D eD
  have hB : Blk wx D 26 #[.int .i64 rev, .slice none 0 0, .slice none 0 0, .slice y.1 nl y.2] := hB
  have HL0 := (show RupL w wx D #[.int .i64 rev, .slice none 0 0, .slice none 0 0, .slice y.1 nl y.2] ⟨rev, jobs, nodes, leases⟩ ⟨aj, nj, cj, an, nn, cn, al, nl, cl⟩ y wx from ⟨hp.below, hp.box, hp.res, hB, hp.l (by omega), Nat.le_refl _, hD, hB.lt⟩)
  have hrs := hp.res.lt
  clear hd hp hB H0 hfv ey eD
  have hDl := HL0.new.lt
  have z0 : wx.frozen? ⟨D, 0, none⟩ = false := HL0.new.thaw 0
  have c0 : wx.cell? ⟨D, 0, none⟩ = some (.int .i64 rev) := HL0.new.cell 0
  have Hbox0 := Lib.hid HL0.box
  have HL1 : RupL w wx D #[.int .i64 1, .slice none 0 0, .slice none 0 0, .slice y.1 nl y.2] ⟨rev, jobs, nodes, leases⟩ ⟨aj, nj, cj, an, nn, cn, al, nl, cl⟩ y (wx.setCell ⟨D, 0, none⟩ (.int .i64 1)) := HL0.set rfl
  generalize hW1 : wx.setCell ⟨D, 0, none⟩ (.int .i64 1) = W1 at HL1
  have hws : wx.heap.size = W1.heap.size := by rw [← hW1]; simp [World.setCell]
  have HW1 := Lib.hid hW1
  clear hW1 HL0
  have Hl1 := Lib.hid HL1
  have hbW : w.heap.size + 2 ≤ wx.heap.size := by have := HL1.at_; omega
  have hDW : D < wx.heap.size := HL1.at_.2
  have H7 := h7
  have yb1 : wx.cell? ⟨w.heap.size, 1, none⟩ = some (.slice aj nj cj) := Hbox0.out.cell 1
  clear HL1
  simp [Exit.then, h7]
  go_wp2
  go_loopw [28] (fun i wr => ∃ (k : Nat) (A : Option Addr) (c : Nat), k ≤ nj ∧ i = .int .i64 k ∧ RupL w wx D #[.int .i64 1, .slice A k c, .slice none 0 0, .slice y.1 nl y.2] ⟨rev, jobs, nodes, leases⟩ ⟨aj, nj, cj, an, nn, cn, al, nl, cl⟩ y wr ∧ wr.ownsRow wx.heap.size 49 5 (.slice A k c) k (rowsV jobV ((jobs.take k).map (upJ leases)))) (fun i _ => nj - (intOf i).toNat)
  case atStart => rw [HW1.out]; exact ⟨0, none, 0, Nat.zero_le _, rfl, Hl1.out, World.ownsRow_nil _ _ _ _⟩
  case round =>
    clear Hl1 yb1
    obtain ⟨k, A, c, hk, rfl, hL, ho⟩ := hrel
    have HL := Lib.hid hL
    have Ho := Lib.hid ho
    have hDr := hL.new.lt
    have hsr := hL.size
    have hbr := hL.below.size
    have HoLt := Lib.hid ho.lt
    have y1 : wr.cell? ⟨D, 1, none⟩ = some (.slice A k c) := hL.new.cell 1
    by_cases hlt : k < nj
    · obtain ⟨r, hf⟩ : ∃ r, jobs[k]? = some r := ⟨_, List.getElem?_eq_getElem (by have := HS.out.lj; dsimp only at this; omega)⟩
      obtain ⟨b, off, hao, hbB, hc⟩ := (HS.out.j.below hL.below).rec_ jobV_len HS.out.lj hf
      dsimp only at hao
      subst hao
      have Hf := Lib.hid hf
      obtain ⟨name, prio, need, tries, tag⟩ := r
      have c0 : wr.cell? ⟨b, off + k * 5, none⟩ = some (.string name) := hc 0 _ rfl
      have c1 : wr.cell? ⟨b, off + k * 5 + 1, none⟩ = some (.int .i64 prio) := hc 1 _ rfl
      have c2 : wr.cell? ⟨b, off + k * 5 + 2, none⟩ = some (.int .i64 need) := hc 2 _ rfl
      have c3 : wr.cell? ⟨b, off + k * 5 + 3, none⟩ = some (.int .i64 tries) := hc 3 _ rfl
      have c4 : wr.cell? ⟨b, off + k * 5 + 4, none⟩ = some (.string tag) := hc 4 _ rfl
      have hlb : b < wr.heap.size := by omega
      have hA : Below wr.heap.size wr (wr.alloc (.cells #[.string name, .int .i64 prio, .int .i64 need, .int .i64 0, .string tag] 49)) := (Below.refl _ _).alloc (Nat.le_refl _) _
      have HJ := Lib.hid (show Blk (wr.alloc (.cells #[.string name, .int .i64 prio, .int .i64 need, .int .i64 0, .string tag] 49)) wr.heap.size 49 #[.string name, .int .i64 prio, .int .i64 need, .int .i64 0, .string tag] from heap_alloc_new wr _)
      have hsA : (wr.alloc (.cells #[.string name, .int .i64 prio, .int .i64 need, .int .i64 0, .string tag] 49)).heap.size = wr.heap.size + 1 := by simp
      have HL2 := Lib.hid (hL.kept hA)
      have HO2 := Lib.hid (ownU_below ho hA)
      have hC := leaseAt_any leases name al nl cl (wr.alloc (.cells #[.string name, .int .i64 prio, .int .i64 need, .int .i64 0, .string tag] 49)) ((HS.out.l.below (HL2.out.below)).more HL2.out.below.size) HS.out.ll HS.out.bl
      have HC := Lib.hid hC
      have yb3 : wr.cell? ⟨w.heap.size, 3, none⟩ = some (.slice al nl cl) := hL.box.cell 3
      have hbx := hL.box.lt
      clear hc hf hA hL ho hC
      go_wp2_with fail
      refine Calls.mono HC.out ?_
      rintro e w3 ⟨i, rfl, hb3, hcase⟩
      have HL3 := Lib.hid (HL2.out.kept hb3)
      have HO3 := Lib.hid (ownU_below HO2.out hb3)
      have HJ3 := Lib.hid (HJ.out.below hb3 HJ.out.lt)
      have hs3 := hb3.size
      rw [hsA] at hs3
      have hfa := find_any LeaseD.job name leases
      unfold leaseOf at hcase
      have y1 : w3.cell? ⟨D, 1, none⟩ = some (.slice A k c) := HL3.out.new.cell 1
      have hDr3 := HL3.out.new.lt
      have hJl := HJ3.out.lt
      have j0 : w3.cell? ⟨wr.heap.size, 0, none⟩ = some (.string name) := HJ3.out.cell 0
      have j1 : w3.cell? ⟨wr.heap.size, 1, none⟩ = some (.int .i64 prio) := HJ3.out.cell 1
      have j2 : w3.cell? ⟨wr.heap.size, 2, none⟩ = some (.int .i64 need) := HJ3.out.cell 2
      have j3 : w3.cell? ⟨wr.heap.size, 3, none⟩ = some (.int .i64 0) := HJ3.out.cell 3
      have j4 : w3.cell? ⟨wr.heap.size, 4, none⟩ = some (.string tag) := HJ3.out.cell 4
      have jz : w3.frozen? ⟨wr.heap.size, 3, none⟩ = false := HJ3.out.thaw 3
      rcases hcase with ⟨rfl, hnone⟩ | ⟨kk, xx, rfl, hxx, hsome⟩
      · rw [hnone] at hfa
        have Hu := Lib.hid (show upJ leases ⟨name, prio, need, tries, tag⟩ = ⟨name, prio, need, 0, tag⟩ from by unfold upJ; rw [← hfa]; rfl)
        clear hb3 hfa hnone c0 c1 c2 c3 c4 jz
        have hbrW : wx.heap.size ≤ (w3).heap.size := by have := HL3.out.size; omega
        go_wp2_with (at_builtin; refine push_rec jobV rfl _ _ 22 49 (.agg #[.string ⟨#[]⟩, .int .i64 0, .int .i64 0, .int .i64 0, .string ⟨#[]⟩]) 5 56 rfl Tryd.underlying22 infoJobT rfl (by decide) jobV_len jobV_oneT wx.heap.size _ _ _ _ rfl HO3.out _ ⟨name, prio, need, 0, tag⟩ rfl _ (by simp) rfl (by omega) (by unfold maxLen; omega) hbrW ?_; intro A2 c2 w4 ho4 hg4; have HL4 := HL3.out.grew hg4 HO3.out (by decide) hbW; have d1 : w4.cell? ⟨D, 1, none⟩ = some (.slice A k c) := HL4.new.cell 1; have z1 : w4.frozen? ⟨D, 1, none⟩ = false := HL4.new.thaw 1; have hd4 := HL4.new.lt)
        go_roundw
        case rel => exact ⟨k + 1, A2, c2, by omega, by go_num, HL4.set rfl, by rw [map_take_succ _ Hf.out, Hu.out]; exact own_setOther ho4 HL4.new (by decide)⟩
        case measure => simp [intOf]; omega
      · rw [hsome] at hfa
        have Hu := Lib.hid (show upJ leases ⟨name, prio, need, tries, tag⟩ = ⟨name, prio, need, 1, tag⟩ from by unfold upJ; rw [← hfa]; rfl)
        have d0 : decide ((0 : Int) ≤ (kk : Int)) = true := decide_eq_true (by omega)
        have hJs : Blk (w3.setCell ⟨wr.heap.size, 3, none⟩ (.int .i64 1)) wr.heap.size 49 #[.string name, .int .i64 prio, .int .i64 need, .int .i64 1, .string tag] := Blk.eq (HJ3.out.set 3 (.int .i64 1)) rfl
        have HL5 := Lib.hid (show RupL w wx D _ ⟨rev, jobs, nodes, leases⟩ ⟨some ⟨b, off, none⟩, nj, cj, an, nn, cn, al, nl, cl⟩ y (w3.setCell ⟨wr.heap.size, 3, none⟩ (.int .i64 1)) from HL3.out.setAbove HJ3.out hDr)
        have HO5 := Lib.hid (show (w3.setCell ⟨wr.heap.size, 3, none⟩ (.int .i64 1)).ownsRow wx.heap.size 49 5 (.slice A k c) k (rowsV jobV ((jobs.take k).map (upJ leases))) from own_setNe HO3.out (fun q hq => by have := HoLt.out q hq; omega))
        have hbrS : wx.heap.size ≤ (w3.setCell ⟨wr.heap.size, 3, none⟩ (.int .i64 1)).heap.size := HL5.out.size
        have k0 : (w3.setCell ⟨wr.heap.size, 3, none⟩ (.int .i64 1)).cell? ⟨wr.heap.size, 0, none⟩ = some (.string name) := hJs.cell 0
        have k1 : (w3.setCell ⟨wr.heap.size, 3, none⟩ (.int .i64 1)).cell? ⟨wr.heap.size, 1, none⟩ = some (.int .i64 prio) := hJs.cell 1
        have k2 : (w3.setCell ⟨wr.heap.size, 3, none⟩ (.int .i64 1)).cell? ⟨wr.heap.size, 2, none⟩ = some (.int .i64 need) := hJs.cell 2
        have k3 : (w3.setCell ⟨wr.heap.size, 3, none⟩ (.int .i64 1)).cell? ⟨wr.heap.size, 3, none⟩ = some (.int .i64 1) := hJs.cell 3
        have k4 : (w3.setCell ⟨wr.heap.size, 3, none⟩ (.int .i64 1)).cell? ⟨wr.heap.size, 4, none⟩ = some (.string tag) := hJs.cell 4
        clear hb3 hfa hsome c0 c1 c2 c3 c4 hJs
        have hbrW : wx.heap.size ≤ (w3.setCell ⟨wr.heap.size, 3, none⟩ (.int .i64 1)).heap.size := hbrS
        go_wp2_with (at_builtin; refine push_rec jobV rfl _ _ 22 49 (.agg #[.string ⟨#[]⟩, .int .i64 0, .int .i64 0, .int .i64 0, .string ⟨#[]⟩]) 5 56 rfl Tryd.underlying22 infoJobT rfl (by decide) jobV_len jobV_oneT wx.heap.size _ _ _ _ rfl HO5.out _ ⟨name, prio, need, 1, tag⟩ rfl _ (by simp) rfl (by omega) (by unfold maxLen; omega) hbrW ?_; intro A2 c2 w4 ho4 hg4; have HL4 := HL5.out.grew hg4 HO5.out (by decide) hbW; have d1 : w4.cell? ⟨D, 1, none⟩ = some (.slice A k c) := HL4.new.cell 1; have z1 : w4.frozen? ⟨D, 1, none⟩ = false := HL4.new.thaw 1; have hd4 := HL4.new.lt)
        go_roundw
        case rel => exact ⟨k + 1, A2, c2, by omega, by go_num, HL4.set rfl, by rw [map_take_succ _ Hf.out, Hu.out]; exact own_setOther ho4 HL4.new (by decide)⟩
        case measure => simp [intOf]; omega
    · obtain rfl : nj = k := by omega
      have htk : jobs.take nj = jobs := List.take_of_length_le (by have := HS.out.lj; dsimp only at this; omega)
      rw [htk] at ho
      have HOJ := Lib.hid ho
      have Hl2 := Lib.hid hL
      have yb2 : wr.cell? ⟨w.heap.size, 2, none⟩ = some (.slice an nn cn) := hL.box.cell 2
      clear hL ho htk Ho HoLt HL y1
      go_wp2
      go_loopw [56] (fun i wr => ∃ (q : Nat) (AN : Option Addr) (cN : Nat), q ≤ nn ∧ i = .int .i64 q ∧ RupL w wx D #[.int .i64 1, .slice A nj c, .slice AN q cN, .slice y.1 nl y.2] ⟨rev, jobs, nodes, leases⟩ ⟨aj, nj, cj, an, nn, cn, al, nl, cl⟩ y wr ∧ wr.ownsRow wx.heap.size 49 5 (.slice A nj c) nj (rowsV jobV ((jobs).map (upJ leases))) ∧ wr.ownsRow wx.heap.size 54 3 (.slice AN q cN) q (rowsV nodeV ((nodes.take q).map upN))) (fun i _ => nn - (intOf i).toNat)
      case atStart => exact ⟨0, none, 0, Nat.zero_le _, rfl, Hl2.out, HOJ.out, World.ownsRow_nil _ _ _ _⟩
      case round =>
        clear Hl2 HOJ yb2 hDr hsr hbr
        obtain ⟨q, AN, cN, hq, rfl, hL, hoJ, ho⟩ := hrel
        have HL := Lib.hid hL
        have HOJ := Lib.hid hoJ
        have hDr := hL.new.lt
        have hsr := hL.size
        have hbr := hL.below.size
        have y2 : wr.cell? ⟨D, 2, none⟩ = some (.slice AN q cN) := hL.new.cell 2
        by_cases hltq : q < nn
        · obtain ⟨r, hf⟩ : ∃ r, nodes[q]? = some r := ⟨_, List.getElem?_eq_getElem (by have := HS.out.ln; dsimp only at this; omega)⟩
          obtain ⟨b, off, hao, hbB, hc⟩ := (HS.out.n.below hL.below).rec_ nodeV_len HS.out.ln hf
          dsimp only at hao
          subst hao
          have Hf := Lib.hid hf
          obtain ⟨name, room, zone⟩ := r
          have c0 : wr.cell? ⟨b, off + q * 3, none⟩ = some (.string name) := hc 0 _ rfl
          have c1 : wr.cell? ⟨b, off + q * 3 + 1, none⟩ = some (.int .i64 room) := hc 1 _ rfl
          have c2 : wr.cell? ⟨b, off + q * 3 + 2, none⟩ = some (.string zone) := hc 2 _ rfl
          have hlb : b < wr.heap.size := by omega
          have hA : Below wr.heap.size wr (wr.alloc (.cells #[.string name, .int .i64 room, .string ⟨#[45]⟩] 54)) := (Below.refl _ _).alloc (Nat.le_refl _) _
          have hsA : (wr.alloc (.cells #[.string name, .int .i64 room, .string ⟨#[45]⟩] 54)).heap.size = wr.heap.size + 1 := by simp
          have HL2 := Lib.hid (hL.kept hA)
          have HO2 := Lib.hid (ownU_below ho hA)
          have HJ2 := Lib.hid (ownU_below hoJ hA)
          have hbrW : wx.heap.size ≤ (wr.alloc (.cells #[.string name, .int .i64 room, .string ⟨#[45]⟩] 54)).heap.size := by omega
          clear hc hf hA hL ho hoJ
          go_wp2_with (at_builtin; refine push_rec nodeV rfl _ _ 23 54 (.agg #[.string ⟨#[]⟩, .int .i64 0, .string ⟨#[]⟩]) 3 40 rfl Tryd.underlying23 infoNodeT rfl (by decide) nodeV_len nodeV_oneT wx.heap.size _ _ _ _ rfl HO2.out _ ⟨name, room, ⟨#[45]⟩⟩ rfl _ (by simp) rfl (by omega) (by unfold maxLen; omega) hbrW ?_; intro A2 c2 w4 ho4 hg4; have HL4 := HL2.out.grew hg4 HO2.out (by decide) hbW; have hJ4 := own_grewOther HJ2.out hg4 HO2.out (by decide); have d1 : w4.cell? ⟨D, 2, none⟩ = some (.slice AN q cN) := HL4.new.cell 2; have z1 : w4.frozen? ⟨D, 2, none⟩ = false := HL4.new.thaw 2; have hd4 := HL4.new.lt)
          go_roundw
          case rel => exact ⟨q + 1, A2, c2, by omega, by go_num, HL4.set rfl, own_setOther hJ4 HL4.new (by decide), by rw [map_take_succ _ Hf.out]; exact own_setOther ho4 HL4.new (by decide)⟩
          case measure => simp [intOf]; omega
        · obtain rfl : nn = q := by omega
          have htk : nodes.take nn = nodes := List.take_of_length_le (by have := HS.out.ln; dsimp only at this; omega)
          rw [htk] at ho
          have hR := hL.res
          have hrl := hR.lt
          have b0 : wr.cell? ⟨D, 0, none⟩ = some (.int .i64 1) := hL.new.cell 0
          have b1 : wr.cell? ⟨D, 1, none⟩ = some (.slice A nj c) := hL.new.cell 1
          have b2 : wr.cell? ⟨D, 2, none⟩ = some (.slice AN nn cN) := hL.new.cell 2
          have b3 : wr.cell? ⟨D, 3, none⟩ = some (.slice y.1 nl y.2) := hL.new.cell 3
          have u0 : wr.frozen? ⟨w.heap.size + 1, 0, none⟩ = false := hR.thaw 0
          have s0 : wr.cell? ⟨w.heap.size + 1, 0, none⟩ = some (.int .i64 0) := hR.cell 0
          have u1 : wr.frozen? ⟨w.heap.size + 1, 1, none⟩ = false := hR.thaw 1
          have s1 : wr.cell? ⟨w.heap.size + 1, 1, none⟩ = some (.slice none 0 0) := hR.cell 1
          have u2 : wr.frozen? ⟨w.heap.size + 1, 2, none⟩ = false := hR.thaw 2
          have s2 : wr.cell? ⟨w.heap.size + 1, 2, none⟩ = some (.slice none 0 0) := hR.cell 2
          have u3 : wr.frozen? ⟨w.heap.size + 1, 3, none⟩ = false := hR.thaw 3
          have s3 : wr.cell? ⟨w.heap.size + 1, 3, none⟩ = some (.slice none 0 0) := hR.cell 3
          have hR4 := (Blk.eq ((Blk.eq ((Blk.eq ((Blk.eq (hR.set 0 (.int .i64 1)) (show _ = #[.int .i64 1, .slice none 0 0, .slice none 0 0, .slice none 0 0] from rfl)).set 1 (.slice A nj c)) (show _ = #[.int .i64 1, .slice A nj c, .slice none 0 0, .slice none 0 0] from rfl)).set 2 (.slice AN nn cN)) (show _ = #[.int .i64 1, .slice A nj c, .slice AN nn cN, .slice none 0 0] from rfl)).set 3 (.slice y.1 nl y.2)) (show _ = #[.int .i64 1, .slice A nj c, .slice AN nn cN, .slice y.1 nl y.2] from rfl))
          have q0 := (show _ = (some (.int .i64 1) : Option Value) from hR4.cell 0)
          have q1 := (show _ = (some (.slice A nj c) : Option Value) from hR4.cell 1)
          have q2 := (show _ = (some (.slice AN nn cN) : Option Value) from hR4.cell 2)
          have q3 := (show _ = (some (.slice y.1 nl y.2) : Option Value) from hR4.cell 3)
          have hG4 := (bes_set (bes_set (bes_set (bes_set (grow_refl wr (w.heap.size + 1)) 0 (.int .i64 1)) 1 (.slice A nj c)) 2 (.slice AN nn cN)) 3 (.slice y.1 nl y.2))
          have hne := hL.at_
          have hsame : ∀ (i : Nat) (u : Value) (W : World) (g : Nat), True := fun _ _ _ _ => trivial
          have Hend := Lib.hid (show StepsPost (upSt ⟨rev, jobs, nodes, leases⟩ 1 3) ⟨aj, nj, cj, an, nn, cn, al, nl, cl⟩ w (.returned (.agg #[.int .i64 1, .slice A nj c, .slice AN nn cN, .slice y.1 nl y.2])) _ from by
            rw [Hup.out]
            exact ⟨⟨A, nj, c, AN, nn, cN, y.1, nl, y.2⟩, rfl, rfl, rfl, rfl, ⟨ownT_base (ownT_grow hoJ hG4 (by omega)) (by omega), ownT_base (ownT_grow ho hG4 (by omega)) (by omega), ownT_base (ownT_grow hL.l hG4 (by omega)) (by omega), by have := HS.out.lj; dsimp only at this ⊢; rw [List.length_map]; exact this, by have := HS.out.ln; dsimp only at this ⊢; rw [List.length_map]; exact this, HS.out.ll⟩, grow_keep hL.below hG4 (by omega)⟩)
          clear hL hR hR4 hG4 ho hoJ HL HOJ htk hsame
          go_wp2
          refine bodyPost_ret (v := .agg #[.int .i64 1, .slice A nj c, .slice AN nn cN, .slice y.1 nl y.2]) (by simp [results, Tryd.results51, go_sem, *]) rfl ?_
          exact Hend.out
set_option maxRecDepth 100000 in
set_option maxHeartbeats 4000000 in
theorem rup_22 (st : StateD) (x : StA) (w : World) (hS : StAt w w.heap.size st x) (h1 : x.nj ≤ 1000) (h2 : x.nn ≤ 1000) (h3 : x.nl ≤ 1000) :
    Calls Tryd.prog 51 #[.agg (stC st x), .int .i64 2, .int .i64 2] w (StepsPost (upSt st 2 2) x w) := by
  have hb1 : Below w.heap.size w (w.alloc (.cells (stC st x) 26)) := (Below.refl _ _).alloc (Nat.le_refl _) _
  have hb2 := hb1.alloc hb1.size (.cells #[.int .i64 0, .slice none 0 0, .slice none 0 0, .slice none 0 0] 26)
  have H0 : rupPh w st x 0 (none, none) (((w.alloc (.cells (stC st x) 26)).alloc (.cells #[.int .i64 0, .slice none 0 0, .slice none 0 0, .slice none 0 0] 26))).drew :=
    ⟨rfl, hb2.drew, Blk.alloc (show Blk _ _ _ _ from heap_alloc_new w _) _, by
      have h := heap_alloc_new (w.alloc (.cells (stC st x) 26)) (.cells #[.int .i64 0, .slice none 0 0, .slice none 0 0, .slice none 0 0] 26)
      rw [show (w.alloc (.cells (stC st x) 26)).heap.size = w.heap.size + 1 by simp] at h
      exact h, (fun D hD => by cases hD), fun h => absurd h (by omega)⟩
  have HS := Lib.hid hS
  have Hup := Lib.hid (show upSt st 2 2 = ⟨st.rev, st.jobs, st.nodes, st.leases⟩ from by unfold upSt; rw [if_neg (by decide)]; rw [if_neg (by decide), if_neg (by decide)])
  clear hb1 hb2 hS
  obtain ⟨rev, jobs, nodes, leases⟩ := st
  obtain ⟨aj, nj, cj, an, nn, cn, al, nl, cl⟩ := x
  unfold stC at *
  dsimp only at *
  go_enter Tryd.func51, Tryd.ntmps51
  go_wp2_with fail
  refine wp_region_phasesG (n := 75) (by kernel_rfl) (rupV w.heap.size rev al nl cl) [4, 7] (rupPh w ⟨rev, jobs, nodes, leases⟩ ⟨aj, nj, cj, an, nn, cn, al, nl, cl⟩) (none, none) (by decide +kernel) (by decide +kernel) rfl H0 ?_ ?_
  · refine ⟨?_, ?_, ?_, ?_, ?_, ?_, ?_, ?_, trivial⟩
    · refine ⟨rfl, .inr ⟨by decide, 0, 2, by decide +kernel, by decide +kernel, fun p γ a wx _ hph hp hk => ?_⟩⟩
      have h1 := hk.1 3 _ rfl (by decide +kernel)
      simp [go_sem, Oper.wp, execOp, Act.eval, h1]
      exact ⟨_, rfl, γ.1, γ.2, fun _ _ _ h => h, rfl, hp⟩
    · refine ⟨rfl, .inr ⟨by decide, 0, 2, by decide +kernel, by decide +kernel, fun p γ a wx _ hph hp hk => ?_⟩⟩
      obtain ⟨u1, hu1, ru1⟩ := hk.2.1 0 _ 12 rfl rfl (by decide +kernel)
      replace ru1 : u1 = _ := ru1
      subst ru1
      have hbx : RBox w wx #[.int .i64 rev, .slice aj nj cj, .slice an nn cn, .slice al nl cl] := rupBox hp
      have hc : wx.cell? ⟨w.heap.size, 0, none⟩ = some (.int .i64 rev) := hbx.cell 0
      simp [go_sem, Oper.wp, execOp, Act.eval, hu1, hc]
      exact ⟨_, rfl, γ.1, γ.2, fun _ _ _ h => h, rfl, hp⟩
    · refine ⟨rfl, .inr ⟨by decide, 0, 2, by decide +kernel, by decide +kernel, fun p γ a wx _ hph hp hk => ?_⟩⟩
      have h1 := hk.1 3 _ rfl (by decide +kernel)
      simp [go_sem, Oper.wp, execOp, Act.eval, h1]
      exact ⟨_, rfl, γ.1, γ.2, fun _ _ _ h => h, rfl, hp⟩
    · refine ⟨rfl, .inr ⟨by decide, 0, 2, by decide +kernel, by decide +kernel, fun p γ a wx _ hph hp hk => ?_⟩⟩
      obtain ⟨u1, hu1, ru1⟩ := hk.2.1 2 _ 14 rfl rfl (by decide +kernel)
      replace ru1 : u1 = _ := ru1
      subst ru1
      have hbx : RBox w wx #[.int .i64 rev, .slice aj nj cj, .slice an nn cn, .slice al nl cl] := rupBox hp
      have hc : wx.cell? ⟨w.heap.size, 3, none⟩ = some (.slice al nl cl) := hbx.cell 3
      simp [go_sem, Oper.wp, execOp, Act.eval, hu1, hc]
      exact ⟨_, rfl, γ.1, γ.2, fun _ _ _ h => h, rfl, hp⟩
    · refine ⟨rfl, .inl ⟨0, rfl, fun γ a wx hp hk => ?_⟩⟩
      obtain ⟨u1, hu1, ru1⟩ := hk.2.1 3 _ 15 rfl rfl (by decide +kernel)
      replace ru1 : u1 = _ := ru1
      subst ru1
      simp [go_sem, Oper.wp, execOp, Act.eval, hu1]
      obtain ⟨h0, hp⟩ := hp
      refine (copy_lease leases al nl cl wx (HS.out.l.below hp.below |>.more hp.below.size) HS.out.ll (by omega)).mono ?_
      rintro e w' ⟨A', c', rfl, ho, hb⟩
      rw [HS.out.ll] at ho ⊢
      dsimp only at ho ⊢
      have hk' := hp.kept hb
      exact ⟨_, rfl, some (A', c'), γ.2, rupV_4 h0 _, ⟨(A', c'), rfl, rfl⟩, (A', c'), rfl, ⟨hk'.below, hk'.box, hk'.res, hk'.new, fun _ => ownT_base ho (by have := hp.res.lt; omega)⟩⟩
    · refine ⟨rfl, .inr ⟨by decide, 0, 2, by decide +kernel, by decide +kernel, fun p γ a wx _ hph hp hk => ?_⟩⟩
      obtain ⟨u1, hu1, ru1⟩ := hk.2.1 1 _ 13 rfl rfl (by decide +kernel)
      replace ru1 : u1 = _ := ru1
      subst ru1
      obtain ⟨u2, hu2, ru2⟩ := hk.2.1 4 _ 16 rfl rfl (by decide +kernel)
      obtain ⟨y, ey, ru2⟩ := (show ∃ _, _ from ru2)
      subst ru2
      simp [go_sem, Oper.wp, execOp, Act.eval, hu1, hu2]
      exact ⟨_, rfl, γ.1, γ.2, fun _ _ _ h => h, ⟨y, ey, rfl⟩, hp⟩
    · refine ⟨rfl, .inr ⟨by decide, 0, 1, by decide +kernel, by decide +kernel, fun p γ a wx _ hph hp hk => ?_⟩⟩
      simp [go_sem, Oper.wp, execOp, Act.eval, ]
      exact ⟨_, rfl, γ.1, some wx.heap.size, rupV_6 _, ⟨_, rfl, rfl⟩, rupAlloc hph hp⟩
    · refine ⟨rfl, .inl ⟨1, rfl, fun γ a wx hp hk => ?_⟩⟩
      obtain ⟨u1, hu1, ru1⟩ := hk.2.1 6 _ 7 rfl rfl (by decide +kernel)
      obtain ⟨D, eD, ru1⟩ := (show ∃ _, _ from ru1)
      subst ru1
      obtain ⟨u2, hu2, ru2⟩ := hk.2.1 5 _ 17 rfl rfl (by decide +kernel)
      obtain ⟨y, ey, ru2⟩ := (show ∃ _, _ from ru2)
      subst ru2
      obtain ⟨y', ey', hp⟩ := hp
      rw [ey] at ey'
      injection ey' with ey'
      subst ey'
      obtain ⟨hD, hB⟩ := hp.new D eD
      have hB : Blk wx D 26 #[.int .i64 0, .slice none 0 0, .slice none 0 0, .slice none 0 0] := hB
      have z0 : wx.frozen? ⟨D, 0, none⟩ = false := hB.thaw 0
      have c0 : wx.cell? ⟨D, 0, none⟩ = some (.int .i64 0) := hB.cell 0
      have z1 : wx.frozen? ⟨D, 1, none⟩ = false := hB.thaw 1
      have c1 : wx.cell? ⟨D, 1, none⟩ = some (.slice none 0 0) := hB.cell 1
      have z2 : wx.frozen? ⟨D, 2, none⟩ = false := hB.thaw 2
      have c2 : wx.cell? ⟨D, 2, none⟩ = some (.slice none 0 0) := hB.cell 2
      have z3 : wx.frozen? ⟨D, 3, none⟩ = false := hB.thaw 3
      have c3 : wx.cell? ⟨D, 3, none⟩ = some (.slice none 0 0) := hB.cell 3
      have hbl := hB.lt
      have hrl := hp.res.lt
      have hG := bes_set (bes_set (bes_set (bes_set (grow_refl wx D) 0 (.int .i64 rev)) 1 (.slice none 0 0)) 2 (.slice none 0 0)) 3 (.slice y.1 nl y.2)
      have hnew : Blk _ D 26 #[.int .i64 rev, .slice none 0 0, .slice none 0 0, .slice y.1 nl y.2] := Blk.eq ((((hB.set 0 (.int .i64 rev)).set 1 (.slice none 0 0)).set 2 (.slice none 0 0)).set 3 (.slice y.1 nl y.2)) rfl
      have hfin := (show rupPh w ⟨rev, jobs, nodes, leases⟩ ⟨aj, nj, cj, an, nn, cn, al, nl, cl⟩ 2 γ _ from ⟨y, D, ey, eD, ⟨grow_keep hp.below hG (by omega), grow_blk hG hp.box (by omega), grow_blk hG hp.res (by omega), fun D' hD' => by
        rw [eD] at hD'; injection hD' with hD'; subst hD'; exact ⟨hD, hnew⟩, fun _ => own_setOther (own_setOther (own_setOther (own_setOther (hp.l (by omega)) hB (by decide)) (hB.set 0 _) (by decide)) ((hB.set 0 _).set 1 _) (by decide)) (((hB.set 0 _).set 1 _).set 2 _) (by decide)⟩⟩)
      clear hnew hG hp hB
      simp [go_sem, Oper.wp, execOp, Act.eval, hu1, hu2, c0, c1, c2, c3, z0, z1, z2, z3]
      exact ⟨.int .i64 0, γ.1, γ.2, fun _ _ _ h => h, trivial, hfin⟩
  intro γ act wx hd
  obtain ⟨y, D, ey, eD, hp⟩ := (show ∃ y D, _ from hd.ph)
  obtain ⟨fv, rfl, hfv⟩ := hd.frame [12, 13, 14, 15, 16, 17, 7] rfl
  obtain ⟨D', eD', h7⟩ := (show ∃ D, _ from hfv 6 _ 7 rfl rfl)
  rw [eD] at eD'
  injection eD' with eD'
  subst eD'
  obtain ⟨hD, hB⟩ := hp.new D eD
  have hB : Blk wx D 26 #[.int .i64 rev, .slice none 0 0, .slice none 0 0, .slice y.1 nl y.2] := hB
  have HL0 := (show RupL w wx D #[.int .i64 rev, .slice none 0 0, .slice none 0 0, .slice y.1 nl y.2] ⟨rev, jobs, nodes, leases⟩ ⟨aj, nj, cj, an, nn, cn, al, nl, cl⟩ y wx from ⟨hp.below, hp.box, hp.res, hB, hp.l (by omega), Nat.le_refl _, hD, hB.lt⟩)
  have hrs := hp.res.lt
  clear hd hp hB H0 hfv ey eD
  have hDl := HL0.new.lt
  have HL1 := HL0
  clear HL0
  have Hl1 := Lib.hid HL1
  have hbW : w.heap.size + 2 ≤ wx.heap.size := by have := HL1.at_; omega
  have hDW : D < wx.heap.size := HL1.at_.2
  have H7 := h7
  have yb1 : wx.cell? ⟨w.heap.size, 1, none⟩ = some (.slice aj nj cj) := HL1.box.cell 1
  clear HL1
  simp [Exit.then, h7]
  go_wp2
  go_loopw [28] (fun i wr => ∃ (k : Nat) (A : Option Addr) (c : Nat), k ≤ nj ∧ i = .int .i64 k ∧ RupL w wx D #[.int .i64 rev, .slice A k c, .slice none 0 0, .slice y.1 nl y.2] ⟨rev, jobs, nodes, leases⟩ ⟨aj, nj, cj, an, nn, cn, al, nl, cl⟩ y wr ∧ wr.ownsRow wx.heap.size 49 5 (.slice A k c) k (rowsV jobV (jobs.take k))) (fun i _ => nj - (intOf i).toNat)
  case atStart => exact ⟨0, none, 0, Nat.zero_le _, rfl, Hl1.out, World.ownsRow_nil _ _ _ _⟩
  case round =>
    clear Hl1 yb1
    obtain ⟨k, A, c, hk, rfl, hL, ho⟩ := hrel
    have HL := Lib.hid hL
    have Ho := Lib.hid ho
    have hDr := hL.new.lt
    have hsr := hL.size
    have hbr := hL.below.size
    have HoLt := Lib.hid ho.lt
    have y1 : wr.cell? ⟨D, 1, none⟩ = some (.slice A k c) := hL.new.cell 1
    by_cases hlt : k < nj
    · obtain ⟨r, hf⟩ : ∃ r, jobs[k]? = some r := ⟨_, List.getElem?_eq_getElem (by have := HS.out.lj; dsimp only at this; omega)⟩
      obtain ⟨b, off, hao, hbB, hc⟩ := (HS.out.j.below hL.below).rec_ jobV_len HS.out.lj hf
      dsimp only at hao
      subst hao
      have Hf := Lib.hid hf
      obtain ⟨name, prio, need, tries, tag⟩ := r
      have c0 : wr.cell? ⟨b, off + k * 5, none⟩ = some (.string name) := hc 0 _ rfl
      have c1 : wr.cell? ⟨b, off + k * 5 + 1, none⟩ = some (.int .i64 prio) := hc 1 _ rfl
      have c2 : wr.cell? ⟨b, off + k * 5 + 2, none⟩ = some (.int .i64 need) := hc 2 _ rfl
      have c3 : wr.cell? ⟨b, off + k * 5 + 3, none⟩ = some (.int .i64 tries) := hc 3 _ rfl
      have c4 : wr.cell? ⟨b, off + k * 5 + 4, none⟩ = some (.string tag) := hc 4 _ rfl
      have hlb : b < wr.heap.size := by omega
      have hA : Below wr.heap.size wr (wr.alloc (.cells #[.string name, .int .i64 prio, .int .i64 need, .int .i64 tries, .string tag] 49)) := (Below.refl _ _).alloc (Nat.le_refl _) _
      have HJ := Lib.hid (show Blk (wr.alloc (.cells #[.string name, .int .i64 prio, .int .i64 need, .int .i64 tries, .string tag] 49)) wr.heap.size 49 #[.string name, .int .i64 prio, .int .i64 need, .int .i64 tries, .string tag] from heap_alloc_new wr _)
      have hsA : (wr.alloc (.cells #[.string name, .int .i64 prio, .int .i64 need, .int .i64 tries, .string tag] 49)).heap.size = wr.heap.size + 1 := by simp
      have HL2 := Lib.hid (hL.kept hA)
      have HO2 := Lib.hid (ownU_below ho hA)
      clear hc hf hA hL ho HJ
      have hbrW : wx.heap.size ≤ (wr.alloc (.cells #[.string name, .int .i64 prio, .int .i64 need, .int .i64 tries, .string tag] 49)).heap.size := by omega
      go_wp2_with (at_builtin; refine push_rec jobV rfl _ _ 22 49 (.agg #[.string ⟨#[]⟩, .int .i64 0, .int .i64 0, .int .i64 0, .string ⟨#[]⟩]) 5 56 rfl Tryd.underlying22 infoJobT rfl (by decide) jobV_len jobV_oneT wx.heap.size _ _ _ _ rfl HO2.out _ ⟨name, prio, need, tries, tag⟩ rfl _ (by simp) rfl (by omega) (by unfold maxLen; omega) hbrW ?_; intro A2 c2 w4 ho4 hg4; have HL4 := HL2.out.grew hg4 HO2.out (by decide) hbW; have d1 : w4.cell? ⟨D, 1, none⟩ = some (.slice A k c) := HL4.new.cell 1; have z1 : w4.frozen? ⟨D, 1, none⟩ = false := HL4.new.thaw 1; have hd4 := HL4.new.lt)
      go_roundw
      case rel => exact ⟨k + 1, A2, c2, by omega, by go_num, HL4.set rfl, by rw [id_take_succ Hf.out]; exact own_setOther ho4 HL4.new (by decide)⟩
      case measure => simp [intOf]; omega
    · obtain rfl : nj = k := by omega
      have htk : jobs.take nj = jobs := List.take_of_length_le (by have := HS.out.lj; dsimp only at this; omega)
      rw [htk] at ho
      have HOJ := Lib.hid ho
      have Hl2 := Lib.hid hL
      have yb2 : wr.cell? ⟨w.heap.size, 2, none⟩ = some (.slice an nn cn) := hL.box.cell 2
      clear hL ho htk Ho HoLt HL y1
      go_wp2
      go_loopw [56] (fun i wr => ∃ (q : Nat) (AN : Option Addr) (cN : Nat), q ≤ nn ∧ i = .int .i64 q ∧ RupL w wx D #[.int .i64 rev, .slice A nj c, .slice AN q cN, .slice y.1 nl y.2] ⟨rev, jobs, nodes, leases⟩ ⟨aj, nj, cj, an, nn, cn, al, nl, cl⟩ y wr ∧ wr.ownsRow wx.heap.size 49 5 (.slice A nj c) nj (rowsV jobV (jobs)) ∧ wr.ownsRow wx.heap.size 54 3 (.slice AN q cN) q (rowsV nodeV (nodes.take q))) (fun i _ => nn - (intOf i).toNat)
      case atStart => exact ⟨0, none, 0, Nat.zero_le _, rfl, Hl2.out, HOJ.out, World.ownsRow_nil _ _ _ _⟩
      case round =>
        clear Hl2 HOJ yb2 hDr hsr hbr
        obtain ⟨q, AN, cN, hq, rfl, hL, hoJ, ho⟩ := hrel
        have HL := Lib.hid hL
        have HOJ := Lib.hid hoJ
        have hDr := hL.new.lt
        have hsr := hL.size
        have hbr := hL.below.size
        have y2 : wr.cell? ⟨D, 2, none⟩ = some (.slice AN q cN) := hL.new.cell 2
        by_cases hltq : q < nn
        · obtain ⟨r, hf⟩ : ∃ r, nodes[q]? = some r := ⟨_, List.getElem?_eq_getElem (by have := HS.out.ln; dsimp only at this; omega)⟩
          obtain ⟨b, off, hao, hbB, hc⟩ := (HS.out.n.below hL.below).rec_ nodeV_len HS.out.ln hf
          dsimp only at hao
          subst hao
          have Hf := Lib.hid hf
          obtain ⟨name, room, zone⟩ := r
          have c0 : wr.cell? ⟨b, off + q * 3, none⟩ = some (.string name) := hc 0 _ rfl
          have c1 : wr.cell? ⟨b, off + q * 3 + 1, none⟩ = some (.int .i64 room) := hc 1 _ rfl
          have c2 : wr.cell? ⟨b, off + q * 3 + 2, none⟩ = some (.string zone) := hc 2 _ rfl
          have hlb : b < wr.heap.size := by omega
          have hA : Below wr.heap.size wr (wr.alloc (.cells #[.string name, .int .i64 room, .string zone] 54)) := (Below.refl _ _).alloc (Nat.le_refl _) _
          have hsA : (wr.alloc (.cells #[.string name, .int .i64 room, .string zone] 54)).heap.size = wr.heap.size + 1 := by simp
          have HL2 := Lib.hid (hL.kept hA)
          have HO2 := Lib.hid (ownU_below ho hA)
          have HJ2 := Lib.hid (ownU_below hoJ hA)
          have hbrW : wx.heap.size ≤ (wr.alloc (.cells #[.string name, .int .i64 room, .string zone] 54)).heap.size := by omega
          clear hc hf hA hL ho hoJ
          go_wp2_with (at_builtin; refine push_rec nodeV rfl _ _ 23 54 (.agg #[.string ⟨#[]⟩, .int .i64 0, .string ⟨#[]⟩]) 3 40 rfl Tryd.underlying23 infoNodeT rfl (by decide) nodeV_len nodeV_oneT wx.heap.size _ _ _ _ rfl HO2.out _ ⟨name, room, zone⟩ rfl _ (by simp) rfl (by omega) (by unfold maxLen; omega) hbrW ?_; intro A2 c2 w4 ho4 hg4; have HL4 := HL2.out.grew hg4 HO2.out (by decide) hbW; have hJ4 := own_grewOther HJ2.out hg4 HO2.out (by decide); have d1 : w4.cell? ⟨D, 2, none⟩ = some (.slice AN q cN) := HL4.new.cell 2; have z1 : w4.frozen? ⟨D, 2, none⟩ = false := HL4.new.thaw 2; have hd4 := HL4.new.lt)
          go_roundw
          case rel => exact ⟨q + 1, A2, c2, by omega, by go_num, HL4.set rfl, own_setOther hJ4 HL4.new (by decide), by rw [id_take_succ Hf.out]; exact own_setOther ho4 HL4.new (by decide)⟩
          case measure => simp [intOf]; omega
        · obtain rfl : nn = q := by omega
          have htk : nodes.take nn = nodes := List.take_of_length_le (by have := HS.out.ln; dsimp only at this; omega)
          rw [htk] at ho
          have hR := hL.res
          have hrl := hR.lt
          have b0 : wr.cell? ⟨D, 0, none⟩ = some (.int .i64 rev) := hL.new.cell 0
          have b1 : wr.cell? ⟨D, 1, none⟩ = some (.slice A nj c) := hL.new.cell 1
          have b2 : wr.cell? ⟨D, 2, none⟩ = some (.slice AN nn cN) := hL.new.cell 2
          have b3 : wr.cell? ⟨D, 3, none⟩ = some (.slice y.1 nl y.2) := hL.new.cell 3
          have u0 : wr.frozen? ⟨w.heap.size + 1, 0, none⟩ = false := hR.thaw 0
          have s0 : wr.cell? ⟨w.heap.size + 1, 0, none⟩ = some (.int .i64 0) := hR.cell 0
          have u1 : wr.frozen? ⟨w.heap.size + 1, 1, none⟩ = false := hR.thaw 1
          have s1 : wr.cell? ⟨w.heap.size + 1, 1, none⟩ = some (.slice none 0 0) := hR.cell 1
          have u2 : wr.frozen? ⟨w.heap.size + 1, 2, none⟩ = false := hR.thaw 2
          have s2 : wr.cell? ⟨w.heap.size + 1, 2, none⟩ = some (.slice none 0 0) := hR.cell 2
          have u3 : wr.frozen? ⟨w.heap.size + 1, 3, none⟩ = false := hR.thaw 3
          have s3 : wr.cell? ⟨w.heap.size + 1, 3, none⟩ = some (.slice none 0 0) := hR.cell 3
          have hR4 := (Blk.eq ((Blk.eq ((Blk.eq ((Blk.eq (hR.set 0 (.int .i64 rev)) (show _ = #[.int .i64 rev, .slice none 0 0, .slice none 0 0, .slice none 0 0] from rfl)).set 1 (.slice A nj c)) (show _ = #[.int .i64 rev, .slice A nj c, .slice none 0 0, .slice none 0 0] from rfl)).set 2 (.slice AN nn cN)) (show _ = #[.int .i64 rev, .slice A nj c, .slice AN nn cN, .slice none 0 0] from rfl)).set 3 (.slice y.1 nl y.2)) (show _ = #[.int .i64 rev, .slice A nj c, .slice AN nn cN, .slice y.1 nl y.2] from rfl))
          have q0 := (show _ = (some (.int .i64 rev) : Option Value) from hR4.cell 0)
          have q1 := (show _ = (some (.slice A nj c) : Option Value) from hR4.cell 1)
          have q2 := (show _ = (some (.slice AN nn cN) : Option Value) from hR4.cell 2)
          have q3 := (show _ = (some (.slice y.1 nl y.2) : Option Value) from hR4.cell 3)
          have hG4 := (bes_set (bes_set (bes_set (bes_set (grow_refl wr (w.heap.size + 1)) 0 (.int .i64 rev)) 1 (.slice A nj c)) 2 (.slice AN nn cN)) 3 (.slice y.1 nl y.2))
          have hne := hL.at_
          have hsame : ∀ (i : Nat) (u : Value) (W : World) (g : Nat), True := fun _ _ _ _ => trivial
          have Hend := Lib.hid (show StepsPost (upSt ⟨rev, jobs, nodes, leases⟩ 2 2) ⟨aj, nj, cj, an, nn, cn, al, nl, cl⟩ w (.returned (.agg #[.int .i64 rev, .slice A nj c, .slice AN nn cN, .slice y.1 nl y.2])) _ from by
            rw [Hup.out]
            exact ⟨⟨A, nj, c, AN, nn, cN, y.1, nl, y.2⟩, rfl, rfl, rfl, rfl, ⟨ownT_base (ownT_grow hoJ hG4 (by omega)) (by omega), ownT_base (ownT_grow ho hG4 (by omega)) (by omega), ownT_base (ownT_grow hL.l hG4 (by omega)) (by omega), by have := HS.out.lj; dsimp only at this ⊢; exact this, by have := HS.out.ln; dsimp only at this ⊢; exact this, HS.out.ll⟩, grow_keep hL.below hG4 (by omega)⟩)
          clear hL hR hR4 hG4 ho hoJ HL HOJ htk hsame
          go_wp2
          refine bodyPost_ret (v := .agg #[.int .i64 rev, .slice A nj c, .slice AN nn cN, .slice y.1 nl y.2]) (by simp [results, Tryd.results51, go_sem, *]) rfl ?_
          exact Hend.out
set_option maxRecDepth 100000 in
set_option maxHeartbeats 4000000 in
theorem rup_23 (st : StateD) (x : StA) (w : World) (hS : StAt w w.heap.size st x) (h1 : x.nj ≤ 1000) (h2 : x.nn ≤ 1000) (h3 : x.nl ≤ 1000) :
    Calls Tryd.prog 51 #[.agg (stC st x), .int .i64 2, .int .i64 3] w (StepsPost (upSt st 2 3) x w) := by
  have hb1 : Below w.heap.size w (w.alloc (.cells (stC st x) 26)) := (Below.refl _ _).alloc (Nat.le_refl _) _
  have hb2 := hb1.alloc hb1.size (.cells #[.int .i64 0, .slice none 0 0, .slice none 0 0, .slice none 0 0] 26)
  have H0 : rupPh w st x 0 (none, none) (((w.alloc (.cells (stC st x) 26)).alloc (.cells #[.int .i64 0, .slice none 0 0, .slice none 0 0, .slice none 0 0] 26))).drew :=
    ⟨rfl, hb2.drew, Blk.alloc (show Blk _ _ _ _ from heap_alloc_new w _) _, by
      have h := heap_alloc_new (w.alloc (.cells (stC st x) 26)) (.cells #[.int .i64 0, .slice none 0 0, .slice none 0 0, .slice none 0 0] 26)
      rw [show (w.alloc (.cells (stC st x) 26)).heap.size = w.heap.size + 1 by simp] at h
      exact h, (fun D hD => by cases hD), fun h => absurd h (by omega)⟩
  have HS := Lib.hid hS
  have Hup := Lib.hid (show upSt st 2 3 = ⟨1, st.jobs, st.nodes, st.leases⟩ from by unfold upSt; rw [if_pos (by decide)]; rw [if_neg (by decide), if_neg (by decide)])
  clear hb1 hb2 hS
  obtain ⟨rev, jobs, nodes, leases⟩ := st
  obtain ⟨aj, nj, cj, an, nn, cn, al, nl, cl⟩ := x
  unfold stC at *
  dsimp only at *
  go_enter Tryd.func51, Tryd.ntmps51
  go_wp2_with fail
  refine wp_region_phasesG (n := 75) (by kernel_rfl) (rupV w.heap.size rev al nl cl) [4, 7] (rupPh w ⟨rev, jobs, nodes, leases⟩ ⟨aj, nj, cj, an, nn, cn, al, nl, cl⟩) (none, none) (by decide +kernel) (by decide +kernel) rfl H0 ?_ ?_
  · refine ⟨?_, ?_, ?_, ?_, ?_, ?_, ?_, ?_, trivial⟩
    · refine ⟨rfl, .inr ⟨by decide, 0, 2, by decide +kernel, by decide +kernel, fun p γ a wx _ hph hp hk => ?_⟩⟩
      have h1 := hk.1 3 _ rfl (by decide +kernel)
      simp [go_sem, Oper.wp, execOp, Act.eval, h1]
      exact ⟨_, rfl, γ.1, γ.2, fun _ _ _ h => h, rfl, hp⟩
    · refine ⟨rfl, .inr ⟨by decide, 0, 2, by decide +kernel, by decide +kernel, fun p γ a wx _ hph hp hk => ?_⟩⟩
      obtain ⟨u1, hu1, ru1⟩ := hk.2.1 0 _ 12 rfl rfl (by decide +kernel)
      replace ru1 : u1 = _ := ru1
      subst ru1
      have hbx : RBox w wx #[.int .i64 rev, .slice aj nj cj, .slice an nn cn, .slice al nl cl] := rupBox hp
      have hc : wx.cell? ⟨w.heap.size, 0, none⟩ = some (.int .i64 rev) := hbx.cell 0
      simp [go_sem, Oper.wp, execOp, Act.eval, hu1, hc]
      exact ⟨_, rfl, γ.1, γ.2, fun _ _ _ h => h, rfl, hp⟩
    · refine ⟨rfl, .inr ⟨by decide, 0, 2, by decide +kernel, by decide +kernel, fun p γ a wx _ hph hp hk => ?_⟩⟩
      have h1 := hk.1 3 _ rfl (by decide +kernel)
      simp [go_sem, Oper.wp, execOp, Act.eval, h1]
      exact ⟨_, rfl, γ.1, γ.2, fun _ _ _ h => h, rfl, hp⟩
    · refine ⟨rfl, .inr ⟨by decide, 0, 2, by decide +kernel, by decide +kernel, fun p γ a wx _ hph hp hk => ?_⟩⟩
      obtain ⟨u1, hu1, ru1⟩ := hk.2.1 2 _ 14 rfl rfl (by decide +kernel)
      replace ru1 : u1 = _ := ru1
      subst ru1
      have hbx : RBox w wx #[.int .i64 rev, .slice aj nj cj, .slice an nn cn, .slice al nl cl] := rupBox hp
      have hc : wx.cell? ⟨w.heap.size, 3, none⟩ = some (.slice al nl cl) := hbx.cell 3
      simp [go_sem, Oper.wp, execOp, Act.eval, hu1, hc]
      exact ⟨_, rfl, γ.1, γ.2, fun _ _ _ h => h, rfl, hp⟩
    · refine ⟨rfl, .inl ⟨0, rfl, fun γ a wx hp hk => ?_⟩⟩
      obtain ⟨u1, hu1, ru1⟩ := hk.2.1 3 _ 15 rfl rfl (by decide +kernel)
      replace ru1 : u1 = _ := ru1
      subst ru1
      simp [go_sem, Oper.wp, execOp, Act.eval, hu1]
      obtain ⟨h0, hp⟩ := hp
      refine (copy_lease leases al nl cl wx (HS.out.l.below hp.below |>.more hp.below.size) HS.out.ll (by omega)).mono ?_
      rintro e w' ⟨A', c', rfl, ho, hb⟩
      rw [HS.out.ll] at ho ⊢
      dsimp only at ho ⊢
      have hk' := hp.kept hb
      exact ⟨_, rfl, some (A', c'), γ.2, rupV_4 h0 _, ⟨(A', c'), rfl, rfl⟩, (A', c'), rfl, ⟨hk'.below, hk'.box, hk'.res, hk'.new, fun _ => ownT_base ho (by have := hp.res.lt; omega)⟩⟩
    · refine ⟨rfl, .inr ⟨by decide, 0, 2, by decide +kernel, by decide +kernel, fun p γ a wx _ hph hp hk => ?_⟩⟩
      obtain ⟨u1, hu1, ru1⟩ := hk.2.1 1 _ 13 rfl rfl (by decide +kernel)
      replace ru1 : u1 = _ := ru1
      subst ru1
      obtain ⟨u2, hu2, ru2⟩ := hk.2.1 4 _ 16 rfl rfl (by decide +kernel)
      obtain ⟨y, ey, ru2⟩ := (show ∃ _, _ from ru2)
      subst ru2
      simp [go_sem, Oper.wp, execOp, Act.eval, hu1, hu2]
      exact ⟨_, rfl, γ.1, γ.2, fun _ _ _ h => h, ⟨y, ey, rfl⟩, hp⟩
    · refine ⟨rfl, .inr ⟨by decide, 0, 1, by decide +kernel, by decide +kernel, fun p γ a wx _ hph hp hk => ?_⟩⟩
      simp [go_sem, Oper.wp, execOp, Act.eval, ]
      exact ⟨_, rfl, γ.1, some wx.heap.size, rupV_6 _, ⟨_, rfl, rfl⟩, rupAlloc hph hp⟩
    · refine ⟨rfl, .inl ⟨1, rfl, fun γ a wx hp hk => ?_⟩⟩
      obtain ⟨u1, hu1, ru1⟩ := hk.2.1 6 _ 7 rfl rfl (by decide +kernel)
      obtain ⟨D, eD, ru1⟩ := (show ∃ _, _ from ru1)
      subst ru1
      obtain ⟨u2, hu2, ru2⟩ := hk.2.1 5 _ 17 rfl rfl (by decide +kernel)
      obtain ⟨y, ey, ru2⟩ := (show ∃ _, _ from ru2)
      subst ru2
      obtain ⟨y', ey', hp⟩ := hp
      rw [ey] at ey'
      injection ey' with ey'
      subst ey'
      obtain ⟨hD, hB⟩ := hp.new D eD
      have hB : Blk wx D 26 #[.int .i64 0, .slice none 0 0, .slice none 0 0, .slice none 0 0] := hB
      have z0 : wx.frozen? ⟨D, 0, none⟩ = false := hB.thaw 0
      have c0 : wx.cell? ⟨D, 0, none⟩ = some (.int .i64 0) := hB.cell 0
      have z1 : wx.frozen? ⟨D, 1, none⟩ = false := hB.thaw 1
      have c1 : wx.cell? ⟨D, 1, none⟩ = some (.slice none 0 0) := hB.cell 1
      have z2 : wx.frozen? ⟨D, 2, none⟩ = false := hB.thaw 2
      have c2 : wx.cell? ⟨D, 2, none⟩ = some (.slice none 0 0) := hB.cell 2
      have z3 : wx.frozen? ⟨D, 3, none⟩ = false := hB.thaw 3
      have c3 : wx.cell? ⟨D, 3, none⟩ = some (.slice none 0 0) := hB.cell 3
      have hbl := hB.lt
      have hrl := hp.res.lt
      have hG := bes_set (bes_set (bes_set (bes_set (grow_refl wx D) 0 (.int .i64 rev)) 1 (.slice none 0 0)) 2 (.slice none 0 0)) 3 (.slice y.1 nl y.2)
      have hnew : Blk _ D 26 #[.int .i64 rev, .slice none 0 0, .slice none 0 0, .slice y.1 nl y.2] := Blk.eq ((((hB.set 0 (.int .i64 rev)).set 1 (.slice none 0 0)).set 2 (.slice none 0 0)).set 3 (.slice y.1 nl y.2)) rfl
      have hfin := (show rupPh w ⟨rev, jobs, nodes, leases⟩ ⟨aj, nj, cj, an, nn, cn, al, nl, cl⟩ 2 γ _ from ⟨y, D, ey, eD, ⟨grow_keep hp.below hG (by omega), grow_blk hG hp.box (by omega), grow_blk hG hp.res (by omega), fun D' hD' => by
        rw [eD] at hD'; injection hD' with hD'; subst hD'; exact ⟨hD, hnew⟩, fun _ => own_setOther (own_setOther (own_setOther (own_setOther (hp.l (by omega)) hB (by decide)) (hB.set 0 _) (by decide)) ((hB.set 0 _).set 1 _) (by decide)) (((hB.set 0 _).set 1 _).set 2 _) (by decide)⟩⟩)
      clear hnew hG hp hB
      simp [go_sem, Oper.wp, execOp, Act.eval, hu1, hu2, c0, c1, c2, c3, z0, z1, z2, z3]
      exact ⟨.int .i64 0, γ.1, γ.2, fun _ _ _ h => h, trivial, hfin⟩
  intro γ act wx hd
  obtain ⟨y, D, ey, eD, hp⟩ := (show ∃ y D, _ from hd.ph)
  obtain ⟨fv, rfl, hfv⟩ := hd.frame [12, 13, 14, 15, 16, 17, 7] rfl
  obtain ⟨D', eD', h7⟩ := (show ∃ D, _ from hfv 6 _ 7 rfl rfl)
  rw [eD] at eD'
  injection eD' with eD'
  subst eD'
  obtain ⟨hD, hB⟩ := hp.new D eD
  have hB : Blk wx D 26 #[.int .i64 rev, .slice none 0 0, .slice none 0 0, .slice y.1 nl y.2] := hB
  have HL0 := (show RupL w wx D #[.int .i64 rev, .slice none 0 0, .slice none 0 0, .slice y.1 nl y.2] ⟨rev, jobs, nodes, leases⟩ ⟨aj, nj, cj, an, nn, cn, al, nl, cl⟩ y wx from ⟨hp.below, hp.box, hp.res, hB, hp.l (by omega), Nat.le_refl _, hD, hB.lt⟩)
  have hrs := hp.res.lt
  clear hd hp hB H0 hfv ey eD
  have hDl := HL0.new.lt
  have z0 : wx.frozen? ⟨D, 0, none⟩ = false := HL0.new.thaw 0
  have c0 : wx.cell? ⟨D, 0, none⟩ = some (.int .i64 rev) := HL0.new.cell 0
  have Hbox0 := Lib.hid HL0.box
  have HL1 : RupL w wx D #[.int .i64 1, .slice none 0 0, .slice none 0 0, .slice y.1 nl y.2] ⟨rev, jobs, nodes, leases⟩ ⟨aj, nj, cj, an, nn, cn, al, nl, cl⟩ y (wx.setCell ⟨D, 0, none⟩ (.int .i64 1)) := HL0.set rfl
  generalize hW1 : wx.setCell ⟨D, 0, none⟩ (.int .i64 1) = W1 at HL1
  have hws : wx.heap.size = W1.heap.size := by rw [← hW1]; simp [World.setCell]
  have HW1 := Lib.hid hW1
  clear hW1 HL0
  have Hl1 := Lib.hid HL1
  have hbW : w.heap.size + 2 ≤ wx.heap.size := by have := HL1.at_; omega
  have hDW : D < wx.heap.size := HL1.at_.2
  have H7 := h7
  have yb1 : wx.cell? ⟨w.heap.size, 1, none⟩ = some (.slice aj nj cj) := Hbox0.out.cell 1
  clear HL1
  simp [Exit.then, h7]
  go_wp2
  go_loopw [28] (fun i wr => ∃ (k : Nat) (A : Option Addr) (c : Nat), k ≤ nj ∧ i = .int .i64 k ∧ RupL w wx D #[.int .i64 1, .slice A k c, .slice none 0 0, .slice y.1 nl y.2] ⟨rev, jobs, nodes, leases⟩ ⟨aj, nj, cj, an, nn, cn, al, nl, cl⟩ y wr ∧ wr.ownsRow wx.heap.size 49 5 (.slice A k c) k (rowsV jobV (jobs.take k))) (fun i _ => nj - (intOf i).toNat)
  case atStart => rw [HW1.out]; exact ⟨0, none, 0, Nat.zero_le _, rfl, Hl1.out, World.ownsRow_nil _ _ _ _⟩
  case round =>
    clear Hl1 yb1
    obtain ⟨k, A, c, hk, rfl, hL, ho⟩ := hrel
    have HL := Lib.hid hL
    have Ho := Lib.hid ho
    have hDr := hL.new.lt
    have hsr := hL.size
    have hbr := hL.below.size
    have HoLt := Lib.hid ho.lt
    have y1 : wr.cell? ⟨D, 1, none⟩ = some (.slice A k c) := hL.new.cell 1
    by_cases hlt : k < nj
    · obtain ⟨r, hf⟩ : ∃ r, jobs[k]? = some r := ⟨_, List.getElem?_eq_getElem (by have := HS.out.lj; dsimp only at this; omega)⟩
      obtain ⟨b, off, hao, hbB, hc⟩ := (HS.out.j.below hL.below).rec_ jobV_len HS.out.lj hf
      dsimp only at hao
      subst hao
      have Hf := Lib.hid hf
      obtain ⟨name, prio, need, tries, tag⟩ := r
      have c0 : wr.cell? ⟨b, off + k * 5, none⟩ = some (.string name) := hc 0 _ rfl
      have c1 : wr.cell? ⟨b, off + k * 5 + 1, none⟩ = some (.int .i64 prio) := hc 1 _ rfl
      have c2 : wr.cell? ⟨b, off + k * 5 + 2, none⟩ = some (.int .i64 need) := hc 2 _ rfl
      have c3 : wr.cell? ⟨b, off + k * 5 + 3, none⟩ = some (.int .i64 tries) := hc 3 _ rfl
      have c4 : wr.cell? ⟨b, off + k * 5 + 4, none⟩ = some (.string tag) := hc 4 _ rfl
      have hlb : b < wr.heap.size := by omega
      have hA : Below wr.heap.size wr (wr.alloc (.cells #[.string name, .int .i64 prio, .int .i64 need, .int .i64 tries, .string tag] 49)) := (Below.refl _ _).alloc (Nat.le_refl _) _
      have HJ := Lib.hid (show Blk (wr.alloc (.cells #[.string name, .int .i64 prio, .int .i64 need, .int .i64 tries, .string tag] 49)) wr.heap.size 49 #[.string name, .int .i64 prio, .int .i64 need, .int .i64 tries, .string tag] from heap_alloc_new wr _)
      have hsA : (wr.alloc (.cells #[.string name, .int .i64 prio, .int .i64 need, .int .i64 tries, .string tag] 49)).heap.size = wr.heap.size + 1 := by simp
      have HL2 := Lib.hid (hL.kept hA)
      have HO2 := Lib.hid (ownU_below ho hA)
      clear hc hf hA hL ho HJ
      have hbrW : wx.heap.size ≤ (wr.alloc (.cells #[.string name, .int .i64 prio, .int .i64 need, .int .i64 tries, .string tag] 49)).heap.size := by omega
      go_wp2_with (at_builtin; refine push_rec jobV rfl _ _ 22 49 (.agg #[.string ⟨#[]⟩, .int .i64 0, .int .i64 0, .int .i64 0, .string ⟨#[]⟩]) 5 56 rfl Tryd.underlying22 infoJobT rfl (by decide) jobV_len jobV_oneT wx.heap.size _ _ _ _ rfl HO2.out _ ⟨name, prio, need, tries, tag⟩ rfl _ (by simp) rfl (by omega) (by unfold maxLen; omega) hbrW ?_; intro A2 c2 w4 ho4 hg4; have HL4 := HL2.out.grew hg4 HO2.out (by decide) hbW; have d1 : w4.cell? ⟨D, 1, none⟩ = some (.slice A k c) := HL4.new.cell 1; have z1 : w4.frozen? ⟨D, 1, none⟩ = false := HL4.new.thaw 1; have hd4 := HL4.new.lt)
      go_roundw
      case rel => exact ⟨k + 1, A2, c2, by omega, by go_num, HL4.set rfl, by rw [id_take_succ Hf.out]; exact own_setOther ho4 HL4.new (by decide)⟩
      case measure => simp [intOf]; omega
    · obtain rfl : nj = k := by omega
      have htk : jobs.take nj = jobs := List.take_of_length_le (by have := HS.out.lj; dsimp only at this; omega)
      rw [htk] at ho
      have HOJ := Lib.hid ho
      have Hl2 := Lib.hid hL
      have yb2 : wr.cell? ⟨w.heap.size, 2, none⟩ = some (.slice an nn cn) := hL.box.cell 2
      clear hL ho htk Ho HoLt HL y1
      go_wp2
      go_loopw [56] (fun i wr => ∃ (q : Nat) (AN : Option Addr) (cN : Nat), q ≤ nn ∧ i = .int .i64 q ∧ RupL w wx D #[.int .i64 1, .slice A nj c, .slice AN q cN, .slice y.1 nl y.2] ⟨rev, jobs, nodes, leases⟩ ⟨aj, nj, cj, an, nn, cn, al, nl, cl⟩ y wr ∧ wr.ownsRow wx.heap.size 49 5 (.slice A nj c) nj (rowsV jobV (jobs)) ∧ wr.ownsRow wx.heap.size 54 3 (.slice AN q cN) q (rowsV nodeV (nodes.take q))) (fun i _ => nn - (intOf i).toNat)
      case atStart => exact ⟨0, none, 0, Nat.zero_le _, rfl, Hl2.out, HOJ.out, World.ownsRow_nil _ _ _ _⟩
      case round =>
        clear Hl2 HOJ yb2 hDr hsr hbr
        obtain ⟨q, AN, cN, hq, rfl, hL, hoJ, ho⟩ := hrel
        have HL := Lib.hid hL
        have HOJ := Lib.hid hoJ
        have hDr := hL.new.lt
        have hsr := hL.size
        have hbr := hL.below.size
        have y2 : wr.cell? ⟨D, 2, none⟩ = some (.slice AN q cN) := hL.new.cell 2
        by_cases hltq : q < nn
        · obtain ⟨r, hf⟩ : ∃ r, nodes[q]? = some r := ⟨_, List.getElem?_eq_getElem (by have := HS.out.ln; dsimp only at this; omega)⟩
          obtain ⟨b, off, hao, hbB, hc⟩ := (HS.out.n.below hL.below).rec_ nodeV_len HS.out.ln hf
          dsimp only at hao
          subst hao
          have Hf := Lib.hid hf
          obtain ⟨name, room, zone⟩ := r
          have c0 : wr.cell? ⟨b, off + q * 3, none⟩ = some (.string name) := hc 0 _ rfl
          have c1 : wr.cell? ⟨b, off + q * 3 + 1, none⟩ = some (.int .i64 room) := hc 1 _ rfl
          have c2 : wr.cell? ⟨b, off + q * 3 + 2, none⟩ = some (.string zone) := hc 2 _ rfl
          have hlb : b < wr.heap.size := by omega
          have hA : Below wr.heap.size wr (wr.alloc (.cells #[.string name, .int .i64 room, .string zone] 54)) := (Below.refl _ _).alloc (Nat.le_refl _) _
          have hsA : (wr.alloc (.cells #[.string name, .int .i64 room, .string zone] 54)).heap.size = wr.heap.size + 1 := by simp
          have HL2 := Lib.hid (hL.kept hA)
          have HO2 := Lib.hid (ownU_below ho hA)
          have HJ2 := Lib.hid (ownU_below hoJ hA)
          have hbrW : wx.heap.size ≤ (wr.alloc (.cells #[.string name, .int .i64 room, .string zone] 54)).heap.size := by omega
          clear hc hf hA hL ho hoJ
          go_wp2_with (at_builtin; refine push_rec nodeV rfl _ _ 23 54 (.agg #[.string ⟨#[]⟩, .int .i64 0, .string ⟨#[]⟩]) 3 40 rfl Tryd.underlying23 infoNodeT rfl (by decide) nodeV_len nodeV_oneT wx.heap.size _ _ _ _ rfl HO2.out _ ⟨name, room, zone⟩ rfl _ (by simp) rfl (by omega) (by unfold maxLen; omega) hbrW ?_; intro A2 c2 w4 ho4 hg4; have HL4 := HL2.out.grew hg4 HO2.out (by decide) hbW; have hJ4 := own_grewOther HJ2.out hg4 HO2.out (by decide); have d1 : w4.cell? ⟨D, 2, none⟩ = some (.slice AN q cN) := HL4.new.cell 2; have z1 : w4.frozen? ⟨D, 2, none⟩ = false := HL4.new.thaw 2; have hd4 := HL4.new.lt)
          go_roundw
          case rel => exact ⟨q + 1, A2, c2, by omega, by go_num, HL4.set rfl, own_setOther hJ4 HL4.new (by decide), by rw [id_take_succ Hf.out]; exact own_setOther ho4 HL4.new (by decide)⟩
          case measure => simp [intOf]; omega
        · obtain rfl : nn = q := by omega
          have htk : nodes.take nn = nodes := List.take_of_length_le (by have := HS.out.ln; dsimp only at this; omega)
          rw [htk] at ho
          have hR := hL.res
          have hrl := hR.lt
          have b0 : wr.cell? ⟨D, 0, none⟩ = some (.int .i64 1) := hL.new.cell 0
          have b1 : wr.cell? ⟨D, 1, none⟩ = some (.slice A nj c) := hL.new.cell 1
          have b2 : wr.cell? ⟨D, 2, none⟩ = some (.slice AN nn cN) := hL.new.cell 2
          have b3 : wr.cell? ⟨D, 3, none⟩ = some (.slice y.1 nl y.2) := hL.new.cell 3
          have u0 : wr.frozen? ⟨w.heap.size + 1, 0, none⟩ = false := hR.thaw 0
          have s0 : wr.cell? ⟨w.heap.size + 1, 0, none⟩ = some (.int .i64 0) := hR.cell 0
          have u1 : wr.frozen? ⟨w.heap.size + 1, 1, none⟩ = false := hR.thaw 1
          have s1 : wr.cell? ⟨w.heap.size + 1, 1, none⟩ = some (.slice none 0 0) := hR.cell 1
          have u2 : wr.frozen? ⟨w.heap.size + 1, 2, none⟩ = false := hR.thaw 2
          have s2 : wr.cell? ⟨w.heap.size + 1, 2, none⟩ = some (.slice none 0 0) := hR.cell 2
          have u3 : wr.frozen? ⟨w.heap.size + 1, 3, none⟩ = false := hR.thaw 3
          have s3 : wr.cell? ⟨w.heap.size + 1, 3, none⟩ = some (.slice none 0 0) := hR.cell 3
          have hR4 := (Blk.eq ((Blk.eq ((Blk.eq ((Blk.eq (hR.set 0 (.int .i64 1)) (show _ = #[.int .i64 1, .slice none 0 0, .slice none 0 0, .slice none 0 0] from rfl)).set 1 (.slice A nj c)) (show _ = #[.int .i64 1, .slice A nj c, .slice none 0 0, .slice none 0 0] from rfl)).set 2 (.slice AN nn cN)) (show _ = #[.int .i64 1, .slice A nj c, .slice AN nn cN, .slice none 0 0] from rfl)).set 3 (.slice y.1 nl y.2)) (show _ = #[.int .i64 1, .slice A nj c, .slice AN nn cN, .slice y.1 nl y.2] from rfl))
          have q0 := (show _ = (some (.int .i64 1) : Option Value) from hR4.cell 0)
          have q1 := (show _ = (some (.slice A nj c) : Option Value) from hR4.cell 1)
          have q2 := (show _ = (some (.slice AN nn cN) : Option Value) from hR4.cell 2)
          have q3 := (show _ = (some (.slice y.1 nl y.2) : Option Value) from hR4.cell 3)
          have hG4 := (bes_set (bes_set (bes_set (bes_set (grow_refl wr (w.heap.size + 1)) 0 (.int .i64 1)) 1 (.slice A nj c)) 2 (.slice AN nn cN)) 3 (.slice y.1 nl y.2))
          have hne := hL.at_
          have hsame : ∀ (i : Nat) (u : Value) (W : World) (g : Nat), True := fun _ _ _ _ => trivial
          have Hend := Lib.hid (show StepsPost (upSt ⟨rev, jobs, nodes, leases⟩ 2 3) ⟨aj, nj, cj, an, nn, cn, al, nl, cl⟩ w (.returned (.agg #[.int .i64 1, .slice A nj c, .slice AN nn cN, .slice y.1 nl y.2])) _ from by
            rw [Hup.out]
            exact ⟨⟨A, nj, c, AN, nn, cN, y.1, nl, y.2⟩, rfl, rfl, rfl, rfl, ⟨ownT_base (ownT_grow hoJ hG4 (by omega)) (by omega), ownT_base (ownT_grow ho hG4 (by omega)) (by omega), ownT_base (ownT_grow hL.l hG4 (by omega)) (by omega), by have := HS.out.lj; dsimp only at this ⊢; exact this, by have := HS.out.ln; dsimp only at this ⊢; exact this, HS.out.ll⟩, grow_keep hL.below hG4 (by omega)⟩)
          clear hL hR hR4 hG4 ho hoJ HL HOJ htk hsame
          go_wp2
          refine bodyPost_ret (v := .agg #[.int .i64 1, .slice A nj c, .slice AN nn cN, .slice y.1 nl y.2]) (by simp [results, Tryd.results51, go_sem, *]) rfl ?_
          exact Hend.out
set_option maxRecDepth 100000 in
set_option maxHeartbeats 4000000 in
theorem rup_33 (st : StateD) (x : StA) (w : World) (hS : StAt w w.heap.size st x) (h1 : x.nj ≤ 1000) (h2 : x.nn ≤ 1000) (h3 : x.nl ≤ 1000) :
    Calls Tryd.prog 51 #[.agg (stC st x), .int .i64 3, .int .i64 3] w (StepsPost (upSt st 3 3) x w) := by
  have hb1 : Below w.heap.size w (w.alloc (.cells (stC st x) 26)) := (Below.refl _ _).alloc (Nat.le_refl _) _
  have hb2 := hb1.alloc hb1.size (.cells #[.int .i64 0, .slice none 0 0, .slice none 0 0, .slice none 0 0] 26)
  have H0 : rupPh w st x 0 (none, none) (((w.alloc (.cells (stC st x) 26)).alloc (.cells #[.int .i64 0, .slice none 0 0, .slice none 0 0, .slice none 0 0] 26))).drew :=
    ⟨rfl, hb2.drew, Blk.alloc (show Blk _ _ _ _ from heap_alloc_new w _) _, by
      have h := heap_alloc_new (w.alloc (.cells (stC st x) 26)) (.cells #[.int .i64 0, .slice none 0 0, .slice none 0 0, .slice none 0 0] 26)
      rw [show (w.alloc (.cells (stC st x) 26)).heap.size = w.heap.size + 1 by simp] at h
      exact h, (fun D hD => by cases hD), fun h => absurd h (by omega)⟩
  have HS := Lib.hid hS
  have Hup := Lib.hid (show upSt st 3 3 = ⟨st.rev, st.jobs, st.nodes, st.leases⟩ from by unfold upSt; rw [if_neg (by decide)]; rw [if_neg (by decide), if_neg (by decide)])
  clear hb1 hb2 hS
  obtain ⟨rev, jobs, nodes, leases⟩ := st
  obtain ⟨aj, nj, cj, an, nn, cn, al, nl, cl⟩ := x
  unfold stC at *
  dsimp only at *
  go_enter Tryd.func51, Tryd.ntmps51
  go_wp2_with fail
  refine wp_region_phasesG (n := 75) (by kernel_rfl) (rupV w.heap.size rev al nl cl) [4, 7] (rupPh w ⟨rev, jobs, nodes, leases⟩ ⟨aj, nj, cj, an, nn, cn, al, nl, cl⟩) (none, none) (by decide +kernel) (by decide +kernel) rfl H0 ?_ ?_
  · refine ⟨?_, ?_, ?_, ?_, ?_, ?_, ?_, ?_, trivial⟩
    · refine ⟨rfl, .inr ⟨by decide, 0, 2, by decide +kernel, by decide +kernel, fun p γ a wx _ hph hp hk => ?_⟩⟩
      have h1 := hk.1 3 _ rfl (by decide +kernel)
      simp [go_sem, Oper.wp, execOp, Act.eval, h1]
      exact ⟨_, rfl, γ.1, γ.2, fun _ _ _ h => h, rfl, hp⟩
    · refine ⟨rfl, .inr ⟨by decide, 0, 2, by decide +kernel, by decide +kernel, fun p γ a wx _ hph hp hk => ?_⟩⟩
      obtain ⟨u1, hu1, ru1⟩ := hk.2.1 0 _ 12 rfl rfl (by decide +kernel)
      replace ru1 : u1 = _ := ru1
      subst ru1
      have hbx : RBox w wx #[.int .i64 rev, .slice aj nj cj, .slice an nn cn, .slice al nl cl] := rupBox hp
      have hc : wx.cell? ⟨w.heap.size, 0, none⟩ = some (.int .i64 rev) := hbx.cell 0
      simp [go_sem, Oper.wp, execOp, Act.eval, hu1, hc]
      exact ⟨_, rfl, γ.1, γ.2, fun _ _ _ h => h, rfl, hp⟩
    · refine ⟨rfl, .inr ⟨by decide, 0, 2, by decide +kernel, by decide +kernel, fun p γ a wx _ hph hp hk => ?_⟩⟩
      have h1 := hk.1 3 _ rfl (by decide +kernel)
      simp [go_sem, Oper.wp, execOp, Act.eval, h1]
      exact ⟨_, rfl, γ.1, γ.2, fun _ _ _ h => h, rfl, hp⟩
    · refine ⟨rfl, .inr ⟨by decide, 0, 2, by decide +kernel, by decide +kernel, fun p γ a wx _ hph hp hk => ?_⟩⟩
      obtain ⟨u1, hu1, ru1⟩ := hk.2.1 2 _ 14 rfl rfl (by decide +kernel)
      replace ru1 : u1 = _ := ru1
      subst ru1
      have hbx : RBox w wx #[.int .i64 rev, .slice aj nj cj, .slice an nn cn, .slice al nl cl] := rupBox hp
      have hc : wx.cell? ⟨w.heap.size, 3, none⟩ = some (.slice al nl cl) := hbx.cell 3
      simp [go_sem, Oper.wp, execOp, Act.eval, hu1, hc]
      exact ⟨_, rfl, γ.1, γ.2, fun _ _ _ h => h, rfl, hp⟩
    · refine ⟨rfl, .inl ⟨0, rfl, fun γ a wx hp hk => ?_⟩⟩
      obtain ⟨u1, hu1, ru1⟩ := hk.2.1 3 _ 15 rfl rfl (by decide +kernel)
      replace ru1 : u1 = _ := ru1
      subst ru1
      simp [go_sem, Oper.wp, execOp, Act.eval, hu1]
      obtain ⟨h0, hp⟩ := hp
      refine (copy_lease leases al nl cl wx (HS.out.l.below hp.below |>.more hp.below.size) HS.out.ll (by omega)).mono ?_
      rintro e w' ⟨A', c', rfl, ho, hb⟩
      rw [HS.out.ll] at ho ⊢
      dsimp only at ho ⊢
      have hk' := hp.kept hb
      exact ⟨_, rfl, some (A', c'), γ.2, rupV_4 h0 _, ⟨(A', c'), rfl, rfl⟩, (A', c'), rfl, ⟨hk'.below, hk'.box, hk'.res, hk'.new, fun _ => ownT_base ho (by have := hp.res.lt; omega)⟩⟩
    · refine ⟨rfl, .inr ⟨by decide, 0, 2, by decide +kernel, by decide +kernel, fun p γ a wx _ hph hp hk => ?_⟩⟩
      obtain ⟨u1, hu1, ru1⟩ := hk.2.1 1 _ 13 rfl rfl (by decide +kernel)
      replace ru1 : u1 = _ := ru1
      subst ru1
      obtain ⟨u2, hu2, ru2⟩ := hk.2.1 4 _ 16 rfl rfl (by decide +kernel)
      obtain ⟨y, ey, ru2⟩ := (show ∃ _, _ from ru2)
      subst ru2
      simp [go_sem, Oper.wp, execOp, Act.eval, hu1, hu2]
      exact ⟨_, rfl, γ.1, γ.2, fun _ _ _ h => h, ⟨y, ey, rfl⟩, hp⟩
    · refine ⟨rfl, .inr ⟨by decide, 0, 1, by decide +kernel, by decide +kernel, fun p γ a wx _ hph hp hk => ?_⟩⟩
      simp [go_sem, Oper.wp, execOp, Act.eval, ]
      exact ⟨_, rfl, γ.1, some wx.heap.size, rupV_6 _, ⟨_, rfl, rfl⟩, rupAlloc hph hp⟩
    · refine ⟨rfl, .inl ⟨1, rfl, fun γ a wx hp hk => ?_⟩⟩
      obtain ⟨u1, hu1, ru1⟩ := hk.2.1 6 _ 7 rfl rfl (by decide +kernel)
      obtain ⟨D, eD, ru1⟩ := (show ∃ _, _ from ru1)
      subst ru1
      obtain ⟨u2, hu2, ru2⟩ := hk.2.1 5 _ 17 rfl rfl (by decide +kernel)
      obtain ⟨y, ey, ru2⟩ := (show ∃ _, _ from ru2)
      subst ru2
      obtain ⟨y', ey', hp⟩ := hp
      rw [ey] at ey'
      injection ey' with ey'
      subst ey'
      obtain ⟨hD, hB⟩ := hp.new D eD
      have hB : Blk wx D 26 #[.int .i64 0, .slice none 0 0, .slice none 0 0, .slice none 0 0] := hB
      have z0 : wx.frozen? ⟨D, 0, none⟩ = false := hB.thaw 0
      have c0 : wx.cell? ⟨D, 0, none⟩ = some (.int .i64 0) := hB.cell 0
      have z1 : wx.frozen? ⟨D, 1, none⟩ = false := hB.thaw 1
      have c1 : wx.cell? ⟨D, 1, none⟩ = some (.slice none 0 0) := hB.cell 1
      have z2 : wx.frozen? ⟨D, 2, none⟩ = false := hB.thaw 2
      have c2 : wx.cell? ⟨D, 2, none⟩ = some (.slice none 0 0) := hB.cell 2
      have z3 : wx.frozen? ⟨D, 3, none⟩ = false := hB.thaw 3
      have c3 : wx.cell? ⟨D, 3, none⟩ = some (.slice none 0 0) := hB.cell 3
      have hbl := hB.lt
      have hrl := hp.res.lt
      have hG := bes_set (bes_set (bes_set (bes_set (grow_refl wx D) 0 (.int .i64 rev)) 1 (.slice none 0 0)) 2 (.slice none 0 0)) 3 (.slice y.1 nl y.2)
      have hnew : Blk _ D 26 #[.int .i64 rev, .slice none 0 0, .slice none 0 0, .slice y.1 nl y.2] := Blk.eq ((((hB.set 0 (.int .i64 rev)).set 1 (.slice none 0 0)).set 2 (.slice none 0 0)).set 3 (.slice y.1 nl y.2)) rfl
      have hfin := (show rupPh w ⟨rev, jobs, nodes, leases⟩ ⟨aj, nj, cj, an, nn, cn, al, nl, cl⟩ 2 γ _ from ⟨y, D, ey, eD, ⟨grow_keep hp.below hG (by omega), grow_blk hG hp.box (by omega), grow_blk hG hp.res (by omega), fun D' hD' => by
        rw [eD] at hD'; injection hD' with hD'; subst hD'; exact ⟨hD, hnew⟩, fun _ => own_setOther (own_setOther (own_setOther (own_setOther (hp.l (by omega)) hB (by decide)) (hB.set 0 _) (by decide)) ((hB.set 0 _).set 1 _) (by decide)) (((hB.set 0 _).set 1 _).set 2 _) (by decide)⟩⟩)
      clear hnew hG hp hB
      simp [go_sem, Oper.wp, execOp, Act.eval, hu1, hu2, c0, c1, c2, c3, z0, z1, z2, z3]
      exact ⟨.int .i64 0, γ.1, γ.2, fun _ _ _ h => h, trivial, hfin⟩
  intro γ act wx hd
  obtain ⟨y, D, ey, eD, hp⟩ := (show ∃ y D, _ from hd.ph)
  obtain ⟨fv, rfl, hfv⟩ := hd.frame [12, 13, 14, 15, 16, 17, 7] rfl
  obtain ⟨D', eD', h7⟩ := (show ∃ D, _ from hfv 6 _ 7 rfl rfl)
  rw [eD] at eD'
  injection eD' with eD'
  subst eD'
  obtain ⟨hD, hB⟩ := hp.new D eD
  have hB : Blk wx D 26 #[.int .i64 rev, .slice none 0 0, .slice none 0 0, .slice y.1 nl y.2] := hB
  have HL0 := (show RupL w wx D #[.int .i64 rev, .slice none 0 0, .slice none 0 0, .slice y.1 nl y.2] ⟨rev, jobs, nodes, leases⟩ ⟨aj, nj, cj, an, nn, cn, al, nl, cl⟩ y wx from ⟨hp.below, hp.box, hp.res, hB, hp.l (by omega), Nat.le_refl _, hD, hB.lt⟩)
  have hrs := hp.res.lt
  clear hd hp hB H0 hfv ey eD
  have hDl := HL0.new.lt
  have HL1 := HL0
  clear HL0
  have Hl1 := Lib.hid HL1
  have hbW : w.heap.size + 2 ≤ wx.heap.size := by have := HL1.at_; omega
  have hDW : D < wx.heap.size := HL1.at_.2
  have H7 := h7
  have yb1 : wx.cell? ⟨w.heap.size, 1, none⟩ = some (.slice aj nj cj) := HL1.box.cell 1
  clear HL1
  simp [Exit.then, h7]
  go_wp2
  go_loopw [28] (fun i wr => ∃ (k : Nat) (A : Option Addr) (c : Nat), k ≤ nj ∧ i = .int .i64 k ∧ RupL w wx D #[.int .i64 rev, .slice A k c, .slice none 0 0, .slice y.1 nl y.2] ⟨rev, jobs, nodes, leases⟩ ⟨aj, nj, cj, an, nn, cn, al, nl, cl⟩ y wr ∧ wr.ownsRow wx.heap.size 49 5 (.slice A k c) k (rowsV jobV (jobs.take k))) (fun i _ => nj - (intOf i).toNat)
  case atStart => exact ⟨0, none, 0, Nat.zero_le _, rfl, Hl1.out, World.ownsRow_nil _ _ _ _⟩
  case round =>
    clear Hl1 yb1
    obtain ⟨k, A, c, hk, rfl, hL, ho⟩ := hrel
    have HL := Lib.hid hL
    have Ho := Lib.hid ho
    have hDr := hL.new.lt
    have hsr := hL.size
    have hbr := hL.below.size
    have HoLt := Lib.hid ho.lt
    have y1 : wr.cell? ⟨D, 1, none⟩ = some (.slice A k c) := hL.new.cell 1
    by_cases hlt : k < nj
    · obtain ⟨r, hf⟩ : ∃ r, jobs[k]? = some r := ⟨_, List.getElem?_eq_getElem (by have := HS.out.lj; dsimp only at this; omega)⟩
      obtain ⟨b, off, hao, hbB, hc⟩ := (HS.out.j.below hL.below).rec_ jobV_len HS.out.lj hf
      dsimp only at hao
      subst hao
      have Hf := Lib.hid hf
      obtain ⟨name, prio, need, tries, tag⟩ := r
      have c0 : wr.cell? ⟨b, off + k * 5, none⟩ = some (.string name) := hc 0 _ rfl
      have c1 : wr.cell? ⟨b, off + k * 5 + 1, none⟩ = some (.int .i64 prio) := hc 1 _ rfl
      have c2 : wr.cell? ⟨b, off + k * 5 + 2, none⟩ = some (.int .i64 need) := hc 2 _ rfl
      have c3 : wr.cell? ⟨b, off + k * 5 + 3, none⟩ = some (.int .i64 tries) := hc 3 _ rfl
      have c4 : wr.cell? ⟨b, off + k * 5 + 4, none⟩ = some (.string tag) := hc 4 _ rfl
      have hlb : b < wr.heap.size := by omega
      have hA : Below wr.heap.size wr (wr.alloc (.cells #[.string name, .int .i64 prio, .int .i64 need, .int .i64 tries, .string tag] 49)) := (Below.refl _ _).alloc (Nat.le_refl _) _
      have HJ := Lib.hid (show Blk (wr.alloc (.cells #[.string name, .int .i64 prio, .int .i64 need, .int .i64 tries, .string tag] 49)) wr.heap.size 49 #[.string name, .int .i64 prio, .int .i64 need, .int .i64 tries, .string tag] from heap_alloc_new wr _)
      have hsA : (wr.alloc (.cells #[.string name, .int .i64 prio, .int .i64 need, .int .i64 tries, .string tag] 49)).heap.size = wr.heap.size + 1 := by simp
      have HL2 := Lib.hid (hL.kept hA)
      have HO2 := Lib.hid (ownU_below ho hA)
      clear hc hf hA hL ho HJ
      have hbrW : wx.heap.size ≤ (wr.alloc (.cells #[.string name, .int .i64 prio, .int .i64 need, .int .i64 tries, .string tag] 49)).heap.size := by omega
      go_wp2_with (at_builtin; refine push_rec jobV rfl _ _ 22 49 (.agg #[.string ⟨#[]⟩, .int .i64 0, .int .i64 0, .int .i64 0, .string ⟨#[]⟩]) 5 56 rfl Tryd.underlying22 infoJobT rfl (by decide) jobV_len jobV_oneT wx.heap.size _ _ _ _ rfl HO2.out _ ⟨name, prio, need, tries, tag⟩ rfl _ (by simp) rfl (by omega) (by unfold maxLen; omega) hbrW ?_; intro A2 c2 w4 ho4 hg4; have HL4 := HL2.out.grew hg4 HO2.out (by decide) hbW; have d1 : w4.cell? ⟨D, 1, none⟩ = some (.slice A k c) := HL4.new.cell 1; have z1 : w4.frozen? ⟨D, 1, none⟩ = false := HL4.new.thaw 1; have hd4 := HL4.new.lt)
      go_roundw
      case rel => exact ⟨k + 1, A2, c2, by omega, by go_num, HL4.set rfl, by rw [id_take_succ Hf.out]; exact own_setOther ho4 HL4.new (by decide)⟩
      case measure => simp [intOf]; omega
    · obtain rfl : nj = k := by omega
      have htk : jobs.take nj = jobs := List.take_of_length_le (by have := HS.out.lj; dsimp only at this; omega)
      rw [htk] at ho
      have HOJ := Lib.hid ho
      have Hl2 := Lib.hid hL
      have yb2 : wr.cell? ⟨w.heap.size, 2, none⟩ = some (.slice an nn cn) := hL.box.cell 2
      clear hL ho htk Ho HoLt HL y1
      go_wp2
      go_loopw [56] (fun i wr => ∃ (q : Nat) (AN : Option Addr) (cN : Nat), q ≤ nn ∧ i = .int .i64 q ∧ RupL w wx D #[.int .i64 rev, .slice A nj c, .slice AN q cN, .slice y.1 nl y.2] ⟨rev, jobs, nodes, leases⟩ ⟨aj, nj, cj, an, nn, cn, al, nl, cl⟩ y wr ∧ wr.ownsRow wx.heap.size 49 5 (.slice A nj c) nj (rowsV jobV (jobs)) ∧ wr.ownsRow wx.heap.size 54 3 (.slice AN q cN) q (rowsV nodeV (nodes.take q))) (fun i _ => nn - (intOf i).toNat)
      case atStart => exact ⟨0, none, 0, Nat.zero_le _, rfl, Hl2.out, HOJ.out, World.ownsRow_nil _ _ _ _⟩
      case round =>
        clear Hl2 HOJ yb2 hDr hsr hbr
        obtain ⟨q, AN, cN, hq, rfl, hL, hoJ, ho⟩ := hrel
        have HL := Lib.hid hL
        have HOJ := Lib.hid hoJ
        have hDr := hL.new.lt
        have hsr := hL.size
        have hbr := hL.below.size
        have y2 : wr.cell? ⟨D, 2, none⟩ = some (.slice AN q cN) := hL.new.cell 2
        by_cases hltq : q < nn
        · obtain ⟨r, hf⟩ : ∃ r, nodes[q]? = some r := ⟨_, List.getElem?_eq_getElem (by have := HS.out.ln; dsimp only at this; omega)⟩
          obtain ⟨b, off, hao, hbB, hc⟩ := (HS.out.n.below hL.below).rec_ nodeV_len HS.out.ln hf
          dsimp only at hao
          subst hao
          have Hf := Lib.hid hf
          obtain ⟨name, room, zone⟩ := r
          have c0 : wr.cell? ⟨b, off + q * 3, none⟩ = some (.string name) := hc 0 _ rfl
          have c1 : wr.cell? ⟨b, off + q * 3 + 1, none⟩ = some (.int .i64 room) := hc 1 _ rfl
          have c2 : wr.cell? ⟨b, off + q * 3 + 2, none⟩ = some (.string zone) := hc 2 _ rfl
          have hlb : b < wr.heap.size := by omega
          have hA : Below wr.heap.size wr (wr.alloc (.cells #[.string name, .int .i64 room, .string zone] 54)) := (Below.refl _ _).alloc (Nat.le_refl _) _
          have hsA : (wr.alloc (.cells #[.string name, .int .i64 room, .string zone] 54)).heap.size = wr.heap.size + 1 := by simp
          have HL2 := Lib.hid (hL.kept hA)
          have HO2 := Lib.hid (ownU_below ho hA)
          have HJ2 := Lib.hid (ownU_below hoJ hA)
          have hbrW : wx.heap.size ≤ (wr.alloc (.cells #[.string name, .int .i64 room, .string zone] 54)).heap.size := by omega
          clear hc hf hA hL ho hoJ
          go_wp2_with (at_builtin; refine push_rec nodeV rfl _ _ 23 54 (.agg #[.string ⟨#[]⟩, .int .i64 0, .string ⟨#[]⟩]) 3 40 rfl Tryd.underlying23 infoNodeT rfl (by decide) nodeV_len nodeV_oneT wx.heap.size _ _ _ _ rfl HO2.out _ ⟨name, room, zone⟩ rfl _ (by simp) rfl (by omega) (by unfold maxLen; omega) hbrW ?_; intro A2 c2 w4 ho4 hg4; have HL4 := HL2.out.grew hg4 HO2.out (by decide) hbW; have hJ4 := own_grewOther HJ2.out hg4 HO2.out (by decide); have d1 : w4.cell? ⟨D, 2, none⟩ = some (.slice AN q cN) := HL4.new.cell 2; have z1 : w4.frozen? ⟨D, 2, none⟩ = false := HL4.new.thaw 2; have hd4 := HL4.new.lt)
          go_roundw
          case rel => exact ⟨q + 1, A2, c2, by omega, by go_num, HL4.set rfl, own_setOther hJ4 HL4.new (by decide), by rw [id_take_succ Hf.out]; exact own_setOther ho4 HL4.new (by decide)⟩
          case measure => simp [intOf]; omega
        · obtain rfl : nn = q := by omega
          have htk : nodes.take nn = nodes := List.take_of_length_le (by have := HS.out.ln; dsimp only at this; omega)
          rw [htk] at ho
          have hR := hL.res
          have hrl := hR.lt
          have b0 : wr.cell? ⟨D, 0, none⟩ = some (.int .i64 rev) := hL.new.cell 0
          have b1 : wr.cell? ⟨D, 1, none⟩ = some (.slice A nj c) := hL.new.cell 1
          have b2 : wr.cell? ⟨D, 2, none⟩ = some (.slice AN nn cN) := hL.new.cell 2
          have b3 : wr.cell? ⟨D, 3, none⟩ = some (.slice y.1 nl y.2) := hL.new.cell 3
          have u0 : wr.frozen? ⟨w.heap.size + 1, 0, none⟩ = false := hR.thaw 0
          have s0 : wr.cell? ⟨w.heap.size + 1, 0, none⟩ = some (.int .i64 0) := hR.cell 0
          have u1 : wr.frozen? ⟨w.heap.size + 1, 1, none⟩ = false := hR.thaw 1
          have s1 : wr.cell? ⟨w.heap.size + 1, 1, none⟩ = some (.slice none 0 0) := hR.cell 1
          have u2 : wr.frozen? ⟨w.heap.size + 1, 2, none⟩ = false := hR.thaw 2
          have s2 : wr.cell? ⟨w.heap.size + 1, 2, none⟩ = some (.slice none 0 0) := hR.cell 2
          have u3 : wr.frozen? ⟨w.heap.size + 1, 3, none⟩ = false := hR.thaw 3
          have s3 : wr.cell? ⟨w.heap.size + 1, 3, none⟩ = some (.slice none 0 0) := hR.cell 3
          have hR4 := (Blk.eq ((Blk.eq ((Blk.eq ((Blk.eq (hR.set 0 (.int .i64 rev)) (show _ = #[.int .i64 rev, .slice none 0 0, .slice none 0 0, .slice none 0 0] from rfl)).set 1 (.slice A nj c)) (show _ = #[.int .i64 rev, .slice A nj c, .slice none 0 0, .slice none 0 0] from rfl)).set 2 (.slice AN nn cN)) (show _ = #[.int .i64 rev, .slice A nj c, .slice AN nn cN, .slice none 0 0] from rfl)).set 3 (.slice y.1 nl y.2)) (show _ = #[.int .i64 rev, .slice A nj c, .slice AN nn cN, .slice y.1 nl y.2] from rfl))
          have q0 := (show _ = (some (.int .i64 rev) : Option Value) from hR4.cell 0)
          have q1 := (show _ = (some (.slice A nj c) : Option Value) from hR4.cell 1)
          have q2 := (show _ = (some (.slice AN nn cN) : Option Value) from hR4.cell 2)
          have q3 := (show _ = (some (.slice y.1 nl y.2) : Option Value) from hR4.cell 3)
          have hG4 := (bes_set (bes_set (bes_set (bes_set (grow_refl wr (w.heap.size + 1)) 0 (.int .i64 rev)) 1 (.slice A nj c)) 2 (.slice AN nn cN)) 3 (.slice y.1 nl y.2))
          have hne := hL.at_
          have hsame : ∀ (i : Nat) (u : Value) (W : World) (g : Nat), True := fun _ _ _ _ => trivial
          have Hend := Lib.hid (show StepsPost (upSt ⟨rev, jobs, nodes, leases⟩ 3 3) ⟨aj, nj, cj, an, nn, cn, al, nl, cl⟩ w (.returned (.agg #[.int .i64 rev, .slice A nj c, .slice AN nn cN, .slice y.1 nl y.2])) _ from by
            rw [Hup.out]
            exact ⟨⟨A, nj, c, AN, nn, cN, y.1, nl, y.2⟩, rfl, rfl, rfl, rfl, ⟨ownT_base (ownT_grow hoJ hG4 (by omega)) (by omega), ownT_base (ownT_grow ho hG4 (by omega)) (by omega), ownT_base (ownT_grow hL.l hG4 (by omega)) (by omega), by have := HS.out.lj; dsimp only at this ⊢; exact this, by have := HS.out.ln; dsimp only at this ⊢; exact this, HS.out.ll⟩, grow_keep hL.below hG4 (by omega)⟩)
          clear hL hR hR4 hG4 ho hoJ HL HOJ htk hsame
          go_wp2
          refine bodyPost_ret (v := .agg #[.int .i64 rev, .slice A nj c, .slice AN nn cN, .slice y.1 nl y.2]) (by simp [results, Tryd.results51, go_sem, *]) rfl ?_
          exact Hend.out
end Go.Proofs.YtbbagnfmoecdfaaDoor
