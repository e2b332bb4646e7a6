/- Of the proof of a statement: JFlds. -/
import Derived.Deep.DeepCutAuto
import Derived.Test.YtcodhhabfacnjaaGreatDoorSJObj
import Derived.Test.YtcodhhabfacnjaaGreatDoorSRTab
set_option linter.unusedVariables false
set_option linter.unusedSimpArgs false
/- The fields of a row, laid for the printer. -/
namespace Go.Proofs.YtcodhhabfacnjaaGreatDoor
open Go.RowKit
theorem Blk.solid {w : World} {g : Nat} {t : TypeId} {cs : Array Value} (h : Blk w g t cs) (hne : t ≠ 5) : Solid w g := ⟨_, h, fun c fz e => hne (by injection e)⟩
/-- A row of fields is laid. -/
def JfPost (n : Nat) (cs : Array Value) (w : World) (e : Ending) (w' : World) : Prop :=
  ∃ g, e = .returned (.slice (some ⟨g, 0, none⟩) n n) ∧ w.heap.size ≤ g ∧ Blk w' g 72 cs ∧ Below w.heap.size w w'
def jobFieldsC (b off : Nat) : Array Value := #[.string ⟨#[110, 97, 109, 101]⟩, .pointer none, .pointer (some ⟨b, off, none⟩), .string ⟨#[112, 114, 105, 111]⟩, .pointer (some ⟨b, off + 1, none⟩), .pointer none, .string ⟨#[110, 101, 101, 100]⟩, .pointer (some ⟨b, off + 2, none⟩), .pointer none, .string ⟨#[116, 114, 105, 101, 115]⟩, .pointer (some ⟨b, off + 3, none⟩), .pointer none, .string ⟨#[116, 97, 103]⟩, .pointer none, .pointer (some ⟨b, off + 4, none⟩)]
def jobFieldsV (g0 b off : Nat) : Nat → Value → World → Prop
  | 0, u, _ => u = .pointer (some ⟨b, off, none⟩)
  | 1, u, _ => u = .pointer (some ⟨b, off, none⟩)
  | 2, u, _ => u = .pointer (some ⟨b, off, none⟩)
  | 3, u, _ => u = .agg #[.string ⟨#[110, 97, 109, 101]⟩, .pointer none, .pointer (some ⟨b, off, none⟩)]
  | 4, u, _ => u = .pointer (some ⟨b, off, none⟩)
  | 5, u, _ => u = .pointer (some ⟨b, off, none⟩)
  | 6, u, _ => u = .pointer (some ⟨b, off + 1, none⟩)
  | 7, u, _ => u = .agg #[.string ⟨#[112, 114, 105, 111]⟩, .pointer (some ⟨b, off + 1, none⟩), .pointer none]
  | 8, u, _ => u = .pointer (some ⟨b, off, none⟩)
  | 9, u, _ => u = .pointer (some ⟨b, off, none⟩)
  | 10, u, _ => u = .pointer (some ⟨b, off + 2, none⟩)
  | 11, u, _ => u = .agg #[.string ⟨#[110, 101, 101, 100]⟩, .pointer (some ⟨b, off + 2, none⟩), .pointer none]
  | 12, u, _ => u = .pointer (some ⟨b, off, none⟩)
  | 13, u, _ => u = .pointer (some ⟨b, off, none⟩)
  | 14, u, _ => u = .pointer (some ⟨b, off + 3, none⟩)
  | 15, u, _ => u = .agg #[.string ⟨#[116, 114, 105, 101, 115]⟩, .pointer (some ⟨b, off + 3, none⟩), .pointer none]
  | 16, u, _ => u = .pointer (some ⟨b, off, none⟩)
  | 17, u, _ => u = .pointer (some ⟨b, off, none⟩)
  | 18, u, _ => u = .pointer (some ⟨b, off + 4, none⟩)
  | 19, u, _ => u = .agg #[.string ⟨#[116, 97, 103]⟩, .pointer none, .pointer (some ⟨b, off + 4, none⟩)]
  | 20, u, w => ∃ g, u = .slice (some ⟨g, 0, none⟩) 5 5 ∧ g0 ≤ g ∧ Blk w g 72 (jobFieldsC b off)
  | _, u, w => ∃ g, u = .slice (some ⟨g, 0, none⟩) 5 5 ∧ g0 ≤ g ∧ Blk w g 72 (jobFieldsC b off)
theorem jobFieldsV_stable (g0 b off : Nat) (i : Nat) (u : Value) (w w' : World) (h : jobFieldsV g0 b off i u w) (hw : Ext w w') : jobFieldsV g0 b off i u w' := by
  unfold jobFieldsV at *
  split at h
  case h_21 => obtain ⟨g, e, h0, h1⟩ := h; exact ⟨g, e, h0, h1.below hw h1.lt⟩
  case h_22 => obtain ⟨g, e, h0, h1⟩ := h; exact ⟨g, e, h0, h1.below hw h1.lt⟩
  all_goals exact h
set_option maxRecDepth 100000 in
set_option maxHeartbeats 2000000 in
theorem jobFields_any (b off : Nat) (w : World) : Calls Tryz.prog 10 #[.pointer (some ⟨b, off, none⟩)] w (JfPost 5 (jobFieldsC b off) w) := by
  go_enter Tryz.func10, Tryz.ntmps10
  go_wp2
  refine wp_region_table_lit (n := 24) (by kernel_rfl) (jobFieldsV w.heap.size b off) (by decide +kernel) rfl (jobFieldsV_stable _ _ _) ?_ ?_
  · refine ⟨?_, ?_, ?_, ?_, ?_, ?_, ?_, ?_, ?_, ?_, ?_, ?_, ?_, ?_, ?_, ?_, ?_, ?_, ?_, ?_, ?_, ?_, trivial⟩
    all_goals (intro a wx hle hkeep hdep; refine ⟨rfl, ?_⟩)
    · have h1 := hkeep 0 _ rfl (by decide +kernel)
      simp [go_sem, Oper.wp, execOp, Act.eval, h1]
      exact ⟨_, rfl, Below.refl _ _, rfl⟩
    · obtain ⟨u1, h1, r1⟩ := hdep 0 _ 3 rfl rfl (by decide +kernel)
      replace r1 : u1 = _ := r1
      subst r1
      simp [go_sem, Oper.wp, execOp, Act.eval, h1]
      exact ⟨_, rfl, Below.refl _ _, rfl⟩
    · obtain ⟨u1, h1, r1⟩ := hdep 1 _ 4 rfl rfl (by decide +kernel)
      replace r1 : u1 = _ := r1
      subst r1
      simp [go_sem, Oper.wp, execOp, Act.eval, h1]
      exact ⟨_, rfl, Below.refl _ _, rfl⟩
    · obtain ⟨u1, h1, r1⟩ := hdep 2 _ 5 rfl rfl (by decide +kernel)
      replace r1 : u1 = _ := r1
      subst r1
      simp [go_sem, Oper.wp, execOp, Act.eval, h1]
      exact ⟨_, rfl, Below.refl _ _, rfl⟩
    · have h1 := hkeep 0 _ rfl (by decide +kernel)
      simp [go_sem, Oper.wp, execOp, Act.eval, h1]
      exact ⟨_, rfl, Below.refl _ _, rfl⟩
    · obtain ⟨u1, h1, r1⟩ := hdep 4 _ 7 rfl rfl (by decide +kernel)
      replace r1 : u1 = _ := r1
      subst r1
      simp [go_sem, Oper.wp, execOp, Act.eval, h1]
      exact ⟨_, rfl, Below.refl _ _, rfl⟩
    · obtain ⟨u1, h1, r1⟩ := hdep 5 _ 8 rfl rfl (by decide +kernel)
      replace r1 : u1 = _ := r1
      subst r1
      simp [go_sem, Oper.wp, execOp, Act.eval, h1]
      exact ⟨_, rfl, Below.refl _ _, rfl⟩
    · obtain ⟨u1, h1, r1⟩ := hdep 6 _ 9 rfl rfl (by decide +kernel)
      replace r1 : u1 = _ := r1
      subst r1
      simp [go_sem, Oper.wp, execOp, Act.eval, h1]
      exact ⟨_, rfl, Below.refl _ _, rfl⟩
    · have h1 := hkeep 0 _ rfl (by decide +kernel)
      simp [go_sem, Oper.wp, execOp, Act.eval, h1]
      exact ⟨_, rfl, Below.refl _ _, rfl⟩
    · obtain ⟨u1, h1, r1⟩ := hdep 8 _ 11 rfl rfl (by decide +kernel)
      replace r1 : u1 = _ := r1
      subst r1
      simp [go_sem, Oper.wp, execOp, Act.eval, h1]
      exact ⟨_, rfl, Below.refl _ _, rfl⟩
    · obtain ⟨u1, h1, r1⟩ := hdep 9 _ 12 rfl rfl (by decide +kernel)
      replace r1 : u1 = _ := r1
      subst r1
      simp [go_sem, Oper.wp, execOp, Act.eval, h1]
      exact ⟨_, rfl, Below.refl _ _, rfl⟩
    · obtain ⟨u1, h1, r1⟩ := hdep 10 _ 13 rfl rfl (by decide +kernel)
      replace r1 : u1 = _ := r1
      subst r1
      simp [go_sem, Oper.wp, execOp, Act.eval, h1]
      exact ⟨_, rfl, Below.refl _ _, rfl⟩
    · have h1 := hkeep 0 _ rfl (by decide +kernel)
      simp [go_sem, Oper.wp, execOp, Act.eval, h1]
      exact ⟨_, rfl, Below.refl _ _, rfl⟩
    · obtain ⟨u1, h1, r1⟩ := hdep 12 _ 15 rfl rfl (by decide +kernel)
      replace r1 : u1 = _ := r1
      subst r1
      simp [go_sem, Oper.wp, execOp, Act.eval, h1]
      exact ⟨_, rfl, Below.refl _ _, rfl⟩
    · obtain ⟨u1, h1, r1⟩ := hdep 13 _ 16 rfl rfl (by decide +kernel)
      replace r1 : u1 = _ := r1
      subst r1
      simp [go_sem, Oper.wp, execOp, Act.eval, h1]
      exact ⟨_, rfl, Below.refl _ _, rfl⟩
    · obtain ⟨u1, h1, r1⟩ := hdep 14 _ 17 rfl rfl (by decide +kernel)
      replace r1 : u1 = _ := r1
      subst r1
      simp [go_sem, Oper.wp, execOp, Act.eval, h1]
      exact ⟨_, rfl, Below.refl _ _, rfl⟩
    · have h1 := hkeep 0 _ rfl (by decide +kernel)
      simp [go_sem, Oper.wp, execOp, Act.eval, h1]
      exact ⟨_, rfl, Below.refl _ _, rfl⟩
    · obtain ⟨u1, h1, r1⟩ := hdep 16 _ 19 rfl rfl (by decide +kernel)
      replace r1 : u1 = _ := r1
      subst r1
      simp [go_sem, Oper.wp, execOp, Act.eval, h1]
      exact ⟨_, rfl, Below.refl _ _, rfl⟩
    · obtain ⟨u1, h1, r1⟩ := hdep 17 _ 20 rfl rfl (by decide +kernel)
      replace r1 : u1 = _ := r1
      subst r1
      simp [go_sem, Oper.wp, execOp, Act.eval, h1]
      exact ⟨_, rfl, Below.refl _ _, rfl⟩
    · obtain ⟨u1, h1, r1⟩ := hdep 18 _ 21 rfl rfl (by decide +kernel)
      replace r1 : u1 = _ := r1
      subst r1
      simp [go_sem, Oper.wp, execOp, Act.eval, h1]
      exact ⟨_, rfl, Below.refl _ _, rfl⟩
    · obtain ⟨u1, h1, r1⟩ := hdep 3 _ 6 rfl rfl (by decide +kernel)
      replace r1 : u1 = _ := r1
      subst r1
      obtain ⟨u2, h2, r2⟩ := hdep 7 _ 10 rfl rfl (by decide +kernel)
      replace r2 : u2 = _ := r2
      subst r2
      obtain ⟨u3, h3, r3⟩ := hdep 11 _ 14 rfl rfl (by decide +kernel)
      replace r3 : u3 = _ := r3
      subst r3
      obtain ⟨u4, h4, r4⟩ := hdep 15 _ 18 rfl rfl (by decide +kernel)
      replace r4 : u4 = _ := r4
      subst r4
      obtain ⟨u5, h5, r5⟩ := hdep 19 _ 22 rfl rfl (by decide +kernel)
      replace r5 : u5 = _ := r5
      subst r5
      simp [go_sem, Oper.wp, execOp, Act.eval, h1, h2, h3, h4, h5]
      exact ⟨_, rfl, (Below.refl _ _).alloc (Nat.le_refl _) _, wx.heap.size, rfl, hle.size, heap_alloc_new _ _⟩
    · obtain ⟨u1, h1, g1, rfl, hg1, hB1⟩ := hdep 20 _ 23 rfl rfl (by decide +kernel)
      simp [go_sem, Oper.wp, execOp, Act.eval, h1]
      exact ⟨_, rfl, Below.refl _ _, g1, rfl, hg1, hB1⟩
  · intro a wx hd
    obtain ⟨f, hfe, hf⟩ := hd.frame' [3, 4, 5, 6, 7, 8, 9, 10, 11, 12, 13, 14, 15, 16, 17, 18, 19, 20, 21, 22, 23, 2] rfl
    obtain ⟨g, hg0, hg1, hg2⟩ := hf 21 _ 2 rfl rfl
    have Hg := Lib.hid hg2
    have hle := hd.le
    clear hd hf hg2
    subst hfe
    simp only [List.foldl_cons, List.foldl_nil, List.setIfInBounds_toArray, List.set_cons_succ, List.set_cons_zero, hg0]
    clear hg0
    go_wp2
    go_ret
    exact ⟨g, rfl, hg1, Hg.out, hle⟩
theorem jobFields_at {B b off g : Nat} {w : World} {x : JobD} (h : Blk w g 72 (jobFieldsC b off)) (hb : b < B) (hx : RowAt w b off (jobV x)) : FldAt B w g 0 (jobFs x) := by
  refine ⟨h.solid (by decide), fun k nm v hk => ?_⟩
  match k, hk with
  | 0, hk =>
    injection hk with hk
    injection hk with e1 e2
    subst e1; subst e2
    exact ⟨_, _, h.cell 0, h.cell 1, h.cell 2, rfl, b, off, rfl, hb, hx 0 _ rfl⟩
  | 1, hk =>
    injection hk with hk
    injection hk with e1 e2
    subst e1; subst e2
    exact ⟨_, _, h.cell 3, h.cell 4, h.cell 5, rfl, b, off + 1, rfl, hb, hx 1 _ rfl⟩
  | 2, hk =>
    injection hk with hk
    injection hk with e1 e2
    subst e1; subst e2
    exact ⟨_, _, h.cell 6, h.cell 7, h.cell 8, rfl, b, off + 2, rfl, hb, hx 2 _ rfl⟩
  | 3, hk =>
    injection hk with hk
    injection hk with e1 e2
    subst e1; subst e2
    exact ⟨_, _, h.cell 9, h.cell 10, h.cell 11, rfl, b, off + 3, rfl, hb, hx 3 _ rfl⟩
  | 4, hk =>
    injection hk with hk
    injection hk with e1 e2
    subst e1; subst e2
    exact ⟨_, _, h.cell 12, h.cell 13, h.cell 14, rfl, b, off + 4, rfl, hb, hx 4 _ rfl⟩
  | k + 5, hk => simp [jobFs] at hk
def nodeFieldsC (b off : Nat) : Array Value := #[.string ⟨#[110, 97, 109, 101]⟩, .pointer none, .pointer (some ⟨b, off, none⟩), .string ⟨#[114, 111, 111, 109]⟩, .pointer (some ⟨b, off + 1, none⟩), .pointer none, .string ⟨#[122, 111, 110, 101]⟩, .pointer none, .pointer (some ⟨b, off + 2, none⟩)]
def nodeFieldsV (g0 b off : Nat) : Nat → Value → World → Prop
  | 0, u, _ => u = .pointer (some ⟨b, off, none⟩)
  | 1, u, _ => u = .pointer (some ⟨b, off, none⟩)
  | 2, u, _ => u = .pointer (some ⟨b, off, none⟩)
  | 3, u, _ => u = .agg #[.string ⟨#[110, 97, 109, 101]⟩, .pointer none, .pointer (some ⟨b, off, none⟩)]
  | 4, u, _ => u = .pointer (some ⟨b, off, none⟩)
  | 5, u, _ => u = .pointer (some ⟨b, off, none⟩)
  | 6, u, _ => u = .pointer (some ⟨b, off + 1, none⟩)
  | 7, u, _ => u = .agg #[.string ⟨#[114, 111, 111, 109]⟩, .pointer (some ⟨b, off + 1, none⟩), .pointer none]
  | 8, u, _ => u = .pointer (some ⟨b, off, none⟩)
  | 9, u, _ => u = .pointer (some ⟨b, off, none⟩)
  | 10, u, _ => u = .pointer (some ⟨b, off + 2, none⟩)
  | 11, u, _ => u = .agg #[.string ⟨#[122, 111, 110, 101]⟩, .pointer none, .pointer (some ⟨b, off + 2, none⟩)]
  | 12, u, w => ∃ g, u = .slice (some ⟨g, 0, none⟩) 3 3 ∧ g0 ≤ g ∧ Blk w g 72 (nodeFieldsC b off)
  | _, u, w => ∃ g, u = .slice (some ⟨g, 0, none⟩) 3 3 ∧ g0 ≤ g ∧ Blk w g 72 (nodeFieldsC b off)
theorem nodeFieldsV_stable (g0 b off : Nat) (i : Nat) (u : Value) (w w' : World) (h : nodeFieldsV g0 b off i u w) (hw : Ext w w') : nodeFieldsV g0 b off i u w' := by
  unfold nodeFieldsV at *
  split at h
  case h_13 => obtain ⟨g, e, h0, h1⟩ := h; exact ⟨g, e, h0, h1.below hw h1.lt⟩
  case h_14 => obtain ⟨g, e, h0, h1⟩ := h; exact ⟨g, e, h0, h1.below hw h1.lt⟩
  all_goals exact h
set_option maxRecDepth 100000 in
set_option maxHeartbeats 2000000 in
theorem nodeFields_any (b off : Nat) (w : World) : Calls Tryz.prog 12 #[.pointer (some ⟨b, off, none⟩)] w (JfPost 3 (nodeFieldsC b off) w) := by
  go_enter Tryz.func12, Tryz.ntmps12
  go_wp2
  refine wp_region_table_lit (n := 16) (by kernel_rfl) (nodeFieldsV w.heap.size b off) (by decide +kernel) rfl (nodeFieldsV_stable _ _ _) ?_ ?_
  · refine ⟨?_, ?_, ?_, ?_, ?_, ?_, ?_, ?_, ?_, ?_, ?_, ?_, ?_, ?_, trivial⟩
    all_goals (intro a wx hle hkeep hdep; refine ⟨rfl, ?_⟩)
    · have h1 := hkeep 0 _ rfl (by decide +kernel)
      simp [go_sem, Oper.wp, execOp, Act.eval, h1]
      exact ⟨_, rfl, Below.refl _ _, rfl⟩
    · obtain ⟨u1, h1, r1⟩ := hdep 0 _ 3 rfl rfl (by decide +kernel)
      replace r1 : u1 = _ := r1
      subst r1
      simp [go_sem, Oper.wp, execOp, Act.eval, h1]
      exact ⟨_, rfl, Below.refl _ _, rfl⟩
    · obtain ⟨u1, h1, r1⟩ := hdep 1 _ 4 rfl rfl (by decide +kernel)
      replace r1 : u1 = _ := r1
      subst r1
      simp [go_sem, Oper.wp, execOp, Act.eval, h1]
      exact ⟨_, rfl, Below.refl _ _, rfl⟩
    · obtain ⟨u1, h1, r1⟩ := hdep 2 _ 5 rfl rfl (by decide +kernel)
      replace r1 : u1 = _ := r1
      subst r1
      simp [go_sem, Oper.wp, execOp, Act.eval, h1]
      exact ⟨_, rfl, Below.refl _ _, rfl⟩
    · have h1 := hkeep 0 _ rfl (by decide +kernel)
      simp [go_sem, Oper.wp, execOp, Act.eval, h1]
      exact ⟨_, rfl, Below.refl _ _, rfl⟩
    · obtain ⟨u1, h1, r1⟩ := hdep 4 _ 7 rfl rfl (by decide +kernel)
      replace r1 : u1 = _ := r1
      subst r1
      simp [go_sem, Oper.wp, execOp, Act.eval, h1]
      exact ⟨_, rfl, Below.refl _ _, rfl⟩
    · obtain ⟨u1, h1, r1⟩ := hdep 5 _ 8 rfl rfl (by decide +kernel)
      replace r1 : u1 = _ := r1
      subst r1
      simp [go_sem, Oper.wp, execOp, Act.eval, h1]
      exact ⟨_, rfl, Below.refl _ _, rfl⟩
    · obtain ⟨u1, h1, r1⟩ := hdep 6 _ 9 rfl rfl (by decide +kernel)
      replace r1 : u1 = _ := r1
      subst r1
      simp [go_sem, Oper.wp, execOp, Act.eval, h1]
      exact ⟨_, rfl, Below.refl _ _, rfl⟩
    · have h1 := hkeep 0 _ rfl (by decide +kernel)
      simp [go_sem, Oper.wp, execOp, Act.eval, h1]
      exact ⟨_, rfl, Below.refl _ _, rfl⟩
    · obtain ⟨u1, h1, r1⟩ := hdep 8 _ 11 rfl rfl (by decide +kernel)
      replace r1 : u1 = _ := r1
      subst r1
      simp [go_sem, Oper.wp, execOp, Act.eval, h1]
      exact ⟨_, rfl, Below.refl _ _, rfl⟩
    · obtain ⟨u1, h1, r1⟩ := hdep 9 _ 12 rfl rfl (by decide +kernel)
      replace r1 : u1 = _ := r1
      subst r1
      simp [go_sem, Oper.wp, execOp, Act.eval, h1]
      exact ⟨_, rfl, Below.refl _ _, rfl⟩
    · obtain ⟨u1, h1, r1⟩ := hdep 10 _ 13 rfl rfl (by decide +kernel)
      replace r1 : u1 = _ := r1
      subst r1
      simp [go_sem, Oper.wp, execOp, Act.eval, h1]
      exact ⟨_, rfl, Below.refl _ _, rfl⟩
    · obtain ⟨u1, h1, r1⟩ := hdep 3 _ 6 rfl rfl (by decide +kernel)
      replace r1 : u1 = _ := r1
      subst r1
      obtain ⟨u2, h2, r2⟩ := hdep 7 _ 10 rfl rfl (by decide +kernel)
      replace r2 : u2 = _ := r2
      subst r2
      obtain ⟨u3, h3, r3⟩ := hdep 11 _ 14 rfl rfl (by decide +kernel)
      replace r3 : u3 = _ := r3
      subst r3
      simp [go_sem, Oper.wp, execOp, Act.eval, h1, h2, h3]
      exact ⟨_, rfl, (Below.refl _ _).alloc (Nat.le_refl _) _, wx.heap.size, rfl, hle.size, heap_alloc_new _ _⟩
    · obtain ⟨u1, h1, g1, rfl, hg1, hB1⟩ := hdep 12 _ 15 rfl rfl (by decide +kernel)
      simp [go_sem, Oper.wp, execOp, Act.eval, h1]
      exact ⟨_, rfl, Below.refl _ _, g1, rfl, hg1, hB1⟩
  · intro a wx hd
    obtain ⟨f, hfe, hf⟩ := hd.frame' [3, 4, 5, 6, 7, 8, 9, 10, 11, 12, 13, 14, 15, 2] rfl
    obtain ⟨g, hg0, hg1, hg2⟩ := hf 13 _ 2 rfl rfl
    have Hg := Lib.hid hg2
    have hle := hd.le
    clear hd hf hg2
    subst hfe
    simp only [List.foldl_cons, List.foldl_nil, List.setIfInBounds_toArray, List.set_cons_succ, List.set_cons_zero, hg0]
    clear hg0
    go_wp2
    go_ret
    exact ⟨g, rfl, hg1, Hg.out, hle⟩
theorem nodeFields_at {B b off g : Nat} {w : World} {x : NodeD} (h : Blk w g 72 (nodeFieldsC b off)) (hb : b < B) (hx : RowAt w b off (nodeV x)) : FldAt B w g 0 (nodeFs x) := by
  refine ⟨h.solid (by decide), fun k nm v hk => ?_⟩
  match k, hk with
  | 0, hk =>
    injection hk with hk
    injection hk with e1 e2
    subst e1; subst e2
    exact ⟨_, _, h.cell 0, h.cell 1, h.cell 2, rfl, b, off, rfl, hb, hx 0 _ rfl⟩
  | 1, hk =>
    injection hk with hk
    injection hk with e1 e2
    subst e1; subst e2
    exact ⟨_, _, h.cell 3, h.cell 4, h.cell 5, rfl, b, off + 1, rfl, hb, hx 1 _ rfl⟩
  | 2, hk =>
    injection hk with hk
    injection hk with e1 e2
    subst e1; subst e2
    exact ⟨_, _, h.cell 6, h.cell 7, h.cell 8, rfl, b, off + 2, rfl, hb, hx 2 _ rfl⟩
  | k + 3, hk => simp [nodeFs] at hk
def leaseFieldsC (b off : Nat) : Array Value := #[.string ⟨#[106, 111, 98]⟩, .pointer none, .pointer (some ⟨b, off, none⟩), .string ⟨#[110, 111, 100, 101]⟩, .pointer none, .pointer (some ⟨b, off + 1, none⟩), .string ⟨#[117, 110, 116, 105, 108]⟩, .pointer (some ⟨b, off + 2, none⟩), .pointer none]
def leaseFieldsV (g0 b off : Nat) : Nat → Value → World → Prop
  | 0, u, _ => u = .pointer (some ⟨b, off, none⟩)
  | 1, u, _ => u = .pointer (some ⟨b, off, none⟩)
  | 2, u, _ => u = .pointer (some ⟨b, off, none⟩)
  | 3, u, _ => u = .agg #[.string ⟨#[106, 111, 98]⟩, .pointer none, .pointer (some ⟨b, off, none⟩)]
  | 4, u, _ => u = .pointer (some ⟨b, off, none⟩)
  | 5, u, _ => u = .pointer (some ⟨b, off, none⟩)
  | 6, u, _ => u = .pointer (some ⟨b, off + 1, none⟩)
  | 7, u, _ => u = .agg #[.string ⟨#[110, 111, 100, 101]⟩, .pointer none, .pointer (some ⟨b, off + 1, none⟩)]
  | 8, u, _ => u = .pointer (some ⟨b, off, none⟩)
  | 9, u, _ => u = .pointer (some ⟨b, off, none⟩)
  | 10, u, _ => u = .pointer (some ⟨b, off + 2, none⟩)
  | 11, u, _ => u = .agg #[.string ⟨#[117, 110, 116, 105, 108]⟩, .pointer (some ⟨b, off + 2, none⟩), .pointer none]
  | 12, u, w => ∃ g, u = .slice (some ⟨g, 0, none⟩) 3 3 ∧ g0 ≤ g ∧ Blk w g 72 (leaseFieldsC b off)
  | _, u, w => ∃ g, u = .slice (some ⟨g, 0, none⟩) 3 3 ∧ g0 ≤ g ∧ Blk w g 72 (leaseFieldsC b off)
theorem leaseFieldsV_stable (g0 b off : Nat) (i : Nat) (u : Value) (w w' : World) (h : leaseFieldsV g0 b off i u w) (hw : Ext w w') : leaseFieldsV g0 b off i u w' := by
  unfold leaseFieldsV at *
  split at h
  case h_13 => obtain ⟨g, e, h0, h1⟩ := h; exact ⟨g, e, h0, h1.below hw h1.lt⟩
  case h_14 => obtain ⟨g, e, h0, h1⟩ := h; exact ⟨g, e, h0, h1.below hw h1.lt⟩
  all_goals exact h
set_option maxRecDepth 100000 in
set_option maxHeartbeats 2000000 in
theorem leaseFields_any (b off : Nat) (w : World) : Calls Tryz.prog 14 #[.pointer (some ⟨b, off, none⟩)] w (JfPost 3 (leaseFieldsC b off) w) := by
  go_enter Tryz.func14, Tryz.ntmps14
  go_wp2
  refine wp_region_table_lit (n := 16) (by kernel_rfl) (leaseFieldsV w.heap.size b off) (by decide +kernel) rfl (leaseFieldsV_stable _ _ _) ?_ ?_
  · refine ⟨?_, ?_, ?_, ?_, ?_, ?_, ?_, ?_, ?_, ?_, ?_, ?_, ?_, ?_, trivial⟩
    all_goals (intro a wx hle hkeep hdep; refine ⟨rfl, ?_⟩)
    · have h1 := hkeep 0 _ rfl (by decide +kernel)
      simp [go_sem, Oper.wp, execOp, Act.eval, h1]
      exact ⟨_, rfl, Below.refl _ _, rfl⟩
    · obtain ⟨u1, h1, r1⟩ := hdep 0 _ 3 rfl rfl (by decide +kernel)
      replace r1 : u1 = _ := r1
      subst r1
      simp [go_sem, Oper.wp, execOp, Act.eval, h1]
      exact ⟨_, rfl, Below.refl _ _, rfl⟩
    · obtain ⟨u1, h1, r1⟩ := hdep 1 _ 4 rfl rfl (by decide +kernel)
      replace r1 : u1 = _ := r1
      subst r1
      simp [go_sem, Oper.wp, execOp, Act.eval, h1]
      exact ⟨_, rfl, Below.refl _ _, rfl⟩
    · obtain ⟨u1, h1, r1⟩ := hdep 2 _ 5 rfl rfl (by decide +kernel)
      replace r1 : u1 = _ := r1
      subst r1
      simp [go_sem, Oper.wp, execOp, Act.eval, h1]
      exact ⟨_, rfl, Below.refl _ _, rfl⟩
    · have h1 := hkeep 0 _ rfl (by decide +kernel)
      simp [go_sem, Oper.wp, execOp, Act.eval, h1]
      exact ⟨_, rfl, Below.refl _ _, rfl⟩
    · obtain ⟨u1, h1, r1⟩ := hdep 4 _ 7 rfl rfl (by decide +kernel)
      replace r1 : u1 = _ := r1
      subst r1
      simp [go_sem, Oper.wp, execOp, Act.eval, h1]
      exact ⟨_, rfl, Below.refl _ _, rfl⟩
    · obtain ⟨u1, h1, r1⟩ := hdep 5 _ 8 rfl rfl (by decide +kernel)
      replace r1 : u1 = _ := r1
      subst r1
      simp [go_sem, Oper.wp, execOp, Act.eval, h1]
      exact ⟨_, rfl, Below.refl _ _, rfl⟩
    · obtain ⟨u1, h1, r1⟩ := hdep 6 _ 9 rfl rfl (by decide +kernel)
      replace r1 : u1 = _ := r1
      subst r1
      simp [go_sem, Oper.wp, execOp, Act.eval, h1]
      exact ⟨_, rfl, Below.refl _ _, rfl⟩
    · have h1 := hkeep 0 _ rfl (by decide +kernel)
      simp [go_sem, Oper.wp, execOp, Act.eval, h1]
      exact ⟨_, rfl, Below.refl _ _, rfl⟩
    · obtain ⟨u1, h1, r1⟩ := hdep 8 _ 11 rfl rfl (by decide +kernel)
      replace r1 : u1 = _ := r1
      subst r1
      simp [go_sem, Oper.wp, execOp, Act.eval, h1]
      exact ⟨_, rfl, Below.refl _ _, rfl⟩
    · obtain ⟨u1, h1, r1⟩ := hdep 9 _ 12 rfl rfl (by decide +kernel)
      replace r1 : u1 = _ := r1
      subst r1
      simp [go_sem, Oper.wp, execOp, Act.eval, h1]
      exact ⟨_, rfl, Below.refl _ _, rfl⟩
    · obtain ⟨u1, h1, r1⟩ := hdep 10 _ 13 rfl rfl (by decide +kernel)
      replace r1 : u1 = _ := r1
      subst r1
      simp [go_sem, Oper.wp, execOp, Act.eval, h1]
      exact ⟨_, rfl, Below.refl _ _, rfl⟩
    · obtain ⟨u1, h1, r1⟩ := hdep 3 _ 6 rfl rfl (by decide +kernel)
      replace r1 : u1 = _ := r1
      subst r1
      obtain ⟨u2, h2, r2⟩ := hdep 7 _ 10 rfl rfl (by decide +kernel)
      replace r2 : u2 = _ := r2
      subst r2
      obtain ⟨u3, h3, r3⟩ := hdep 11 _ 14 rfl rfl (by decide +kernel)
      replace r3 : u3 = _ := r3
      subst r3
      simp [go_sem, Oper.wp, execOp, Act.eval, h1, h2, h3]
      exact ⟨_, rfl, (Below.refl _ _).alloc (Nat.le_refl _) _, wx.heap.size, rfl, hle.size, heap_alloc_new _ _⟩
    · obtain ⟨u1, h1, g1, rfl, hg1, hB1⟩ := hdep 12 _ 15 rfl rfl (by decide +kernel)
      simp [go_sem, Oper.wp, execOp, Act.eval, h1]
      exact ⟨_, rfl, Below.refl _ _, g1, rfl, hg1, hB1⟩
  · intro a wx hd
    obtain ⟨f, hfe, hf⟩ := hd.frame' [3, 4, 5, 6, 7, 8, 9, 10, 11, 12, 13, 14, 15, 2] rfl
    obtain ⟨g, hg0, hg1, hg2⟩ := hf 13 _ 2 rfl rfl
    have Hg := Lib.hid hg2
    have hle := hd.le
    clear hd hf hg2
    subst hfe
    simp only [List.foldl_cons, List.foldl_nil, List.setIfInBounds_toArray, List.set_cons_succ, List.set_cons_zero, hg0]
    clear hg0
    go_wp2
    go_ret
    exact ⟨g, rfl, hg1, Hg.out, hle⟩
theorem leaseFields_at {B b off g : Nat} {w : World} {x : LeaseD} (h : Blk w g 72 (leaseFieldsC b off)) (hb : b < B) (hx : RowAt w b off (leaseV x)) : FldAt B w g 0 (leaseFs x) := by
  refine ⟨h.solid (by decide), fun k nm v hk => ?_⟩
  match k, hk with
  | 0, hk =>
    injection hk with hk
    injection hk with e1 e2
    subst e1; subst e2
    exact ⟨_, _, h.cell 0, h.cell 1, h.cell 2, rfl, b, off, rfl, hb, hx 0 _ rfl⟩
  | 1, hk =>
    injection hk with hk
    injection hk with e1 e2
    subst e1; subst e2
    exact ⟨_, _, h.cell 3, h.cell 4, h.cell 5, rfl, b, off + 1, rfl, hb, hx 1 _ rfl⟩
  | 2, hk =>
    injection hk with hk
    injection hk with e1 e2
    subst e1; subst e2
    exact ⟨_, _, h.cell 6, h.cell 7, h.cell 8, rfl, b, off + 2, rfl, hb, hx 2 _ rfl⟩
  | k + 3, hk => simp [leaseFs] at hk
end Go.Proofs.YtcodhhabfacnjaaGreatDoor
