/- The walk of frame.Encode. -/
import Derived.Test.YtbbagnfmoecdfaaDoorFrmEnc
import Derived.Test.YtbbagnfmoecdfaaDoorRTab
import Derived.Deep.DeepCutAuto
set_option linter.unusedVariables false
set_option linter.unusedSimpArgs false
namespace Go.Proofs.YtbbagnfmoecdfaaDoor
open Go.RowKit
/-- What each operation of the great statement leaves. -/
def encV (g : Nat) (v k : Int) (p : ByteArray) : Nat → Value → World → Prop
  | 0, u, _ => u = .pointer (some ⟨g, 0, none⟩)
  | 1, u, _ => u = .int .i64 v
  | 2, u, _ => u = .int .u8 v
  | 3, u, _ => u = .pointer (some ⟨g, 1, none⟩)
  | 4, u, _ => u = .int .i64 k
  | 5, u, _ => u = .int .u8 k
  | 6, u, w => ∃ b, u = .slice (some ⟨b, 0, none⟩) 2 2 ∧ w.cell? ⟨b, 0, none⟩ = some (.int .u8 v) ∧ w.cell? ⟨b, 1, none⟩ = some (.int .u8 k)
  | 7, u, _ => u = .string ⟨#[UInt8.ofNat v.toNat, UInt8.ofNat k.toNat]⟩
  | 8, u, _ => u = .string (⟨#[66, 75]⟩ ++ ⟨#[UInt8.ofNat v.toNat, UInt8.ofNat k.toNat]⟩)
  | 9, u, _ => u = .pointer (some ⟨g, 2, none⟩)
  | 10, u, _ => u = .string p
  | 11, u, _ => u = .int .i64 p.size
  | 12, u, _ => u = .int .u64 p.size
  | 13, u, _ => u = .string ⟨(numL p.size).toArray⟩
  | 14, u, _ => u = .string (⟨#[66, 75]⟩ ++ ⟨#[UInt8.ofNat v.toNat, UInt8.ofNat k.toNat]⟩ ++ ⟨(numL p.size).toArray⟩)
  | 15, u, _ => u = .pointer (some ⟨g, 2, none⟩)
  | 16, u, _ => u = .string p
  | _, u, _ => u = .string (⟨#[66, 75]⟩ ++ ⟨#[UInt8.ofNat v.toNat, UInt8.ofNat k.toNat]⟩ ++ ⟨(numL p.size).toArray⟩ ++ p)
theorem cell_ext {w w' : World} {a : Addr} {v : Value} (h : w.cell? a = some v) (hw : Ext w w') : w'.cell? a = some v := (hw.cell (block_lt_of_cell h)).trans h
theorem encV_stable (g : Nat) (v k : Int) (p : ByteArray) (i : Nat) (u : Value) (w w' : World) (h : encV g v k p i u w) (hw : Ext w w') : encV g v k p i u w' := by
  unfold encV at *
  split at h
  case h_7 => obtain ⟨b, e, h0, h1⟩ := h; exact ⟨b, e, cell_ext h0 hw, cell_ext h1 hw⟩
  all_goals exact h
set_option maxRecDepth 100000 in
set_option maxHeartbeats 2000000 in
theorem enc_any (v k : Int) (p : ByteArray) (w : World) :
    Calls Tryd.prog 44 #[.agg #[.int .i64 v, .int .i64 k, .string p]] w (EncPost v k p w) := by
  by_cases hv : v < 1 ∨ 3 < v
  · have Hfin := Lib.hid (fun (w' : World) => EncPost.arg (v := v) (k := k) (p := p) (w := w) (w' := w') (by omega))
    have HV := Lib.hid hv
    clear hv
    go_enter Tryd.func44, Tryd.ntmps44
    go_wp2_with (go_at_call 76; refine (isVersion_no _ HV.out _).mono ?_; rintro e w' ⟨rfl, rfl⟩)
    go_ret2
    exact Hfin.out _ ((Below.refl _ _).alloc (Nat.le_refl _) _)
  have hv1 : 1 ≤ v := by omega
  have hv2 : v ≤ 3 := by omega
  clear hv
  by_cases hk : k < 1 ∨ 4 < k
  · have Hfin := Lib.hid (fun (w' : World) => EncPost.arg (v := v) (k := k) (p := p) (w := w) (w' := w') (by omega))
    have HK := Lib.hid hk
    clear hk
    go_enter Tryd.func44, Tryd.ntmps44
    go_wp2_with (first | (go_at_call 76; refine (isVersion_yes _ hv1 hv2 _).mono ?_; rintro e w' ⟨rfl, rfl⟩) | (go_at_call 77; refine (isKind_no _ HK.out _).mono ?_; rintro e w' ⟨rfl, rfl⟩))
    go_ret2
    exact Hfin.out _ ((Below.refl _ _).alloc (Nat.le_refl _) _)
  have hk1 : 1 ≤ k := by omega
  have hk2 : k ≤ 4 := by omega
  clear hk
  by_cases hp : 6000 < p.size
  · have Hfin := Lib.hid (fun (w' : World) => EncPost.large (v := v) (k := k) (p := p) (w := w) (w' := w') (by omega) hp)
    go_enter Tryd.func44, Tryd.ntmps44
    go_wp2_with (first | (go_at_call 76; refine (isVersion_yes _ hv1 hv2 _).mono ?_; rintro e w' ⟨rfl, rfl⟩) | (go_at_call 77; refine (isKind_yes _ hk1 hk2 _).mono ?_; rintro e w' ⟨rfl, rfl⟩))
    go_ret2
    exact Hfin.out _ ((Below.refl _ _).alloc (Nat.le_refl _) _)
  have hv8 : v = (((UInt8.ofNat v.toNat).toNat : Nat) : Int) := by rw [UInt8.toNat_ofNat']; omega
  have hk8 : k = (((UInt8.ofNat k.toNat).toNat : Nat) : Int) := by rw [UInt8.toNat_ofNat']; omega
  have hconv : ∀ (W : World) (g : Nat), W.cell? ⟨g, 0, none⟩ = some (.int .u8 v) → W.cell? ⟨g, 1, none⟩ = some (.int .u8 k) → (convert 43 9 (.slice (some ⟨g, 0, none⟩) 2 2)).run Tryd.prog W = .ok (.string ⟨#[UInt8.ofNat v.toNat, UInt8.ofNat k.toNat]⟩) W := by
    intro W g h0 h1
    exact conv2 W g (by rw [← hv8]; exact h0) (by rw [← hk8]; exact h1)
  clear hv8 hk8
  have wv : IntKind.u8.wrap v = v := by rw [IntKind.wrap_u8']; omega
  have wk : IntKind.u8.wrap k = k := by rw [IntKind.wrap_u8']; omega
  have wp : IntKind.u64.wrap (p.size : Int) = p.size := by rw [IntKind.wrap_u64]; omega
  have hl := (numL_length p.size).2
  have c1 : ¬ 9223372036854775807 < 4 + (numL p.size).length := by omega
  have c2 : ¬ 9223372036854775807 < 4 + (numL p.size).length + p.size := by omega
  have Hlen := Lib.hid (frmB_len v.toNat k.toNat p.data.toList)
  have Hfin := Lib.hid (fun (s : ByteArray) (w' : World) => EncPost.ok (v := v) (k := k) (p := p) (w := w) (w' := w') (s := s) (by omega) hp)
  clear hl
  go_enter Tryd.func44, Tryd.ntmps44
  go_upto_region 5 with (first | (go_at_call 76; refine (isVersion_yes _ hv1 hv2 _).mono ?_; rintro e w' ⟨rfl, rfl⟩) | (go_at_call 77; refine (isKind_yes _ hk1 hk2 _).mono ?_; rintro e w' ⟨rfl, rfl⟩))
  go_cut [4] (fun s wx => ∃ S : ByteArray, s = .string S ∧ S.data.toList = frmB v.toNat k.toNat p.data.toList ∧ Below w.heap.size w wx)
  case first =>
    generalize hw0 : w.alloc (.cells #[.int .i64 v, .int .i64 k, .string p] 79) = w0
    have hb0 : Below w.heap.size w w0 := by rw [← hw0]; exact (Below.refl _ _).alloc (Nat.le_refl _) _
    have g0 : w0.cell? ⟨w.heap.size, 0, none⟩ = some (.int .i64 v) := by rw [← hw0]; simp [go_sem]
    have g1 : w0.cell? ⟨w.heap.size, 1, none⟩ = some (.int .i64 k) := by rw [← hw0]; simp [go_sem]
    have g2 : w0.cell? ⟨w.heap.size, 2, none⟩ = some (.string p) := by rw [← hw0]; simp [go_sem]
    have hg : w.heap.size < w0.heap.size := by rw [← hw0]; simp
    clear hw0
    refine wp_region_table_lit (n := 43) (by kernel_rfl) (encV w.heap.size v k p) (by decide +kernel) rfl (encV_stable _ _ _ _) ?_ ?_
    · refine ⟨?_, ?_, ?_, ?_, ?_, ?_, ?_, ?_, ?_, ?_, ?_, ?_, ?_, ?_, ?_, ?_, ?_, ?_, ?_, trivial⟩
      all_goals (intro a wx hle hkeep hdep; refine ⟨rfl, ?_⟩)
      · have h1 := hkeep 1 _ rfl (by decide +kernel)
        simp [go_sem, Oper.wp, execOp, Act.eval, h1]
        exact ⟨_, rfl, Below.refl _ _, rfl⟩
      · obtain ⟨u1, h1, r1⟩ := hdep 0 _ 21 rfl rfl (by decide +kernel)
        replace r1 : u1 = _ := r1
        subst r1
        have hc := cell_ext g0 hle
        simp [go_sem, Oper.wp, execOp, Act.eval, h1, hc]
        exact ⟨_, rfl, Below.refl _ _, rfl⟩
      · obtain ⟨u1, h1, r1⟩ := hdep 1 _ 22 rfl rfl (by decide +kernel)
        replace r1 : u1 = _ := r1
        subst r1
        simp [go_sem, Oper.wp, execOp, Act.eval, h1, wv]
        exact ⟨_, rfl, Below.refl _ _, rfl⟩
      · have h1 := hkeep 1 _ rfl (by decide +kernel)
        simp [go_sem, Oper.wp, execOp, Act.eval, h1]
        exact ⟨_, rfl, Below.refl _ _, rfl⟩
      · obtain ⟨u1, h1, r1⟩ := hdep 3 _ 24 rfl rfl (by decide +kernel)
        replace r1 : u1 = _ := r1
        subst r1
        have hc := cell_ext g1 hle
        simp [go_sem, Oper.wp, execOp, Act.eval, h1, hc]
        exact ⟨_, rfl, Below.refl _ _, rfl⟩
      · obtain ⟨u1, h1, r1⟩ := hdep 4 _ 25 rfl rfl (by decide +kernel)
        replace r1 : u1 = _ := r1
        subst r1
        simp [go_sem, Oper.wp, execOp, Act.eval, h1, wk]
        exact ⟨_, rfl, Below.refl _ _, rfl⟩
      · obtain ⟨u1, h1, r1⟩ := hdep 2 _ 23 rfl rfl (by decide +kernel)
        replace r1 : u1 = _ := r1
        subst r1
        obtain ⟨u2, h2, r2⟩ := hdep 5 _ 26 rfl rfl (by decide +kernel)
        replace r2 : u2 = _ := r2
        subst r2
        simp [go_sem, Oper.wp, execOp, Act.eval, h1, h2]
        exact ⟨_, rfl, (Below.refl _ _).alloc (Nat.le_refl _) _, wx.heap.size, rfl, by simp [go_sem], by simp [go_sem]⟩
      · obtain ⟨u1, h1, b, e1, x0, x1⟩ := hdep 6 _ 27 rfl rfl (by decide +kernel)
        subst e1
        have hr := hconv wx b x0 x1
        simp [go_sem, Oper.wp, execOp, Act.eval, h1, hr]
        exact ⟨_, rfl, Below.refl _ _, rfl⟩
      · obtain ⟨u1, h1, r1⟩ := hdep 7 _ 28 rfl rfl (by decide +kernel)
        replace r1 : u1 = _ := r1
        subst r1
        simp [go_sem, Oper.wp, execOp, Act.eval, h1]
        exact ⟨_, rfl, Below.refl _ _, rfl⟩
      · have h1 := hkeep 1 _ rfl (by decide +kernel)
        simp [go_sem, Oper.wp, execOp, Act.eval, h1]
        exact ⟨_, rfl, Below.refl _ _, rfl⟩
      · obtain ⟨u1, h1, r1⟩ := hdep 9 _ 30 rfl rfl (by decide +kernel)
        replace r1 : u1 = _ := r1
        subst r1
        have hc := cell_ext g2 hle
        simp [go_sem, Oper.wp, execOp, Act.eval, h1, hc]
        exact ⟨_, rfl, Below.refl _ _, rfl⟩
      · obtain ⟨u1, h1, r1⟩ := hdep 10 _ 31 rfl rfl (by decide +kernel)
        replace r1 : u1 = _ := r1
        subst r1
        simp [go_sem, Oper.wp, execOp, Act.eval, h1]
        exact ⟨_, rfl, Below.refl _ _, rfl⟩
      · obtain ⟨u1, h1, r1⟩ := hdep 11 _ 32 rfl rfl (by decide +kernel)
        replace r1 : u1 = _ := r1
        subst r1
        simp [go_sem, Oper.wp, execOp, Act.eval, h1, wp]
        exact ⟨_, rfl, Below.refl _ _, rfl⟩
      · obtain ⟨u1, h1, r1⟩ := hdep 12 _ 33 rfl rfl (by decide +kernel)
        replace r1 : u1 = _ := r1
        subst r1
        simp [go_sem, Oper.wp, execOp, Act.eval, h1]
        refine (number_any _ _ (by omega) (by omega)).mono ?_
        rintro e w' ⟨rfl, hb⟩
        exact ⟨_, rfl, hb, rfl⟩
      · obtain ⟨u1, h1, r1⟩ := hdep 8 _ 29 rfl rfl (by decide +kernel)
        replace r1 : u1 = _ := r1
        subst r1
        obtain ⟨u2, h2, r2⟩ := hdep 13 _ 34 rfl rfl (by decide +kernel)
        replace r2 : u2 = _ := r2
        subst r2
        simp [go_sem, Oper.wp, execOp, Act.eval, h1, h2, c1]
        exact ⟨_, rfl, Below.refl _ _, rfl⟩
      · have h1 := hkeep 1 _ rfl (by decide +kernel)
        simp [go_sem, Oper.wp, execOp, Act.eval, h1]
        exact ⟨_, rfl, Below.refl _ _, rfl⟩
      · obtain ⟨u1, h1, r1⟩ := hdep 15 _ 36 rfl rfl (by decide +kernel)
        replace r1 : u1 = _ := r1
        subst r1
        have hc := cell_ext g2 hle
        simp [go_sem, Oper.wp, execOp, Act.eval, h1, hc]
        exact ⟨_, rfl, Below.refl _ _, rfl⟩
      · obtain ⟨u1, h1, r1⟩ := hdep 14 _ 35 rfl rfl (by decide +kernel)
        replace r1 : u1 = _ := r1
        subst r1
        obtain ⟨u2, h2, r2⟩ := hdep 16 _ 37 rfl rfl (by decide +kernel)
        replace r2 : u2 = _ := r2
        subst r2
        simp [go_sem, Oper.wp, execOp, Act.eval, h1, h2, c2]
        exact ⟨_, rfl, Below.refl _ _, rfl⟩
      · obtain ⟨u1, h1, r1⟩ := hdep 17 _ 38 rfl rfl (by decide +kernel)
        replace r1 : u1 = _ := r1
        subst r1
        simp [go_sem, Oper.wp, execOp, Act.eval, h1]
        exact ⟨_, rfl, Below.refl _ _, rfl⟩
    · intro a wx hd
      obtain ⟨f, hfe, hf⟩ := hd.frame' [21, 22, 23, 24, 25, 26, 27, 28, 29, 30, 31, 32, 33, 34, 35, 36, 37, 38, 4] rfl
      have r4 : f 4 = _ := hf 18 _ 4 rfl rfl
      have hle := hd.le
      clear hd hf
      subst hfe
      simp only [List.foldl_cons, List.foldl_nil, List.setIfInBounds_toArray, List.set_cons_succ, List.set_cons_zero, r4]
      clear r4
      go_wp2_with fail
      go_meet
      exact ⟨_, rfl, by
        simp only [ByteArray.toList_data_append, frmB]
        have e : p.data.toList.length = p.size := by rw [Array.length_toList]; rfl
        rw [e]; simp, hb0.trans (hle.mono hb0.size)⟩
  case rest =>
    obtain ⟨S, rfl, hS, hb1⟩ := hcut
    have HS := Lib.hid hS
    have hSz : S.size ≤ 6015 := by
      have h1 := Hlen.out
      rw [← HS.out] at h1
      have e : p.data.toList.length = p.size := by rw [Array.length_toList]; rfl
      have e2 : S.data.toList.length = S.size := by rw [Array.length_toList]; rfl
      omega
    clear hS Hlen
    go_wp2_with fail
    refine Calls.mono (fsum_any S _ (by omega)) ?_
    rintro e w2 ⟨rfl, hb2⟩
    have hb := hb1.trans (hb2.mono hb1.size)
    clear hb1 hb2
    have hl4 : (sum4 S.data.toList).length ≤ 4 := Nat.le_refl 4
    have Hend := Lib.hid (Hfin.out (S ++ ⟨(sum4 S.data.toList).toArray⟩) w2 (by rw [ByteArray.toList_data_append, HS.out]; rfl) hb)
    clear Hfin hb
    go_wp2
    go_ret2
    exact Hend.out
end Go.Proofs.YtbbagnfmoecdfaaDoor
