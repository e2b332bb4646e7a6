/- The walk of the reference's FrameEncode. -/
import Derived.Test.YtbbagnfmoecdfaaDoorFrmEnc
import Derived.Test.YtbbagnfmoecdfaaDoorPutR
import Derived.Lib.QuietBelow
import Derived.Deep.DeepCutAuto
set_option linter.unusedVariables false
set_option linter.unusedSimpArgs false
namespace Go.Proofs.YtbbagnfmoecdfaaDoor
open Go.RowKit
open Go.Sort (grow)
set_option maxRecDepth 100000 in
set_option maxHeartbeats 4000000 in
theorem renc_any (v k : Int) (p : ByteArray) (w : World) :
    Calls Tryd.prog 45 #[.agg #[.int .i64 v, .int .i64 k, .string p]] w (EncPost v k p w) := by
  by_cases hv : v < 1 ∨ 3 < v
  · have Hfin := Lib.hid (fun (w' : World) => EncPost.arg (v := v) (k := k) (p := p) (w := w) (w' := w') (by omega))
    have HV := Lib.hid hv
    clear hv
    go_enter Tryd.func45, Tryd.ntmps45
    go_wp2_with (go_at_call 30; refine (outside_yes _ _ _ HV.out _).mono ?_; rintro e w' ⟨rfl, rfl⟩)
    go_ret2
    exact Hfin.out _ ((Below.refl _ _).alloc (Nat.le_refl _) _)
  have hv1 : 1 ≤ v := by omega
  have hv2 : v ≤ 3 := by omega
  clear hv
  by_cases hk : k < 1 ∨ 4 < k
  · have Hfin := Lib.hid (fun (w' : World) => EncPost.arg (v := v) (k := k) (p := p) (w := w) (w' := w') (by omega))
    have HK := Lib.hid hk
    clear hk
    go_enter Tryd.func45, Tryd.ntmps45
    go_wp2_with fail
    refine Calls.mono (outside_no _ _ _ hv1 hv2 _) ?_
    rintro e w' ⟨rfl, rfl⟩
    go_wp2_with fail
    refine Calls.mono (outside_yes _ _ _ HK.out _) ?_
    rintro e w' ⟨rfl, rfl⟩
    go_wp2
    go_ret2
    exact Hfin.out _ ((Below.refl _ _).alloc (Nat.le_refl _) _)
  have hk1 : 1 ≤ k := by omega
  have hk2 : k ≤ 4 := by omega
  clear hk
  by_cases hp : 6000 < p.size
  · have Hfin := Lib.hid (fun (w' : World) => EncPost.large (v := v) (k := k) (p := p) (w := w) (w' := w') (by omega) hp)
    go_enter Tryd.func45, Tryd.ntmps45
    go_wp2_with fail
    refine Calls.mono (outside_no _ _ _ hv1 hv2 _) ?_
    rintro e w' ⟨rfl, rfl⟩
    go_wp2_with fail
    refine Calls.mono (outside_no _ _ _ hk1 hk2 _) ?_
    rintro e w' ⟨rfl, rfl⟩
    go_wp2
    go_ret2
    exact Hfin.out _ ((Below.refl _ _).alloc (Nat.le_refl _) _)
  have wv : IntKind.u64.wrap v = v := by rw [IntKind.wrap_u64]; omega
  have wk : IntKind.u64.wrap k = k := by rw [IntKind.wrap_u64]; omega
  have wp : IntKind.u64.wrap (p.size : Int) = p.size := by rw [IntKind.wrap_u64]; omega
  have hl := (numL_length p.size).2
  have c1 : ¬ 9223372036854775807 < 4 + (numL p.size).length := by omega
  have c2 : ¬ 9223372036854775807 < 4 + (numL p.size).length + p.size := by omega
  have Hlen := Lib.hid (frmB_len v.toNat k.toNat p.data.toList)
  have Hfin := Lib.hid (fun (s : ByteArray) (w' : World) => EncPost.ok (v := v) (k := k) (p := p) (w := w) (w' := w') (s := s) (by omega) hp)
  have Hp10 := Lib.hid (show ((p.size : Int)).toNat < 128 ^ 10 from by omega)
  clear hl
  go_enter Tryd.func45, Tryd.ntmps45
  go_wp2_with fail
  refine Calls.mono (outside_no _ _ _ hv1 hv2 _) ?_
  rintro e w' ⟨rfl, rfl⟩
  go_wp2_with fail
  refine Calls.mono (outside_no _ _ _ hk1 hk2 _) ?_
  rintro e w' ⟨rfl, rfl⟩
  go_wp2_with fail
  generalize hw0 : w.alloc (.cells #[.int .i64 v, .int .i64 k, .string p] 79) = w0
  have hb0 : Below w.heap.size w w0 := by rw [← hw0]; exact (Below.refl _ _).alloc (Nat.le_refl _) _
  have g0 : w0.cell? ⟨w.heap.size, 0, none⟩ = some (.int .i64 v) := by rw [← hw0]; simp [go_sem]
  have g1 : w0.cell? ⟨w.heap.size, 1, none⟩ = some (.int .i64 k) := by rw [← hw0]; simp [go_sem]
  have g2 : w0.cell? ⟨w.heap.size, 2, none⟩ = some (.string p) := by rw [← hw0]; simp [go_sem]
  have f0 := fun d os => cell_regrown g0 d os
  have f1 := fun d os => cell_regrown g1 d os
  have f2 := fun d os => cell_regrown g2 d os
  have Hb0 := Lib.hid hb0
  clear hw0 g0 g1 g2 hb0
  refine wp_region_quiet_below (by kernel_rfl) (by kernel_rfl) ?_
  repeat (quiet_step ((first | (go_at_call 80; exact Calls.regrown_of (chr_any _ _ (by omega) (by omega))) | (go_at_call 81; exact Calls.regrown_of (rnumber_any 10 _ _ (by omega) (by omega) Hp10.out (by omega))))))
  refine wpQuiet_nil ?_
  intro _ hw'
  obtain ⟨⟨nq, osq⟩, hw''⟩ := hw'
  subst hw''
  have hb1 := Hb0.out.trans ((below_regrown w0 nq osq).mono Hb0.out.size)
  clear f0 f1 f2 Hb0
  generalize grow (redrawn w0 nq) osq = w1 at hb1
  clear w0
  obtain ⟨S, hS⟩ : ∃ S : ByteArray, S = (({ data := #[66, 75] } ++ { data := #[UInt8.ofNat v.toNat] } ++ { data := #[UInt8.ofNat k.toNat] } ++ { data := (numL p.size).toArray } ++ p) : ByteArray) := ⟨_, rfl⟩
  rw [← hS]
  have HS := Lib.hid (show S.data.toList = frmB v.toNat k.toNat p.data.toList from by
    rw [hS]
    simp only [ByteArray.toList_data_append, frmB]
    have e : p.data.toList.length = p.size := by rw [Array.length_toList]; rfl
    rw [e]; simp)
  have hSz : S.size ≤ 6015 := by
    have h1 := Hlen.out
    rw [← HS.out] at h1
    have e : p.data.toList.length = p.size := by rw [Array.length_toList]; rfl
    have e2 : S.data.toList.length = S.size := by rw [Array.length_toList]; rfl
    omega
  clear hS Hlen
  go_wp2_with fail
  refine Calls.mono (rfsum_any S w1 (by omega)) ?_
  rintro e w2 ⟨rfl, hb2⟩
  have hb := hb1.trans (hb2.mono hb1.size)
  clear hb1 hb2
  have hl4 : (sum4 S.data.toList).length ≤ 4 := Nat.le_refl 4
  have Hend := Lib.hid (Hfin.out (S ++ ⟨(sum4 S.data.toList).toArray⟩) w2 (by rw [ByteArray.toList_data_append, HS.out]; rfl) hb)
  clear Hfin hb
  go_wp2
  go_ret2
  exact Hend.out
end Go.Proofs.YtbbagnfmoecdfaaDoor
