/- The walk of the law FrameEncodes. -/
import Derived.Test.YtdogdhlpkbcneaaFrames
namespace Go.Proofs.Ytdogdhlpkbcneaa
open Go.RowKit
set_option maxRecDepth 100000 in
set_option maxHeartbeats 1000000 in
theorem walkFrameEncodes (v k : Int) (p : ByteArray) (_hv1 : -9223372036854775808 ≤ v) (_hv2 : v ≤ 9223372036854775807) (_hk1 : -9223372036854775808 ≤ k) (_hk2 : k ≤ 9223372036854775807) (_hp : p.size ≤ maxLen) (w : World) :
    Calls Try.prog 9 #[.agg #[.int .i64 v, .int .i64 k, .string p]] w fun e w' => e = .returned (.bool true) ∧ Below w.heap.size w w' := by
  clear _hv1 _hv2 _hk1 _hk2 _hp
  obtain ⟨s, x, hx⟩ : ∃ s x, encF v k p = (s, x) := ⟨_, _, rfl⟩
  have h1 := Lib.hid (fun w => enc_eq hx w)
  have h2 := Lib.hid (fun w => renc_eq hx w)
  clear hx
  go_enter Try.func9, Try.ntmps9
  go_wp2_with fail
  refine Calls.mono (h1.out _) ?_
  rintro e w1 ⟨rfl, hb1⟩
  have c0 : w1.cell? ⟨w.heap.size, 0, none⟩ = some (.int .i64 v) := (hb1.cell (p := ⟨w.heap.size, 0, none⟩) (by simp)).trans (by simp [go_sem])
  have c1 : w1.cell? ⟨w.heap.size, 1, none⟩ = some (.int .i64 k) := (hb1.cell (p := ⟨w.heap.size, 1, none⟩) (by simp)).trans (by simp [go_sem])
  have c2 : w1.cell? ⟨w.heap.size, 2, none⟩ = some (.string p) := (hb1.cell (p := ⟨w.heap.size, 2, none⟩) (by simp)).trans (by simp [go_sem])
  have Hb1 := Lib.hid (((Below.refl w.heap.size w).alloc (Nat.le_refl _) _).trans (hb1.mono (by simp)))
  clear hb1
  go_wp2_with fail
  refine Calls.mono (h2.out _) ?_
  rintro e w2 ⟨rfl, hb2⟩
  have Hb2 := Lib.hid (Hb1.out.trans (hb2.mono Hb1.out.size))
  clear hb2 c0 c1 c2 Hb1
  go_wp2_with fail
  refine Calls.mono (enc_eq encF_none w2) ?_
  rintro e w3 ⟨rfl, hb3⟩
  have Hb3 := Lib.hid (Hb2.out.trans (hb3.mono Hb2.out.size))
  clear hb3 Hb2
  go_wp2
  go_ret
  exact ⟨rfl, Hb3.out⟩
end Go.Proofs.Ytdogdhlpkbcneaa
