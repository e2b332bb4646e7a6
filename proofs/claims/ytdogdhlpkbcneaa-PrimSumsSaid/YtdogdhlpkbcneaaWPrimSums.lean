/- The walk of the law PrimSums. -/
import Derived.Test.YtdogdhlpkbcneaaSum
namespace Go.Proofs.Ytdogdhlpkbcneaa
open Go.RowKit
theorem sum_check : crcSum [49, 50, 51, 52, 53, 54, 55, 56, 57] = 3421780262 := by decide +kernel
theorem sum_digits (w : World) : Calls Try.prog 23 #[.string ⟨#[49, 50, 51, 52, 53, 54, 55, 56, 57]⟩] w fun e w' => e = .returned (.int .u32 3421780262) ∧ Below w.heap.size w w' :=
  (sum_any _ w (by decide)).mono fun _ _ ⟨h1, h2⟩ => ⟨by rw [h1, sum_check]; rfl, h2⟩
set_option maxRecDepth 100000 in
theorem walkPrimSums (s : ByteArray) (hs : s.size ≤ maxLen) (w : World) :
    Calls Try.prog 8 #[.string s] w fun e w' => e = .returned (.bool true) ∧ Below w.heap.size w w' := by
  unfold maxLen at hs
  go_enter Try.func8, Try.ntmps8
  go_wp2_with fail
  refine Calls.mono (sum_any s w hs) ?_
  rintro x w1 ⟨rfl, hb1⟩
  go_wp2_with fail
  refine Calls.mono (rsum_any s w1 hs) ?_
  rintro x w2 ⟨rfl, rfl⟩
  go_wp2_with fail
  refine Calls.mono (sum_digits w1) ?_
  rintro x w2 ⟨rfl, hb2⟩
  have hb := hb1.trans (hb2.mono hb1.size)
  clear hb1 hb2
  go_wp2
  go_ret
  exact ⟨rfl, hb⟩
end Go.Proofs.Ytdogdhlpkbcneaa
