/- The walk of the law PrimTextReads. -/
import Derived.Test.YtdogdhlpkbcneaaDoorTextR
namespace Go.Proofs.YtdogdhlpkbcneaaDoor
open Go.RowKit
set_option maxRecDepth 100000 in
set_option maxHeartbeats 1000000 in
theorem walkPrimTextReads (s : ByteArray) (hs : s.size ≤ maxLen) (w : World) (hT : Tabs w) :
    Calls Tryd.prog 4 #[.string s] w fun e w' => e = .returned (.bool true) ∧ Below w.heap.size w w' := by
  unfold maxLen at hs
  have h1 := Lib.hid (readText_any s w hs hT)
  have h2 := Lib.hid (fun w1 => rtextRead_any s w1 hs)
  go_enter Tryd.func4, Tryd.ntmps4
  go_wp2_with fail
  refine Calls.mono h1.out ?_
  rintro x w1 hp1
  obtain ⟨A, K, E, hAE⟩ : ∃ A K E, txtR s = (A, K, E) := ⟨_, _, _, rfl⟩
  obtain ⟨rfl, hb1⟩ := hp1
  rw [hAE]
  go_wp2_with fail
  refine Calls.mono (h2.out w1) ?_
  rintro x w2 ⟨rfl, hb2⟩
  rw [hAE]
  clear hAE
  have hb := Lib.hid (hb1.trans (hb2.mono hb1.size))
  clear hb1 hb2
  go_wp2_with fail
  refine Calls.mono (read_none w2) ?_
  rintro x w' ⟨rfl, rfl⟩
  go_wp2
  go_ret
  exact ⟨rfl, hb.out⟩
end Go.Proofs.YtdogdhlpkbcneaaDoor
