/- The walk of the law PrimReads. -/
import Derived.Test.YtdogdhlpkbcneaaReads
namespace Go.Proofs.Ytdogdhlpkbcneaa
open Go.RowKit
set_option maxRecDepth 100000 in
theorem walkPrimReads (s : ByteArray) (hs : s.size ≤ maxLen) (w : World) :
    Calls Try.prog 7 #[.string s] w fun e w' => e = .returned (.bool true) ∧ Below w.heap.size w w' := by
  unfold maxLen at hs
  obtain ⟨a, k, e, hr⟩ : ∃ a k e, rdNum s = (a, k, e) := ⟨_, _, _, rfl⟩
  have h1 := Lib.hid (read_eq hr w hs)
  have h2 := Lib.hid (rread_eq hr w hs)
  clear hr
  go_enter Try.func7, Try.ntmps7
  go_wp2_with fail
  refine Calls.mono h1.out ?_
  rintro x w' ⟨rfl, rfl⟩
  go_wp2_with fail
  refine Calls.mono h2.out ?_
  rintro x w' ⟨rfl, rfl⟩
  go_wp2_with fail
  refine Calls.mono (read_none w) ?_
  rintro x w' ⟨rfl, rfl⟩
  go_wp2
  go_ret
  exact ⟨rfl, Below.refl _ _⟩
end Go.Proofs.Ytdogdhlpkbcneaa
