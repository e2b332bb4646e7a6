/- The walk of the law JSONQuotes. -/
import Derived.Test.YtdogdhlpkbcneaaRQuote
namespace Go.Proofs.Ytdogdhlpkbcneaa
open Go.RowKit
set_option maxRecDepth 100000 in
theorem walkJSONQuotes (s : ByteArray) (hs : s.size ≤ 1048576) (w : World) :
    Calls Try.prog 6 #[.string s] w fun e w' => e = .returned (.bool true) ∧ Below w.heap.size w w' := by
  have Hs := Lib.hid (show 6 * s.size + 8 ≤ 140737488355328 from by omega)
  clear hs
  go_enter Try.func6, Try.ntmps6
  go_wp2_with fail
  refine Calls.mono (Quote_any s w Hs.out) ?_
  rintro x w1 ⟨rfl, hb1⟩
  go_wp2_with fail
  refine Calls.mono (rQuote_any s w1 Hs.out) ?_
  rintro x w2 ⟨rfl, hb2⟩
  have hb := hb1.trans (hb2.mono hb1.size)
  clear hb1 hb2
  go_wp2
  go_ret
  exact ⟨rfl, hb⟩
end Go.Proofs.Ytdogdhlpkbcneaa
