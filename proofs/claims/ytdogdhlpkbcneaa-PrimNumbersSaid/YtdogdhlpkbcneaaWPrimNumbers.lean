/- The walk of the law PrimNumbers. -/
import Derived.Test.YtdogdhlpkbcneaaPut
namespace Go.Proofs.Ytdogdhlpkbcneaa
open Go.RowKit
theorem walkPrimNumbers (n : Int) (h0 : 0 ≤ n) (h1 : n < 18446744073709551616) (w : World) :
    Calls Try.prog 5 #[.int .u64 n] w fun e w' => e = .returned (.bool true) ∧ Below w.heap.size w w' := by
  have hp := Lib.hid (show n.toNat < 128 ^ 10 from by omega)
  go_enter Try.func5, Try.ntmps5
  go_wp2_with fail
  refine Calls.mono (number_any n _ h0 h1) ?_
  rintro e w1 ⟨rfl, hb1⟩
  go_wp2_with fail
  refine Calls.mono (rnumber_any 10 n w1 h0 h1 hp.out (by omega)) ?_
  rintro e w2 ⟨rfl, hb2⟩
  have hb := hb1.trans (hb2.mono hb1.size)
  clear hb1 hb2
  go_wp2
  go_ret
  exact ⟨rfl, hb⟩
end Go.Proofs.Ytdogdhlpkbcneaa
