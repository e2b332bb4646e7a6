/- The walk of the law PrimZigs. -/
import Derived.Test.YtdogdhlpkbcneaaZig
namespace Go.Proofs.Ytdogdhlpkbcneaa
open Go.RowKit
theorem walkPrimZigs (n m : Int) (h : -9223372036854775808 ≤ n) (h' : n ≤ 9223372036854775807) (k : 0 ≤ m) (k' : m < 18446744073709551616) (w : World) :
    Calls Try.prog 4 #[.int .i64 n, .int .u64 m] w fun e w' => e = .returned (.bool true) ∧ Below w.heap.size w w' := by
  have z3 : zigZ (-3) = 5 := by decide
  go_enter Try.func4, Try.ntmps4
  go_wp2_with (first | (go_at_call 13; refine (zig_any _ (by omega) (by omega) _).mono ?_; rintro e w' ⟨rfl, rfl⟩) | (go_at_call 14; refine (rzig_any _ (by omega) (by omega) _).mono ?_; rintro e w' ⟨rfl, rfl⟩) | (go_at_call 15; refine (zag_any _ (by omega) (by omega) _).mono ?_; rintro e w' ⟨rfl, rfl⟩) | (go_at_call 16; refine (rzag_any _ (by omega) (by omega) _).mono ?_; rintro e w' ⟨rfl, rfl⟩))
  go_ret
  exact ⟨rfl, Below.refl _ _⟩
end Go.Proofs.Ytdogdhlpkbcneaa
