/- The walks of Zig and Zag, in the program and in the reference. -/
import Derived.Test.YtdogdhlpkbcneaaRows
import Derived.Test.YtdogdhlpkbcneaaPl
import Derived.Test.YtdogdhlpkbcneaaKit
namespace Go.Proofs.Ytdogdhlpkbcneaa
open Go.RowKit

theorem zig_any (n : Int) (h : -9223372036854775808 ≤ n) (h' : n ≤ 9223372036854775807) (w : World) :
    Calls Try.prog 13 #[.int .i64 n] w fun e w' => e = .returned (.int .u64 (zigZ n)) ∧ w = w' := by
  have hx := Lib.hid (zig_xor n h h')
  go_enter Try.func13, Try.ntmps13
  go_wp2
  go_ret
  exact ⟨ret_int hx.out, rfl⟩
theorem rzig_any (n : Int) (h : -9223372036854775808 ≤ n) (h' : n ≤ 9223372036854775807) (w : World) :
    Calls Try.prog 14 #[.int .i64 n] w fun e w' => e = .returned (.int .u64 (zigZ n)) ∧ w = w' := by
  by_cases hn : 0 ≤ n
  · have hx := Lib.hid (show zigZ n = 2 * n from by unfold zigZ; rw [if_pos hn])
    go_enter Try.func14, Try.ntmps14
    go_wp2
    go_ret
    exact ⟨ret_int hx.out.symm, rfl⟩
  · have hx := Lib.hid (show zigZ n = 2 * -(n + 1) + 1 from by unfold zigZ; rw [if_neg hn]; omega)
    go_enter Try.func14, Try.ntmps14
    go_wp2
    go_ret
    exact ⟨ret_int hx.out.symm, rfl⟩
theorem zag_any (n : Int) (h : 0 ≤ n) (h' : n < 18446744073709551616) (w : World) :
    Calls Try.prog 15 #[.int .u64 n] w fun e w' => e = .returned (.int .i64 (zagZ n)) ∧ w = w' := by
  have hx := Lib.hid (zag_xor n h h')
  go_enter Try.func15, Try.ntmps15
  go_wp2
  go_ret
  exact ⟨ret_int hx.out, rfl⟩
theorem rzag_any (n : Int) (h : 0 ≤ n) (h' : n < 18446744073709551616) (w : World) :
    Calls Try.prog 16 #[.int .u64 n] w fun e w' => e = .returned (.int .i64 (zagZ n)) ∧ w = w' := by
  by_cases e : n % 2 = 0
  · have hx := Lib.hid (show zagZ n = n / 2 from by unfold zagZ; rw [if_pos e])
    have e1 : (n % 2 == 0) = true := by rw [e]; rfl
    clear e
    go_enter Try.func16, Try.ntmps16
    go_wp2
    go_ret
    exact ⟨ret_int hx.out.symm, rfl⟩
  · have hx := Lib.hid (show zagZ n = -(n / 2) - 1 from by unfold zagZ; rw [if_neg e])
    have e1 : (n % 2 == 0) = false := by rw [beq_eq_false_iff_ne]; exact e
    clear e
    go_enter Try.func16, Try.ntmps16
    go_wp2
    go_ret
    exact ⟨ret_int hx.out.symm, rfl⟩
end Go.Proofs.Ytdogdhlpkbcneaa
