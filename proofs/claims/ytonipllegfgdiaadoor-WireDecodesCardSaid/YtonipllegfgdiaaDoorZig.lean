/- The walks of Zig and Zag, in the program and in the reference. -/
import Derived.Test.YtonipllegfgdiaaDoorRows
import Derived.Test.YtonipllegfgdiaaDoorPl
import Derived.Test.YtonipllegfgdiaaDoorKit
namespace Go.Proofs.YtonipllegfgdiaaDoor
open Go.RowKit

theorem zig_any (n : Int) (h : -9223372036854775808 ≤ n) (h' : n ≤ 9223372036854775807) (w : World) :
    Calls Tryd.prog 156 #[.int .i64 n] w fun e w' => e = .returned (.int .u64 (zigZ n)) ∧ w = w' := by
  have hx := Lib.hid (zig_xor n h h')
  go_enter Tryd.func156, Tryd.ntmps156
  go_wp2
  go_ret
  exact ⟨ret_int hx.out, rfl⟩
theorem rzig_any (n : Int) (h : -9223372036854775808 ≤ n) (h' : n ≤ 9223372036854775807) (w : World) :
    Calls Tryd.prog 159 #[.int .i64 n] w fun e w' => e = .returned (.int .u64 (zigZ n)) ∧ w = w' := by
  by_cases hn : 0 ≤ n
  · have hx := Lib.hid (show zigZ n = 2 * n from by unfold zigZ; rw [if_pos hn])
    go_enter Tryd.func159, Tryd.ntmps159
    go_wp2
    go_ret
    exact ⟨ret_int hx.out.symm, rfl⟩
  · have hx := Lib.hid (show zigZ n = 2 * -(n + 1) + 1 from by unfold zigZ; rw [if_neg hn]; omega)
    go_enter Tryd.func159, Tryd.ntmps159
    go_wp2
    go_ret
    exact ⟨ret_int hx.out.symm, rfl⟩
theorem zag_any (n : Int) (h : 0 ≤ n) (h' : n < 18446744073709551616) (w : World) :
    Calls Tryd.prog 162 #[.int .u64 n] w fun e w' => e = .returned (.int .i64 (zagZ n)) ∧ w = w' := by
  have hx := Lib.hid (zag_xor n h h')
  go_enter Tryd.func162, Tryd.ntmps162
  go_wp2
  go_ret
  exact ⟨ret_int hx.out, rfl⟩
theorem rzag_any (n : Int) (h : 0 ≤ n) (h' : n < 18446744073709551616) (w : World) :
    Calls Tryd.prog 164 #[.int .u64 n] w fun e w' => e = .returned (.int .i64 (zagZ n)) ∧ w = w' := by
  by_cases e : n % 2 = 0
  · have hx := Lib.hid (show zagZ n = n / 2 from by unfold zagZ; rw [if_pos e])
    have e1 : (n % 2 == 0) = true := by rw [e]; rfl
    clear e
    go_enter Tryd.func164, Tryd.ntmps164
    go_wp2
    go_ret
    exact ⟨ret_int hx.out.symm, rfl⟩
  · have hx := Lib.hid (show zagZ n = -(n / 2) - 1 from by unfold zagZ; rw [if_neg e])
    have e1 : (n % 2 == 0) = false := by rw [beq_eq_false_iff_ne]; exact e
    clear e
    go_enter Tryd.func164, Tryd.ntmps164
    go_wp2
    go_ret
    exact ⟨ret_int hx.out.symm, rfl⟩
end Go.Proofs.YtonipllegfgdiaaDoor
