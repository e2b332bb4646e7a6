/- Plain arithmetic for the walks of package prim: no program in sight. -/
import Derived.Laws.BitsAllLaws
import Derived.Below
namespace Go.Proofs.YtonipllegfgdiaaDoor
/-- Zig of a number. -/
def zigZ (n : Int) : Int := if 0 ≤ n then 2 * n else -2 * n - 1
/-- Zag of a number. -/
def zagZ (n : Int) : Int := if n % 2 = 0 then n / 2 else -(n / 2) - 1
theorem nat_xor_ones (a : Nat) (h : a < 18446744073709551616) : a ^^^ 18446744073709551615 = 18446744073709551615 - a := by
  have e : BitVec.ofNat 64 a ^^^ BitVec.allOnes 64 = ~~~ BitVec.ofNat 64 a := BitVec.xor_allOnes
  have e2 := congrArg BitVec.toNat e
  simp only [BitVec.toNat_xor, BitVec.toNat_not, BitVec.toNat_ofNat, BitVec.toNat_allOnes] at e2
  rw [Nat.mod_eq_of_lt (by omega)] at e2
  simpa using e2
theorem zig_xor (n : Int) (h : -9223372036854775808 ≤ n) (h' : n ≤ 9223372036854775807) :
    bits .xor .u64 (IntKind.u64.wrap (IntKind.u64.wrap n * 2)) (IntKind.u64.wrap (n / 9223372036854775808)) = zigZ n := by
  unfold zigZ
  simp only [IntKind.wrap_u64]
  rw [u64_xor _ _ (by omega) (by omega) (by omega) (by omega)]
  by_cases hn : 0 ≤ n
  · have e1 : n / 9223372036854775808 = 0 := by omega
    rw [if_pos hn, e1]
    simp
    omega
  · have e1 : n / 9223372036854775808 = -1 := by omega
    rw [if_neg hn, e1]
    have e2 : (-1 % 18446744073709551616 : Int).toNat = 18446744073709551615 := by decide
    rw [e2, nat_xor_ones _ (by omega)]
    omega
theorem u64_and1 (n : Int) (h : 0 ≤ n) (h' : n < 18446744073709551616) : bits .and .u64 n 1 = n % 2 := by
  rw [u64_and _ _ h h' (by omega) (by omega)]
  have e : (1 : Int).toNat = 1 := rfl
  rw [e, nat_mask1]
  omega
theorem i64_xor_0 (m : Int) (h : 0 ≤ m) (h' : m < 9223372036854775808) : bits .xor .i64 m 0 = m := by
  have e : BitVec.ofInt 64 0 = 0#64 := by decide
  show IntKind.i64.wrap ((BitVec.ofInt 64 m ^^^ BitVec.ofInt 64 0).toNat : Nat) = m
  rw [e, BitVec.xor_zero, BitVec.toNat_ofInt, IntKind.wrap_i64]
  omega
theorem i64_xor_m1 (m : Int) (h : 0 ≤ m) (h' : m < 9223372036854775808) : bits .xor .i64 m (-1) = -m - 1 := by
  have e : BitVec.ofInt 64 (-1) = BitVec.allOnes 64 := by decide
  show IntKind.i64.wrap ((BitVec.ofInt 64 m ^^^ BitVec.ofInt 64 (-1)).toNat : Nat) = -m - 1
  rw [e, BitVec.xor_allOnes, BitVec.toNat_not, BitVec.toNat_ofInt, IntKind.wrap_i64]
  omega
theorem zag_xor (n : Int) (h : 0 ≤ n) (h' : n < 18446744073709551616) :
    bits .xor .i64 (n / 2) (RowKit.wrap64 (-RowKit.wrap64 (bits .and .u64 n 1))) = zagZ n := by
  rw [u64_and1 n h h']
  unfold zagZ
  by_cases e : n % 2 = 0
  · rw [if_pos e, e]
    have e1 : RowKit.wrap64 (-RowKit.wrap64 0) = 0 := by decide
    rw [e1, i64_xor_0 _ (by omega) (by omega)]
  · have e2 : n % 2 = 1 := by omega
    rw [if_neg e, e2]
    have e1 : RowKit.wrap64 (-RowKit.wrap64 1) = -1 := by decide
    rw [e1, i64_xor_m1 _ (by omega) (by omega)]
end Go.Proofs.YtonipllegfgdiaaDoor
