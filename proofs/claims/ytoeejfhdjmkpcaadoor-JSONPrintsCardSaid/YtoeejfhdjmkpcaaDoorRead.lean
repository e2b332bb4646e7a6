/- The walks of ReadNumber, in the program and in the reference. -/
import Derived.Test.YtoeejfhdjmkpcaaDoorPut
import Derived.Test.YtoeejfhdjmkpcaaDoorBase
set_option linter.unusedVariables false
set_option linter.unusedSimpArgs false
namespace Go.Proofs.YtoeejfhdjmkpcaaDoor
open Go.RowKit
/-- s[k] of a string. -/
theorem idx_str {s : ByteArray} {k c : Nat} (h : k < s.size) (hc : s[k].toNat = c) (W : World) : (Instr.index 9 (.string s) (.int .i64 (k : Int))).run Tryd.prog W = .ok (.int .u8 (c : Int)) W := by
  rw [run_index_string W 9 s .i64 (k : Int) Tryd.underlying9, dif_pos ⟨by omega, by omega⟩]
  subst hc
  simp only [Int.toNat_natCast]
def RdPost (s : ByteArray) (w : World) (e : Ending) (w' : World) : Prop := e = .returned (rdV s) ∧ w = w'
theorem RdPost.mk' {s : ByteArray} {w : World} {a k e : Nat} (h : rdNum s = (a, k, e)) : RdPost s w (.returned (.tuple #[.int .u64 (a : Int), .int .i64 (k : Int), .int .i64 (e : Int)])) w := ⟨by rw [rdV_of h], rfl⟩
def RdInv (s : ByteArray) (n i : Value) : Prop := ∃ (k acc : Nat), k ≤ 9 ∧ k ≤ s.size ∧ acc < 128 ^ k ∧ i = .int .i64 k ∧ n = .int .u64 acc ∧ rdNum s = rdB s (10 - k) k acc
end Go.Proofs.YtoeejfhdjmkpcaaDoor
