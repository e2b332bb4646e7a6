/- The law PrimReads. -/
import Derived.Test.YtoeejfhdjmkpcaaDoorRead
set_option linter.unusedVariables false
set_option linter.unusedSimpArgs false
namespace Go.Proofs.YtoeejfhdjmkpcaaDoor
open Go.RowKit
theorem toList_take_succ {s : ByteArray} {k : Nat} (h : k < s.size) : s.data.toList.take (k + 1) = s.data.toList.take k ++ [s[k]] := by
  rw [List.take_succ_eq_append_getElem (by simpa using h)]; rfl
theorem rdNum_empty : rdNum ⟨#[]⟩ = (0, 0, 3) := rdB_short (s := ⟨#[]⟩) (k := 0) (acc := 0) (by omega) (by decide)
end Go.Proofs.YtoeejfhdjmkpcaaDoor
