/- The law PrimReads. -/
import Derived.Test.YtbbagnfmoecdfaaDoorRead
set_option linter.unusedVariables false
set_option linter.unusedSimpArgs false
namespace Go.Proofs.YtbbagnfmoecdfaaDoor
open Go.RowKit
theorem toList_take_succ {s : ByteArray} {k : Nat} (h : k < s.size) : s.data.toList.take (k + 1) = s.data.toList.take k ++ [s[k]] := by
  rw [List.take_succ_eq_append_getElem (by simpa using h)]; rfl
theorem rdNum_empty : rdNum ⟨#[]⟩ = (0, 0, 3) := rdB_short (s := ⟨#[]⟩) (k := 0) (acc := 0) (by omega) (by decide)
theorem read_eq {s : ByteArray} {a k e : Nat} (h : rdNum s = (a, k, e)) (w : World) (hs : s.size ≤ 9223372036854775807) :
    Calls Tryd.prog 105 #[.string s] w fun x w' => x = .returned (.tuple #[.int .u64 (a : Int), .int .i64 (k : Int), .int .i64 (e : Int)]) ∧ w = w' :=
  (read_any s w hs).mono fun _ _ ⟨h1, h2⟩ => ⟨by rw [h1, rdV_of h], h2⟩
theorem read_none (w : World) :
    Calls Tryd.prog 105 #[.string ⟨#[]⟩] w fun x w' => x = .returned (.tuple #[.int .u64 0, .int .i64 0, .int .i64 3]) ∧ w = w' :=
  (read_any _ w (by decide)).mono fun _ _ ⟨h1, h2⟩ => ⟨by rw [h1, rdV_of rdNum_empty]; rfl, h2⟩
end Go.Proofs.YtbbagnfmoecdfaaDoor
