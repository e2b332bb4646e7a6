/- What ReadText gives: plain. -/
import Derived.Test.YtonipllegfgdiaaDoorPlRdF
import Derived.Lib.ValidLaws
namespace Go.Proofs.YtonipllegfgdiaaDoor
open Go.Lib (validD)
def txtR (s : ByteArray) : ByteArray × Nat × Nat :=
  match rdNum s with
  | (n, k, e) =>
    if e = 0 then
      if 16 < n then (⟨#[]⟩, 0, 2)
      else if s.size < k + n then (⟨#[]⟩, 0, 3)
      else if validD (s.extract k (k + n)).data.toList = true then (s.extract k (k + n), k + n, 0)
      else (⟨#[]⟩, 0, 4)
    else (⟨#[]⟩, 0, e)
variable {s : ByteArray} {n k e : Nat}
theorem txtR_num (h : rdNum s = (n, k, e)) (he : e ≠ 0) : txtR s = (⟨#[]⟩, 0, e) := by unfold txtR; rw [h]; simp only; rw [if_neg he]
theorem txtR_large (h : rdNum s = (n, k, 0)) (hn : 16 < n) : txtR s = (⟨#[]⟩, 0, 2) := by unfold txtR; rw [h]; simp only; rw [if_pos trivial, if_pos hn]
theorem txtR_short (h : rdNum s = (n, k, 0)) (hn : ¬ 16 < n) (hl : s.size < k + n) : txtR s = (⟨#[]⟩, 0, 3) := by unfold txtR; rw [h]; simp only; rw [if_pos trivial, if_neg hn, if_pos hl]
theorem txtR_ok (h : rdNum s = (n, k, 0)) (hn : ¬ 16 < n) (hl : ¬ s.size < k + n) (hv : validD (s.extract k (k + n)).data.toList = true) : txtR s = (s.extract k (k + n), k + n, 0) := by unfold txtR; rw [h]; simp only; rw [if_pos trivial, if_neg hn, if_neg hl, if_pos hv]
theorem txtR_form (h : rdNum s = (n, k, 0)) (hn : ¬ 16 < n) (hl : ¬ s.size < k + n) (hv : validD (s.extract k (k + n)).data.toList = false) : txtR s = (⟨#[]⟩, 0, 4) := by unfold txtR; rw [h]; simp only; rw [if_pos trivial, if_neg hn, if_neg hl, if_neg (by rw [hv]; simp)]
end Go.Proofs.YtonipllegfgdiaaDoor
