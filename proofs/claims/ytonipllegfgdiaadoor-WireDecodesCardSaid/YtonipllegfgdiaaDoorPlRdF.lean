/- What reading a number gives: its bounds. -/
import Derived.Test.YtonipllegfgdiaaDoorPlRead
namespace Go.Proofs.YtonipllegfgdiaaDoor
theorem rdB_facts (s : ByteArray) : ∀ (f k acc : Nat), f + k = 10 → k ≤ s.size → acc < 128 ^ k → ∀ a n e, rdB s f k acc = (a, n, e) → a < 18446744073709551616 ∧ n ≤ 10 ∧ e ≤ 4 ∧ (e = 0 → 1 ≤ n ∧ n ≤ s.size)
  | 0, k, acc, _, _, _, a, n, e, h => by
    simp only [rdB, Prod.mk.injEq] at h
    omega
  | f + 1, k, acc, hf, hk, ha, a, n, e, h => by
    rw [rdB] at h
    by_cases hs : k < s.size
    · rw [dif_pos hs] at h
      have hc : s[k].toNat < 256 := s[k].toNat_lt
      by_cases hb : (k = 9 ∧ 1 < s[k].toNat) ∨ (0 < k ∧ s[k].toNat = 0)
      · rw [if_pos hb] at h
        simp only [Prod.mk.injEq] at h
        omega
      · rw [if_neg hb] at h
        obtain ⟨_, h2, h3⟩ := or_step (k := k) (acc := acc) (c := s[k].toNat) (by omega) hc (by omega) ha
        by_cases h1 : s[k].toNat < 128
        · rw [if_pos h1] at h
          simp only [Prod.mk.injEq] at h
          obtain ⟨rfl, rfl, rfl⟩ := h
          exact ⟨h3, by omega, by omega, fun _ => ⟨by omega, by omega⟩⟩
        · rw [if_neg h1] at h
          exact rdB_facts s f (k + 1) _ (by omega) (by omega) h2 a n e h
    · rw [dif_neg hs] at h
      simp only [Prod.mk.injEq] at h
      omega
theorem rdNum_facts {s : ByteArray} {a n e : Nat} (h : rdNum s = (a, n, e)) : a < 18446744073709551616 ∧ n ≤ 10 ∧ e ≤ 4 ∧ (e = 0 → 1 ≤ n ∧ n ≤ s.size) :=
  rdB_facts s 10 0 0 rfl (Nat.zero_le _) (by decide) a n e h
end Go.Proofs.YtonipllegfgdiaaDoor
