/- Reading a frame: plain. -/
import Derived.Test.YtdogdhlpkbcneaaPlFrame
namespace Go.Proofs.Ytdogdhlpkbcneaa
theorem rdB_facts (s : ByteArray) : ∀ (f k acc : Nat), f + k = 10 → k ≤ s.size → acc < 128 ^ k → ∀ a n e, rdB s f k acc = (a, n, e) → a < 18446744073709551616 ∧ n ≤ 10 ∧ e ≤ 4 ∧ (e = 0 → 1 ≤ n ∧ n ≤ s.size)
  | 0, k, acc, _, _, _, a, n, e, h => by
    simp only [rdB, Prod.mk.injEq] at h
    omega
  | f + 1, k, acc, hf, hk, ha, a, n, e, h => by
    rw [rdB] at h
    by_cases hs : k < s.size
    · rw [dif_pos hs] at h
      have hc : s[k].toNat < 256 := s[k].toNat_lt
      by_cases hb : (k = 9 ∧ 1 < s[k].toNat) ∨ (0 < k ∧ s[k].toNat = 0)
      · rw [if_pos hb] at h
        simp only [Prod.mk.injEq] at h
        omega
      · rw [if_neg hb] at h
        obtain ⟨_, h2, h3⟩ := or_step (k := k) (acc := acc) (c := s[k].toNat) (by omega) hc (by omega) ha
        by_cases h1 : s[k].toNat < 128
        · rw [if_pos h1] at h
          simp only [Prod.mk.injEq] at h
          obtain ⟨rfl, rfl, rfl⟩ := h
          exact ⟨h3, by omega, by omega, fun _ => ⟨by omega, by omega⟩⟩
        · rw [if_neg h1] at h
          exact rdB_facts s f (k + 1) _ (by omega) (by omega) h2 a n e h
    · rw [dif_neg hs] at h
      simp only [Prod.mk.injEq] at h
      omega
theorem rdNum_facts {s : ByteArray} {a n e : Nat} (h : rdNum s = (a, n, e)) : a < 18446744073709551616 ∧ n ≤ 10 ∧ e ≤ 4 ∧ (e = 0 → 1 ≤ n ∧ n ≤ s.size) :=
  rdB_facts s 10 0 0 rfl (Nat.zero_le _) (by decide) a n e h
/-- A byte of a text. -/
def byteAt (s : ByteArray) (i : Nat) : Nat := (s.data.toList.getD i 0).toNat
theorem byteAt_eq {s : ByteArray} {i : Nat} (h : i < s.size) : byteAt s i = s[i].toNat := by
  unfold byteAt
  rw [List.getD_eq_getElem?_getD, List.getElem?_eq_getElem (by simpa using h)]
  rfl
theorem byteAt_lt (s : ByteArray) (i : Nat) : byteAt s i < 256 := (s.data.toList.getD i 0).toNat_lt
/-- The head's error (0: none). -/
def decH (s : ByteArray) : Nat :=
  if 0 < s.size ∧ byteAt s 0 ≠ 66 then 4
  else if 1 < s.size ∧ byteAt s 1 ≠ 75 then 4
  else if 2 < s.size ∧ (byteAt s 2 < 1 ∨ 3 < byteAt s 2) then 1
  else if 3 < s.size ∧ (byteAt s 3 < 1 ∨ 4 < byteAt s 3) then 1
  else if s.size < 4 then 3 else 0
/-- The first k bytes of the head are as they should be. -/
structure HeadTo (s : ByteArray) (k : Nat) : Prop where
  h0 : 0 < k → 0 < s.size ∧ byteAt s 0 = 66
  h1 : 1 < k → 1 < s.size ∧ byteAt s 1 = 75
  h2 : 2 < k → 2 < s.size ∧ 1 ≤ byteAt s 2 ∧ byteAt s 2 ≤ 3
  h3 : 3 < k → 3 < s.size ∧ 1 ≤ byteAt s 3 ∧ byteAt s 3 ≤ 4
theorem HeadTo.zero (s : ByteArray) : HeadTo s 0 := ⟨fun h => absurd h (by omega), fun h => absurd h (by omega), fun h => absurd h (by omega), fun h => absurd h (by omega)⟩
section
variable {s : ByteArray}
theorem decH_0 (h : 0 < s.size) (hb : byteAt s 0 ≠ 66) : decH s = 4 := by unfold decH; rw [if_pos ⟨h, hb⟩]
theorem decH_1 (ht : HeadTo s 1) (h : 1 < s.size) (hb : byteAt s 1 ≠ 75) : decH s = 4 := by
  have := ht.h0 (by omega)
  unfold decH; rw [if_neg (by omega), if_pos ⟨h, hb⟩]
theorem decH_2 (ht : HeadTo s 2) (h : 2 < s.size) (hb : byteAt s 2 < 1 ∨ 3 < byteAt s 2) : decH s = 1 := by
  have := ht.h0 (by omega)
  have := ht.h1 (by omega)
  unfold decH; rw [if_neg (by omega), if_neg (by omega), if_pos ⟨h, hb⟩]
theorem decH_3 (ht : HeadTo s 3) (h : 3 < s.size) (hb : byteAt s 3 < 1 ∨ 4 < byteAt s 3) : decH s = 1 := by
  have := ht.h0 (by omega)
  have := ht.h1 (by omega)
  have := ht.h2 (by omega)
  unfold decH; rw [if_neg (by omega), if_neg (by omega), if_neg (by omega), if_pos ⟨h, hb⟩]
theorem decH_short {k : Nat} (ht : HeadTo s k) (hk : s.size ≤ k) (h : s.size < 4) : decH s = 3 := by
  have a0 := ht.h0
  have a1 := ht.h1
  have a2 := ht.h2
  have a3 := ht.h3
  unfold decH
  rw [if_neg (by omega), if_neg (by omega), if_neg (by omega), if_neg (by omega), if_pos h]
theorem decH_ok (ht : HeadTo s 4) : decH s = 0 ∧ 4 ≤ s.size := by
  have a0 := ht.h0 (by omega)
  have a1 := ht.h1 (by omega)
  have a2 := ht.h2 (by omega)
  have a3 := ht.h3 (by omega)
  unfold decH
  rw [if_neg (by omega), if_neg (by omega), if_neg (by omega), if_neg (by omega), if_neg (by omega)]
  exact ⟨rfl, by omega⟩
theorem headTo_of (h : decH s = 0) : HeadTo s 4 := by
  unfold decH at h
  by_cases c0 : 0 < s.size ∧ byteAt s 0 ≠ 66
  · rw [if_pos c0] at h; omega
  rw [if_neg c0] at h
  by_cases c1 : 1 < s.size ∧ byteAt s 1 ≠ 75
  · rw [if_pos c1] at h; omega
  rw [if_neg c1] at h
  by_cases c2 : 2 < s.size ∧ (byteAt s 2 < 1 ∨ 3 < byteAt s 2)
  · rw [if_pos c2] at h; omega
  rw [if_neg c2] at h
  by_cases c3 : 3 < s.size ∧ (byteAt s 3 < 1 ∨ 4 < byteAt s 3)
  · rw [if_pos c3] at h; omega
  rw [if_neg c3] at h
  by_cases c4 : s.size < 4
  · rw [if_pos c4] at h; omega
  exact ⟨fun _ => by omega, fun _ => by omega, fun _ => by omega, fun _ => by omega⟩
end
/-- A frame: version, kind, payload. -/
structure FrameM where
  ver : Nat
  kind : Nat
  pay : ByteArray
def FrameM.zero : FrameM := ⟨0, 0, ⟨#[]⟩⟩
/-- The frame at the front, how many bytes it has, the error. -/
def decF (s : ByteArray) : FrameM × Nat × Nat :=
  if decH s = 0 then
    match rdNum (s.extract 4 s.size) with
    | (n, k, e) =>
      if e = 0 then
        if 6000 < n then (.zero, 0, 2)
        else if s.size < 8 + k + n then (.zero, 0, 3)
        else if (s.extract (4 + k + n) (8 + k + n)).data.toList = sum4 (s.extract 0 (4 + k + n)).data.toList then (⟨byteAt s 2, byteAt s 3, s.extract (4 + k) (4 + k + n)⟩, 8 + k + n, 0)
        else (.zero, 0, 5)
      else (.zero, 0, e)
  else (.zero, 0, decH s)
section
variable {s : ByteArray} {n k e : Nat}
theorem decF_head {c : Nat} (h : decH s = c) (hc : c ≠ 0) : decF s = (.zero, 0, c) := by subst h; unfold decF; rw [if_neg hc]
theorem decF_num (h : decH s = 0) (hr : rdNum (s.extract 4 s.size) = (n, k, e)) (he : e ≠ 0) : decF s = (.zero, 0, e) := by unfold decF; rw [if_pos h, hr]; simp only; rw [if_neg he]
theorem decF_large (h : decH s = 0) (hr : rdNum (s.extract 4 s.size) = (n, k, 0)) (hn : 6000 < n) : decF s = (.zero, 0, 2) := by unfold decF; rw [if_pos h, hr]; simp only; rw [if_pos trivial, if_pos hn]
theorem decF_short (h : decH s = 0) (hr : rdNum (s.extract 4 s.size) = (n, k, 0)) (hn : ¬ 6000 < n) (hs : s.size < 8 + k + n) : decF s = (.zero, 0, 3) := by unfold decF; rw [if_pos h, hr]; simp only; rw [if_pos trivial, if_neg hn, if_pos hs]
theorem decF_sum (h : decH s = 0) (hr : rdNum (s.extract 4 s.size) = (n, k, 0)) (hn : ¬ 6000 < n) (hs : ¬ s.size < 8 + k + n) (hm : ¬ (s.extract (4 + k + n) (8 + k + n)).data.toList = sum4 (s.extract 0 (4 + k + n)).data.toList) : decF s = (.zero, 0, 5) := by unfold decF; rw [if_pos h, hr]; simp only; rw [if_pos trivial, if_neg hn, if_neg hs, if_neg hm]
theorem decF_ok (h : decH s = 0) (hr : rdNum (s.extract 4 s.size) = (n, k, 0)) (hn : ¬ 6000 < n) (hs : ¬ s.size < 8 + k + n) (hm : (s.extract (4 + k + n) (8 + k + n)).data.toList = sum4 (s.extract 0 (4 + k + n)).data.toList) : decF s = (⟨byteAt s 2, byteAt s 3, s.extract (4 + k) (4 + k + n)⟩, 8 + k + n, 0) := by unfold decF; rw [if_pos h, hr]; simp only; rw [if_pos trivial, if_neg hn, if_neg hs, if_pos hm]
end
end Go.Proofs.Ytdogdhlpkbcneaa
