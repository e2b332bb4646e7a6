/- Frames, one behind the other: plain. -/
import Derived.Test.YtdogdhlpkbcneaaPlDec
namespace Go.Proofs.Ytdogdhlpkbcneaa
theorem decF_facts {s : ByteArray} {f : FrameM} {n e : Nat} (h : decF s = (f, n, e)) : (e ≠ 0 → f = .zero ∧ n = 0) ∧ (e = 0 → 9 ≤ n ∧ n ≤ s.size) := by
  unfold decF at h
  by_cases hd : decH s = 0
  · rw [if_pos hd] at h
    obtain ⟨n', k, x, hr⟩ : ∃ n k x, rdNum (s.extract 4 s.size) = (n, k, x) := ⟨_, _, _, rfl⟩
    have hf := rdNum_facts hr
    rw [hr] at h
    dsimp only at h
    by_cases hx : x = 0
    · rw [if_pos hx] at h
      have h1 := (hf.2.2.2 hx).1
      by_cases hn : 6000 < n'
      · rw [if_pos hn] at h; cases h; exact ⟨fun _ => ⟨rfl, rfl⟩, fun h => absurd h (by omega)⟩
      · rw [if_neg hn] at h
        by_cases hl : s.size < 8 + k + n'
        · rw [if_pos hl] at h; cases h; exact ⟨fun _ => ⟨rfl, rfl⟩, fun h => absurd h (by omega)⟩
        · rw [if_neg hl] at h
          split at h
          · cases h; exact ⟨fun h => absurd rfl h, fun _ => ⟨by omega, by omega⟩⟩
          · cases h; exact ⟨fun _ => ⟨rfl, rfl⟩, fun h => absurd h (by omega)⟩
    · rw [if_neg hx] at h; cases h; exact ⟨fun _ => ⟨rfl, rfl⟩, fun h => absurd h hx⟩
  · rw [if_neg hd] at h; cases h; exact ⟨fun _ => ⟨rfl, rfl⟩, fun h => absurd h hd⟩
/-- All frames at the front, how many bytes they have, and the error behind them. -/
inductive Frs : ByteArray → List FrameM → Nat → Nat → Prop
  | stop {s : ByteArray} {e : Nat} : decF s = (.zero, 0, e) → e ≠ 0 → Frs s [] 0 e
  | step {s : ByteArray} {f : FrameM} {n : Nat} {fs : List FrameM} {m e : Nat} : decF s = (f, n, 0) → 1 ≤ n → n ≤ s.size → Frs (s.extract n s.size) fs m e → Frs s (f :: fs) (n + m) e
theorem Frs.all_ : ∀ (k : Nat) (s : ByteArray), s.size ≤ k → ∃ fs m e, Frs s fs m e
  | k, s, hk => by
    obtain ⟨f, n, e, h⟩ : ∃ f n e, decF s = (f, n, e) := ⟨_, _, _, rfl⟩
    obtain ⟨h1, h2⟩ := decF_facts h
    by_cases he : e = 0
    · subst he
      obtain ⟨h3, h4⟩ := h2 rfl
      match k, hk with
      | 0, hk => omega
      | k + 1, hk =>
        obtain ⟨fs, m, e, hr⟩ := Frs.all_ k (s.extract n s.size) (by rw [ByteArray.size_extract]; omega)
        exact ⟨_, _, _, .step h (by omega) h4 hr⟩
    · obtain ⟨rfl, rfl⟩ := h1 he
      exact ⟨_, _, _, .stop h he⟩
theorem Frs.all (s : ByteArray) : ∃ fs m e, Frs s fs m e := Frs.all_ s.size s (Nat.le_refl _)
theorem Frs.facts {s : ByteArray} {fs : List FrameM} {m e : Nat} (h : Frs s fs m e) : m ≤ s.size ∧ e ≠ 0 ∧ fs.length ≤ m := by
  induction h with
  | stop _ he => exact ⟨Nat.zero_le _, he, Nat.le_refl _⟩
  | step _ h1 h2 _ ih =>
    rw [ByteArray.size_extract] at ih
    refine ⟨by omega, ih.2.1, ?_⟩
    rw [List.length_cons]; omega
end Go.Proofs.Ytdogdhlpkbcneaa
