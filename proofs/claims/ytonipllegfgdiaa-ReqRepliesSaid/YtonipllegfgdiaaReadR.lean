/- The walk of the reference's NumberRead. -/
import Derived.Test.YtonipllegfgdiaaReads
set_option linter.unusedVariables false
set_option linter.unusedSimpArgs false
namespace Go.Proofs.Ytonipllegfgdiaa
open Go.RowKit
def RrInv (s : ByteArray) (n u i : Value) : Prop := ∃ (k acc p : Nat), k ≤ 9 ∧ k ≤ s.size ∧ acc < 128 ^ k ∧ p = 128 ^ k ∧ p ≤ 9223372036854775808 ∧ acc < p ∧ i = .int .i64 k ∧ n = .int .u64 acc ∧ u = .int .u64 p ∧ rdNum s = rdB s (10 - k) k acc
set_option maxRecDepth 100000 in
set_option maxHeartbeats 1000000 in
theorem rread_any (s : ByteArray) (w : World) (hs : s.size ≤ 9223372036854775807) :
    Calls Try.prog 56 #[.string s] w (RdPost s w) := by
  go_enter Try.func56, Try.ntmps56
  go_wp2
  go_loop [2, 3, 4, 5, 6, 7, 8] (fun _ _ _ n u i _ => RrInv s n u i) (fun _ _ _ _ _ i _ => 10 - (intOf i).toNat)
  case atStart => exact ⟨0, 0, 1, by omega, by omega, by decide, rfl, by omega, by omega, rfl, rfl, rfl, rfl⟩
  case round =>
    obtain ⟨k, acc, p, hk, hks, ha, hp, hp2, hap, rfl, rfl, rfl, hr⟩ := hrel
    have Hr := Lib.hid hr
    have Ha := Lib.hid ha
    have Hp := Lib.hid hp
    clear hr ha hp
    by_cases hsz : k < s.size
    · have e3 : ((k : Int) == s.size) = false := by simp; omega
      obtain ⟨c, hc⟩ : ∃ c : Nat, s[k].toNat = c := ⟨_, rfl⟩
      have hc2 : c < 256 := by rw [← hc]; exact s[k].toNat_lt
      have Hi := idx_str hsz hc
      have Hc := Lib.hid hc
      clear hc
      have form := fun (hb : (k = 9 ∧ 1 < c) ∨ (0 < k ∧ c = 0)) => RdPost.mk' (w := w) (Hr.out.trans (rdB_form (by omega) hsz Hc.out hb))
      have last := fun (hb : ¬ ((k = 9 ∧ 1 < c) ∨ (0 < k ∧ c = 0))) (h1 : c < 128) => RdPost.mk' (w := w) (Hr.out.trans (rdB_last (by omega) hsz Hc.out hb h1))
      have more := fun (hb : ¬ ((k = 9 ∧ 1 < c) ∨ (0 < k ∧ c = 0))) (h1 : ¬ c < 128) => Hr.out.trans (rdB_more (by omega) hsz Hc.out hb h1)
      have step := fun (h9 : k = 9 → c ≤ 1) => add_step (k := k) (by omega) hc2 h9 Ha.out Hp.out
      have step2 := fun (h9 : k = 9 → c ≤ 1) => (or_step (k := k) (by omega) hc2 h9 Ha.out).2
      have pst := fun (h9 : k < 9) => pow_step h9
      have Step := Lib.hid step
      have Step2 := Lib.hid step2
      have Pst := Lib.hid pst
      have Form := Lib.hid form
      have Last := Lib.hid last
      have More := Lib.hid more
      clear form last more step step2 pst
      by_cases k0 : k = 0
      · subst k0
        have Hi0 : ∀ W : World, (Instr.index 9 (.string s) (.int .i64 0)).run Try.prog W = .ok (.int .u8 (c : Int)) W := Hi
        clear Hi
        by_cases b0 : 1 ≤ c
        all_goals first | (have e2 : ((c : Int) == 0) = true := by simp; omega) | (have e2 : ((c : Int) == 0) = false := by simp; omega)
        all_goals go_wp2
        all_goals first
          | (have st := Step.out (by omega); go_ret3; rw [st]; exact Last.out (by omega) (by omega))
          | (have st := Step.out (by omega); have st2 := Step2.out (by omega); have sp := Pst.out (by omega); exact ⟨⟨1, _, _, by omega, by omega, st2.1, rfl, sp.2, st2.1, rfl, congrArg (Value.int .u64) st, congrArg (Value.int .u64) (by rw [Hp.out]; exact sp.1), More.out (by omega) (by omega)⟩, by simp only [intOf]; omega⟩)
      have k1 : 1 ≤ k := by omega
      clear k0
      by_cases b9 : 9 ≤ k <;> by_cases b0 : 1 ≤ c
      all_goals first | (have e1 : ((k : Int) == 9) = true := by simp; omega) | (have e1 : ((k : Int) == 9) = false := by simp; omega)
      all_goals first | (have e2 : ((c : Int) == 0) = true := by simp; omega) | (have e2 : ((c : Int) == 0) = false := by simp; omega)
      all_goals go_wp2
      all_goals first
        | (go_ret3; exact Form.out (by omega))
        | (have st := Step.out (by omega); go_ret3; rw [st]; exact Last.out (by omega) (by omega))
        | (have st := Step.out (by omega); have st2 := Step2.out (by omega); have sp := Pst.out (by omega); exact ⟨⟨k + 1, _, _, by omega, by omega, st2.1, rfl, sp.2, st2.1, by go_num, congrArg (Value.int .u64) st, congrArg (Value.int .u64) (by rw [Hp.out]; exact sp.1), More.out (by omega) (by omega)⟩, by simp only [intOf]; omega⟩)
    · have e3 : ((k : Int) == s.size) = true := by simp; omega
      have fin := Lib.hid (RdPost.mk' (w := w) (Hr.out.trans (rdB_short (by omega) (by omega))))
      go_wp2
      go_ret3
      exact fin.out
theorem rread_eq {s : ByteArray} {a k e : Nat} (h : rdNum s = (a, k, e)) (w : World) (hs : s.size ≤ 9223372036854775807) :
    Calls Try.prog 56 #[.string s] w fun x w' => x = .returned (.tuple #[.int .u64 (a : Int), .int .i64 (k : Int), .int .i64 (e : Int)]) ∧ w = w' :=
  (rread_any s w hs).mono fun _ _ ⟨h1, h2⟩ => ⟨by rw [h1, rdV_of h], h2⟩
end Go.Proofs.Ytonipllegfgdiaa
