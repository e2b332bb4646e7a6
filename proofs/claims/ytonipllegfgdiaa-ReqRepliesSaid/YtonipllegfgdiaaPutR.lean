/- The walk of the reference's Number. -/
import Derived.Test.YtonipllegfgdiaaPut
set_option linter.unusedVariables false
set_option linter.unusedSimpArgs false
namespace Go.Proofs.Ytonipllegfgdiaa
open Go.RowKit
/-- The reference's Number. -/
theorem rnumber_any : ∀ (f : Nat) (n : Int) (w : World), 0 ≤ n → n < 18446744073709551616 → n.toNat < 128 ^ f → 0 < f →
    Calls Try.prog 44 #[.int .u64 n] w (NumPost n.toNat w)
  | 0, _, _, _, _, _, h => absurd h (by omega)
  | f + 1, n, w, h0, h1, hf, _ => by
    by_cases hlt : n < 128
    · have hn := Lib.hid (numL_small (n := n.toNat) (by omega))
      clear hf
      go_enter Try.func44, Try.ntmps44
      go_wp2_with (go_at_call 54; refine (chr_any n _ h0 h1).mono ?_; rintro e w' ⟨rfl, hb⟩)
      go_ret
      exact ⟨ret_str (by rw [hn.out]), hb⟩
    · have hn := Lib.hid (numL_step (n := n.toNat) (by omega) (by omega))
      have ih := Lib.hid (rnumber_any f (n / 128))
      have hf' := Lib.hid (show (n / 128).toNat < 128 ^ f from by
        rw [Nat.pow_succ, Nat.mul_comm] at hf
        rw [show (n / 128).toNat = n.toNat / 128 from by omega]
        exact Nat.div_lt_of_lt_mul hf)
      have hf0 := Lib.hid (show 0 < f from by
        rcases Nat.eq_zero_or_pos f with h | h
        · subst h; simp at hf; omega
        · exact h)
      clear hf
      go_enter Try.func44, Try.ntmps44
      go_wp2_with fail
      refine Calls.mono (chr_any (n % 128 + 128) _ (by omega) (by omega)) ?_
      rintro e w1 ⟨rfl, hb1⟩
      go_wp2_with fail
      refine Calls.mono (ih.out w1 (by omega) (by omega) hf'.out hf0.out) ?_
      rintro e w2 ⟨rfl, hb2⟩
      have hb := hb1.trans (hb2.mono hb1.size)
      have hlen := (numL_length (n / 128).toNat).2
      clear hb1 hb2
      go_wp2
      go_ret
      refine ⟨ret_str ?_, hb⟩
      rw [hn.out, show (n % 128 + 128).toNat = n.toNat % 128 + 128 from by omega, show (n / 128).toNat = n.toNat / 128 from by omega, ByteArray.mk_append_mk]
      simp
end Go.Proofs.Ytonipllegfgdiaa
