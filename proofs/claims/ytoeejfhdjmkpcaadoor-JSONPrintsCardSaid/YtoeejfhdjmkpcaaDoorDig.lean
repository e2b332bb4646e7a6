/- The walk of the reference's Digits. -/
import Derived.Test.YtoeejfhdjmkpcaaDoorPut
import Derived.Test.YtoeejfhdjmkpcaaDoorPlJson
set_option linter.unusedVariables false
set_option linter.unusedSimpArgs false
namespace Go.Proofs.YtoeejfhdjmkpcaaDoor
open Go.RowKit
theorem dec_small {u : Nat} (h : u < 10) : Lib.decDigits u = [UInt8.ofNat (48 + u)] := by rw [Lib.decDigits, dif_pos h]
theorem dec_step {u : Nat} (h : ¬ u < 10) : Lib.decDigits u = Lib.decDigits (u / 10) ++ [UInt8.ofNat (48 + u % 10)] := by rw [Lib.decDigits, dif_neg h]
theorem dec_len : ∀ (f u : Nat), u < 10 ^ f → 0 < f → (Lib.decDigits u).length ≤ f
  | 0, _, _, h => absurd h (by omega)
  | f + 1, u, hu, _ => by
    by_cases h : u < 10
    · rw [dec_small h]; simp
    · rw [dec_step h]
      have h1 : u / 10 < 10 ^ f := by rw [Nat.pow_succ, Nat.mul_comm] at hu; exact Nat.div_lt_of_lt_mul hu
      have h2 : 0 < f := by
        rcases Nat.eq_zero_or_pos f with h' | h'
        · subst h'; simp at hu; omega
        · exact h'
      have := dec_len f (u / 10) h1 h2
      simp; omega
def DgPost (n : Int) (w : World) (e : Ending) (w' : World) : Prop := e = .returned (.string ⟨(Lib.itoa n).toArray⟩) ∧ Below w.heap.size w w'
set_option maxRecDepth 100000 in
theorem dig_pos : ∀ (f : Nat) (n : Int) (w : World), 0 ≤ n → n ≤ 9223372036854775807 → n.toNat < 10 ^ f → 0 < f →
    Calls Tryd.prog 11 #[.int .i64 n] w fun e w' => e = .returned (.string ⟨(Lib.decDigits n.toNat).toArray⟩) ∧ Below w.heap.size w w'
  | 0, _, _, _, _, _, h => absurd h (by omega)
  | f + 1, n, w, h0, h1, hf, _ => by
    have d1 : decide (n < 0) = false := decide_eq_false (by omega)
    by_cases hlt : n < 10
    · have hn := Lib.hid (dec_small (u := n.toNat) (by omega))
      have d2 : decide (n < 10) = true := decide_eq_true hlt
      clear hf
      go_enter Tryd.func11, Tryd.ntmps11
      go_wp2_with fail
      refine (chr_any (48 + n) _ (by omega) (by omega)).mono ?_
      rintro e w' ⟨rfl, hb⟩
      go_wp2
      go_ret
      exact ⟨ret_str (by rw [hn.out, show (48 + n).toNat = 48 + n.toNat by omega]), hb⟩
    · have hn := Lib.hid (dec_step (u := n.toNat) (by omega))
      have d2 : decide (n < 10) = false := decide_eq_false hlt
      have ih := Lib.hid (dig_pos f (n / 10))
      have hf' := Lib.hid (show (n / 10).toNat < 10 ^ f from by
        rw [Nat.pow_succ, Nat.mul_comm] at hf
        rw [show (n / 10).toNat = n.toNat / 10 from by omega]
        exact Nat.div_lt_of_lt_mul hf)
      have hf0 := Lib.hid (show 0 < f from by
        rcases Nat.eq_zero_or_pos f with h | h
        · subst h; simp at hf; omega
        · exact h)
      have hln := dec_len 19 (n / 10).toNat (by have : (10 : Nat) ^ 19 = 10000000000000000000 := by decide
                                                omega) (by decide)
      clear hf
      go_enter Tryd.func11, Tryd.ntmps11
      go_wp2_with fail
      refine Calls.mono (ih.out _ (by omega) (by omega) hf'.out hf0.out) ?_
      rintro e w1 ⟨rfl, hb1⟩
      go_wp2_with fail
      refine Calls.mono (chr_any (48 + n % 10) _ (by omega) (by omega)) ?_
      rintro e w2 ⟨rfl, hb2⟩
      have hb := hb1.trans (hb2.mono hb1.size)
      clear hb1 hb2
      have hsz : (⟨(Lib.decDigits (n / 10).toNat).toArray⟩ : ByteArray).size ≤ 19 := by show (Lib.decDigits (n / 10).toNat).toArray.size ≤ 19; simpa using hln
      go_wp2
      go_ret
      refine ⟨ret_str ?_, hb⟩
      rw [hn.out, show (48 + n % 10).toNat = 48 + n.toNat % 10 from by omega, show (n / 10).toNat = n.toNat / 10 from by omega, ByteArray.mk_append_mk]
      try simp
set_option maxRecDepth 100000 in
theorem dig_any (n : Int) (w : World) (h0 : -9223372036854775807 ≤ n) (h1 : n ≤ 9223372036854775807) : Calls Tryd.prog 11 #[.int .i64 n] w (DgPost n w) := by
  have hp : (10 : Nat) ^ 19 = 10000000000000000000 := by decide
  by_cases hn : n < 0
  · have d1 : decide (n < 0) = true := decide_eq_true hn
    have H := Lib.hid (dig_pos 19 (-n) w (by omega) (by omega) (by omega) (by decide))
    have hln := dec_len 19 (-n).toNat (by omega) (by decide)
    have Hi := Lib.hid (show Lib.itoa n = 45 :: Lib.decDigits (-n).toNat by unfold Lib.itoa; rw [if_pos hn, show n.natAbs = (-n).toNat by omega])
    unfold DgPost
    go_enter Tryd.func11, Tryd.ntmps11
    go_wp2_with fail
    refine Calls.mono H.out ?_
    rintro e w1 ⟨rfl, hb1⟩
    go_wp2
    go_ret
    refine ⟨ret_str ?_, hb1⟩
    rw [Hi.out, ByteArray.mk_append_mk]
    simp
  · have H := dig_pos 19 n w (by omega) h1 (by omega) (by decide)
    unfold DgPost
    rw [show Lib.itoa n = Lib.decDigits n.toNat by unfold Lib.itoa; rw [if_neg hn]]
    exact H
theorem itoa_len (n : Int) (h0 : -9223372036854775808 ≤ n) (h1 : n ≤ 9223372036854775807) : (Lib.itoa n).length ≤ 20 := by
  have hp : (10 : Nat) ^ 19 = 10000000000000000000 := by decide
  unfold Lib.itoa
  split
  · have := dec_len 19 n.natAbs (by omega) (by decide)
    simp; omega
  · have := dec_len 19 n.toNat (by omega) (by decide)
    omega
end Go.Proofs.YtoeejfhdjmkpcaaDoor
