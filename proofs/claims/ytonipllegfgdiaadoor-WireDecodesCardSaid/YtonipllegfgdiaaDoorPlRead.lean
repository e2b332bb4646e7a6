/- Reading a number: plain. -/
import Derived.Test.YtonipllegfgdiaaDoorPlNum
import Derived.Laws.Bits64b
namespace Go.Proofs.YtonipllegfgdiaaDoor
/-- From place i on, with what has been read; f: how many bytes may still come. The number, how many bytes it has, the error. -/
def rdB (s : ByteArray) : Nat → Nat → Nat → Nat × Nat × Nat
  | 0, _, _ => (0, 0, 4)
  | f + 1, i, acc =>
    if h : i < s.size then
      if (i = 9 ∧ 1 < s[i].toNat) ∨ (0 < i ∧ s[i].toNat = 0) then (0, 0, 4)
      else if s[i].toNat < 128 then (acc + s[i].toNat % 128 * 128 ^ i, i + 1, 0)
      else rdB s f (i + 1) (acc + s[i].toNat % 128 * 128 ^ i)
    else (0, 0, 3)
def rdNum (s : ByteArray) : Nat × Nat × Nat := rdB s 10 0 0
def rdV (s : ByteArray) : Value := .tuple #[.int .u64 ((rdNum s).1 : Int), .int .i64 ((rdNum s).2.1 : Int), .int .i64 ((rdNum s).2.2 : Int)]
theorem rdV_of {s : ByteArray} {a k e : Nat} (h : rdNum s = (a, k, e)) : rdV s = .tuple #[.int .u64 (a : Int), .int .i64 (k : Int), .int .i64 (e : Int)] := by unfold rdV; rw [h]
section
variable {s : ByteArray} {k acc c : Nat}
theorem rdB_short (hk : k < 10) (h : s.size ≤ k) : rdB s (10 - k) k acc = (0, 0, 3) := by
  rw [show 10 - k = (9 - k) + 1 from by omega, rdB, dif_neg (by omega)]
theorem rdB_form (hk : k < 10) (h : k < s.size) (hc : s[k].toNat = c) (hb : (k = 9 ∧ 1 < c) ∨ (0 < k ∧ c = 0)) : rdB s (10 - k) k acc = (0, 0, 4) := by
  rw [show 10 - k = (9 - k) + 1 from by omega, rdB, dif_pos h, hc, if_pos hb]
theorem rdB_last (hk : k < 10) (h : k < s.size) (hc : s[k].toNat = c) (hb : ¬ ((k = 9 ∧ 1 < c) ∨ (0 < k ∧ c = 0))) (h1 : c < 128) : rdB s (10 - k) k acc = (acc + c % 128 * 128 ^ k, k + 1, 0) := by
  rw [show 10 - k = (9 - k) + 1 from by omega, rdB, dif_pos h, hc, if_neg hb, if_pos h1]
theorem rdB_more (hk : k < 10) (h : k < s.size) (hc : s[k].toNat = c) (hb : ¬ ((k = 9 ∧ 1 < c) ∨ (0 < k ∧ c = 0))) (h1 : ¬ c < 128) : rdB s (10 - k) k acc = rdB s (10 - (k + 1)) (k + 1) (acc + c % 128 * 128 ^ k) := by
  rw [show 10 - k = (9 - k) + 1 from by omega, rdB, dif_pos h, hc, if_neg hb, if_neg h1, show 10 - (k + 1) = 9 - k from by omega]
theorem pow7 (k : Nat) : 128 ^ k = 2 ^ (7 * k) := by rw [Nat.pow_mul]
/-- What the program's shift and or come to. -/
theorem or_step (hk : k < 10) (hc : c < 256) (h9 : k = 9 → c ≤ 1) (ha : acc < 128 ^ k) :
    bits .or .u64 (acc : Int) (IntKind.u64.wrap (IntKind.u64.wrap (bits .and .u8 (c : Int) 127) * 2 ^ (7 * k))) = ((acc + c % 128 * 128 ^ k : Nat) : Int) ∧ acc + c % 128 * 128 ^ k < 128 ^ (k + 1) ∧ acc + c % 128 * 128 ^ k < 18446744073709551616 := by
  have e1 : bits .and .u8 (c : Int) 127 = ((c % 128 : Nat) : Int) := by
    rw [show (127 : Int) = ((127 : Nat) : Int) from rfl, u8_and_nat c 127 hc (by omega), nat_mask7]
  have e2 : IntKind.u64.wrap ((c % 128 : Nat) : Int) = ((c % 128 : Nat) : Int) := by rw [IntKind.wrap_u64]; omega
  have hp : c % 128 * 128 ^ k < 18446744073709551616 ∧ acc + c % 128 * 128 ^ k < 18446744073709551616 ∧ acc + c % 128 * 128 ^ k < 128 ^ (k + 1) := by
    have h3 : acc + c % 128 * 128 ^ k < 128 ^ (k + 1) := by
      have : c % 128 * 128 ^ k ≤ 127 * 128 ^ k := Nat.mul_le_mul_right _ (by omega)
      rw [Nat.pow_succ]; omega
    have h4 : acc + c % 128 * 128 ^ k < 18446744073709551616 := by
      by_cases h : k = 9
      · have := h9 h
        subst h
        have : c % 128 * 128 ^ 9 ≤ 1 * 128 ^ 9 := Nat.mul_le_mul_right _ (by omega)
        omega
      · have : (128 : Nat) ^ (k + 1) ≤ 128 ^ 9 := Nat.pow_le_pow_right (by omega) (by omega)
        omega
    exact ⟨by omega, h4, h3⟩
  have e3 : IntKind.u64.wrap (((c % 128 : Nat) : Int) * 2 ^ (7 * k)) = ((c % 128 * 128 ^ k : Nat) : Int) := by
    rw [IntKind.wrap_u64, pow7]
    have e4 : ((c % 128 : Nat) : Int) * 2 ^ (7 * k) = ((c % 128 * 2 ^ (7 * k) : Nat) : Int) := by
      rw [Int.natCast_mul, Int.natCast_pow]; rfl
    have := hp.1
    rw [pow7] at this
    rw [e4]; omega
  refine ⟨?_, hp.2.2, hp.2.1⟩
  rw [e1, e2, e3, bits_or_u64_nat _ _ (by omega) hp.1, Nat.or_comm, nat_join (7 * k) _ _ (by rw [pow7]; exact Nat.mul_mod_left _ _) (by rw [← pow7]; exact ha), Nat.add_comm]
/-- What the reference's product and sum come to. -/
theorem add_step {p : Nat} (hk : k < 10) (hc : c < 256) (h9 : k = 9 → c ≤ 1) (ha : acc < 128 ^ k) (hp : p = 128 ^ k) :
    IntKind.u64.wrap ((acc : Int) + IntKind.u64.wrap ((c : Int) % 128 * (p : Int))) = ((acc + c % 128 * 128 ^ k : Nat) : Int) := by
  obtain ⟨_, h2, h3⟩ := or_step hk hc h9 ha
  subst hp
  have e : (c : Int) % 128 * ((128 ^ k : Nat) : Int) = ((c % 128 * 128 ^ k : Nat) : Int) := by rw [Int.natCast_mul]; rfl
  rw [e, IntKind.wrap_u64, IntKind.wrap_u64]
  omega
theorem pow_step (hk : k < 9) : IntKind.u64.wrap (((128 ^ k : Nat) : Int) * 128) = ((128 ^ (k + 1) : Nat) : Int) ∧ 128 ^ (k + 1) ≤ 9223372036854775808 := by
  have : (128 : Nat) ^ (k + 1) ≤ 128 ^ 9 := Nat.pow_le_pow_right (by omega) (by omega)
  have e : (128 : Nat) ^ (k + 1) = 128 ^ k * 128 := Nat.pow_succ ..
  rw [IntKind.wrap_u64]
  omega
end
end Go.Proofs.YtonipllegfgdiaaDoor
