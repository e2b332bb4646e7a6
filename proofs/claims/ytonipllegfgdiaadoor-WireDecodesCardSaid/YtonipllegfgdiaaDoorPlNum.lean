/- Numbers as bytes: plain lists. -/
import Derived.Test.YtonipllegfgdiaaDoorPl
namespace Go.Proofs.YtonipllegfgdiaaDoor
/-- The bytes of a number, seven bits each, the last below 128; at most f + 1 of them. -/
def numF : Nat → Nat → List UInt8
  | 0, n => [UInt8.ofNat n]
  | f + 1, n => if n < 128 then [UInt8.ofNat n] else UInt8.ofNat (n % 128 + 128) :: numF f (n / 128)
def numL (n : Nat) : List UInt8 := numF 10 n
theorem numF_small {f n : Nat} (h : n < 128) : numF f n = [UInt8.ofNat n] := by
  cases f with
  | zero => rfl
  | succ f => rw [numF, if_pos h]
theorem numF_more : ∀ (f g n : Nat), n < 128 ^ (f + 1) → n < 128 ^ (g + 1) → numF f n = numF g n
  | 0, g, n, h, _ => by rw [numF_small (by simpa using h), numF_small (by simpa using h)]
  | f + 1, 0, n, _, h' => by rw [numF_small (by simpa using h'), numF_small (by simpa using h')]
  | f + 1, g + 1, n, h, h' => by
    unfold numF
    split
    · rfl
    · rw [numF_more f g (n / 128) (Nat.div_lt_of_lt_mul (by rw [Nat.pow_succ, Nat.mul_comm] at h; exact h)) (Nat.div_lt_of_lt_mul (by rw [Nat.pow_succ, Nat.mul_comm] at h'; exact h'))]
theorem numL_small {n : Nat} (h : n < 128) : numL n = [UInt8.ofNat n] := numF_small h
theorem numL_step {n : Nat} (h : 128 ≤ n) (h' : n < 18446744073709551616) : numL n = UInt8.ofNat (n % 128 + 128) :: numL (n / 128) := by
  unfold numL
  rw [numF, if_neg (by omega), numF_more 9 10 (n / 128) (by omega) (by omega)]
theorem numF_length : ∀ f n, 1 ≤ (numF f n).length ∧ (numF f n).length ≤ f + 1
  | 0, n => by simp [numF]
  | f + 1, n => by
    unfold numF
    split
    · simp
    · have := numF_length f (n / 128)
      simp; omega
theorem numL_length (n : Nat) : 1 ≤ (numL n).length ∧ (numL n).length ≤ 11 := numF_length 10 n
theorem byte_low (n : Int) (h : 0 ≤ n) (h' : n < 18446744073709551616) : bits .or .u8 (n % 256) 128 = (((UInt8.ofNat (n.toNat % 128 + 128)).toNat : Nat) : Int) := by
  obtain ⟨m, rfl⟩ := Int.eq_ofNat_of_zero_le h
  rw [u8_or _ _ (by omega) (by omega) (by omega) (by omega)]
  have e1 : (((m : Int) % 256).toNat : Nat) = m % 256 := by omega
  have e2 : (128 : Int).toNat = 128 := rfl
  have e3 : (UInt8.ofNat ((m : Int).toNat % 128 + 128)).toNat = m % 128 + 128 := by
    rw [UInt8.toNat_ofNat']; simp; omega
  rw [e1, e2, e3]
  have key : ∀ x : Fin 256, (x.val ||| 128) = x.val % 128 + 128 := by decide +kernel
  have := key ⟨m % 256, by omega⟩
  simp only at this
  rw [this]
  omega
end Go.Proofs.YtonipllegfgdiaaDoor
