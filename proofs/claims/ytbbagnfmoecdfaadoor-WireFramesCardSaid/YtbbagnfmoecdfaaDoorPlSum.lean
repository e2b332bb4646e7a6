/- The sum of bytes: plain. -/
import Derived.Test.YtbbagnfmoecdfaaDoorBase
set_option linter.unusedVariables false
set_option linter.unusedSimpArgs false
namespace Go.Proofs.YtbbagnfmoecdfaaDoor
/-- One bit's step. -/
def crcS (x : Nat) : Nat := (x / 2) ^^^ (x % 2 * 3988292384)
def crcN : Nat → Nat → Nat
  | 0, x => x
  | n + 1, x => crcS (crcN n x)
theorem crcS_lt {x : Nat} (h : x < 4294967296) : crcS x < 4294967296 := by
  unfold crcS
  exact Nat.xor_lt_two_pow (n := 32) (by omega) (by have : x % 2 < 2 := Nat.mod_lt _ (by omega); omega)
theorem crcN_lt {x : Nat} (h : x < 4294967296) : ∀ n, crcN n x < 4294967296
  | 0 => h
  | n + 1 => crcS_lt (crcN_lt h n)
theorem xor_div2 (a b : Nat) : (a ^^^ b) / 2 = (a / 2) ^^^ (b / 2) := by
  have := Nat.shiftRight_xor_distrib (a := a) (b := b) (i := 1)
  simpa [Nat.shiftRight_eq_div_pow] using this
theorem xor_mod2 (a b : Nat) : (a ^^^ b) % 2 = (a % 2) ^^^ (b % 2) := by
  have := Nat.xor_mod_two_pow (a := a) (b := b) (n := 1)
  simpa using this
theorem crcS_xor (a b : Nat) : crcS (a ^^^ b) = crcS a ^^^ crcS b := by
  unfold crcS
  rw [xor_div2, xor_mod2]
  have ha : a % 2 = 0 ∨ a % 2 = 1 := by omega
  have hb : b % 2 = 0 ∨ b % 2 = 1 := by omega
  rcases ha with ha | ha <;> rcases hb with hb | hb <;> rw [ha, hb]
  · simp
  · simp [Nat.xor_assoc]
  · simp only [Nat.zero_xor, Nat.xor_zero, Nat.one_mul, Nat.zero_mul]
    rw [Nat.xor_assoc, Nat.xor_assoc, Nat.xor_comm (b / 2)]
  · simp only [Nat.xor_self, Nat.one_mul, Nat.zero_mul, Nat.xor_zero]
    rw [show a / 2 ^^^ 3988292384 ^^^ (b / 2 ^^^ 3988292384) = a / 2 ^^^ b / 2 ^^^ (3988292384 ^^^ 3988292384) from by ac_rfl]
    simp
theorem crcN_xor (a b : Nat) : ∀ n, crcN n (a ^^^ b) = crcN n a ^^^ crcN n b
  | 0 => rfl
  | n + 1 => by rw [crcN, crcN_xor a b n, crcS_xor]; rfl
theorem crcN_high : ∀ n h, crcN n (2 ^ n * h) = h
  | 0, h => by simp [crcN]
  | n + 1, h => by
    have e : 2 ^ (n + 1) * h = 2 ^ n * (2 * h) := by rw [Nat.pow_succ, Nat.mul_assoc]
    rw [crcN, e, crcN_high n (2 * h)]
    unfold crcS
    simp
/-- Eight steps at once, by the low byte. -/
theorem crcN_byte (y : Nat) : crcN 8 y = (y / 256) ^^^ crcN 8 (y % 256) := by
  have e : y = (256 * (y / 256)) ^^^ (y % 256) := by
    have h := Nat.two_pow_add_eq_or_of_lt (i := 8) (b := y % 256) (by omega) (y / 256)
    have h2 : 2 ^ 8 * (y / 256) &&& y % 256 = 0 := by
      apply Nat.eq_of_testBit_eq
      intro i
      rw [Nat.testBit_and, Nat.zero_testBit, Nat.testBit_two_pow_mul]
      by_cases hi : 8 ≤ i
      · have : (y % 256).testBit i = false := Nat.testBit_lt_two_pow (Nat.lt_of_lt_of_le (show y % 256 < 2 ^ 8 by omega) (Nat.pow_le_pow_right (by omega) hi))
        simp [this]
      · simp [hi]
    have h3 : (256 * (y / 256)) ^^^ (y % 256) = 256 * (y / 256) ||| y % 256 := by
      apply Nat.eq_of_testBit_eq
      intro i
      have h4 := congrArg (fun z => z.testBit i) h2
      simp only [Nat.testBit_and, Nat.zero_testBit] at h4
      rw [Nat.testBit_xor, Nat.testBit_or]
      have h5 : (256 * (y / 256)) = 2 ^ 8 * (y / 256) := rfl
      rw [h5]
      revert h4
      cases (2 ^ 8 * (y / 256)).testBit i <;> cases (y % 256).testBit i <;> simp
    rw [h3]
    have h5 : (256 * (y / 256)) = 2 ^ 8 * (y / 256) := rfl
    rw [h5, ← h]
    omega
  have h1 : crcN 8 (256 * (y / 256)) = y / 256 := crcN_high 8 (y / 256)
  conv => lhs; rw [e, crcN_xor, h1]
/-- A byte more. -/
def crcB (x c : Nat) : Nat := (x / 256) ^^^ crcN 8 ((x % 256) ^^^ c)
theorem crcB_eq {x c : Nat} (hc : c < 256) : crcB x c = crcN 8 (x ^^^ c) := by
  rw [crcN_byte (x ^^^ c)]
  have e1 : (x ^^^ c) / 256 = x / 256 := by
    have := Nat.shiftRight_xor_distrib (a := x) (b := c) (i := 8)
    simp only [Nat.shiftRight_eq_div_pow] at this
    rw [show (256 : Nat) = 2 ^ 8 from rfl, this, show c / 2 ^ 8 = 0 from by omega, Nat.xor_zero]
  have e2 : (x ^^^ c) % 256 = (x % 256) ^^^ c := by
    have := Nat.xor_mod_two_pow (a := x) (b := c) (n := 8)
    rw [show (256 : Nat) = 2 ^ 8 from rfl, this, show c % 2 ^ 8 = c from by omega]
  rw [e1, e2]; rfl
theorem crcB_lt {x c : Nat} (hx : x < 4294967296) (hc : c < 256) : crcB x c < 4294967296 := by
  rw [crcB_eq hc]
  exact crcN_lt (Nat.xor_lt_two_pow (n := 32) hx (by omega)) 8
def crcL (l : List UInt8) : Nat := l.foldl (fun x c => crcB x c.toNat) 4294967295
theorem crcL_lt (l : List UInt8) : crcL l < 4294967296 := by
  unfold crcL
  have : ∀ (l : List UInt8) (x : Nat), x < 4294967296 → l.foldl (fun x c => crcB x c.toNat) x < 4294967296 := by
    intro l
    induction l with
    | nil => intro x h; exact h
    | cons c l ih => intro x h; exact ih _ (crcB_lt h c.toNat_lt)
  exact this l _ (by omega)
/-- The sum of bytes. -/
def crcSum (l : List UInt8) : Nat := 4294967295 - crcL l
/-- The program's step, in its own operations. -/
theorem crc_prog_step (x : Nat) (hx : x < 4294967296) : bits .xor .u32 ((x : Int) / 2) (bits .and .u32 (x : Int) 1 * 3988292384) = ((crcS x : Nat) : Int) ∧ 0 ≤ bits .and .u32 (x : Int) 1 ∧ bits .and .u32 (x : Int) 1 ≤ 1 := by
  have e1 : bits .and .u32 (x : Int) 1 = ((x % 2 : Nat) : Int) := by
    rw [show (1 : Int) = ((1 : Nat) : Int) from rfl, u32_and_nat x 1 hx (by omega), nat_mask1]
  rw [e1]
  refine ⟨?_, by omega, by omega⟩
  have e2 : ((x % 2 : Nat) : Int) * 3988292384 = ((x % 2 * 3988292384 : Nat) : Int) := by rw [Int.natCast_mul]; rfl
  have e3 : (x : Int) / 2 = ((x / 2 : Nat) : Int) := by omega
  rw [e2, e3, u32_xor_nat _ _ (by omega) (by have : x % 2 < 2 := Nat.mod_lt _ (by omega); omega)]
  rfl
/-- The index into the table, and the step by it. -/
theorem crc_idx (x c : Nat) (hc : c < 256) : bits .xor .u8 ((x : Int) % 256) (c : Int) = (((x % 256) ^^^ c : Nat) : Int) ∧ (x % 256) ^^^ c < 256 := by
  have e : (x : Int) % 256 = ((x % 256 : Nat) : Int) := by omega
  rw [e, u8_xor_nat _ _ (by omega) hc]
  exact ⟨rfl, Nat.xor_lt_two_pow (n := 8) (by omega) (by omega)⟩
theorem crc_tab_step (x y : Nat) (hx : x < 4294967296) (hy : y < 256) : bits .xor .u32 ((x : Int) / 256) ((crcN 8 y : Nat) : Int) = ((x / 256 ^^^ crcN 8 y : Nat) : Int) := by
  have e : (x : Int) / 256 = ((x / 256 : Nat) : Int) := by omega
  rw [e, u32_xor_nat _ _ (by omega) (crcN_lt (by omega) 8)]
theorem crcL_snoc (l : List UInt8) (c : UInt8) : crcL (l ++ [c]) = crcB (crcL l) c.toNat := by simp [crcL]
theorem nat_xor_ones32 (a : Nat) (h : a < 4294967296) : a ^^^ 4294967295 = 4294967295 - a := by
  have e : BitVec.ofNat 32 a ^^^ BitVec.allOnes 32 = ~~~ BitVec.ofNat 32 a := BitVec.xor_allOnes
  have e2 := congrArg BitVec.toNat e
  simp only [BitVec.toNat_xor, BitVec.toNat_not, BitVec.toNat_ofNat, BitVec.toNat_allOnes] at e2
  rw [Nat.mod_eq_of_lt (by omega)] at e2
  simpa using e2
theorem crc_not (x : Nat) (hx : x < 4294967296) : bits .xor .u32 IntKind.u32.max (x : Int) = ((4294967295 - x : Nat) : Int) := by
  have e : IntKind.u32.max = ((4294967295 : Nat) : Int) := rfl
  rw [e, u32_xor_nat _ _ (by omega) hx, Nat.xor_comm, nat_xor_ones32 x hx]
theorem crcS_even {n : Nat} (h : n % 2 = 0) : (n : Int) / 2 = ((crcS n : Nat) : Int) := by
  unfold crcS; rw [h]; simp
theorem crcS_odd {n : Nat} (hn : n < 4294967296) (h : n % 2 = 1) : bits .xor .u32 ((n : Int) / 2) 3988292384 = ((crcS n : Nat) : Int) := by
  have e : (n : Int) / 2 = ((n / 2 : Nat) : Int) := by omega
  rw [e, show (3988292384 : Int) = ((3988292384 : Nat) : Int) from rfl, u32_xor_nat _ _ (by omega) (by omega)]
  unfold crcS; rw [h]
end Go.Proofs.YtbbagnfmoecdfaaDoor
