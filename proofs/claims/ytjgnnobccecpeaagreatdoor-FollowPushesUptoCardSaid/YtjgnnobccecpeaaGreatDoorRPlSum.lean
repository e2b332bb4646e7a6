/- Of the proof of a statement: PlRdF, PlSum, Put, Read, Outside, Tabs, PlUtf. -/
import Derived.Shelf.Unicode.ValidAny
import Derived.Lib.LaidU8T
import Derived.Lib.ValidLaws
import Derived.Test.YtjgnnobccecpeaaGreatDoorRPush
set_option linter.unusedVariables false
set_option linter.unusedSimpArgs false
set_option maxRecDepth 100000
set_option maxHeartbeats 8000000
/- What reading a number gives: its bounds. -/
namespace Go.Proofs.YtjgnnobccecpeaaGreatDoor
open Go.Lib (hid)
theorem rdB_facts (s : ByteArray) : ∀ (f k acc : Nat), f + k = 10 → k ≤ s.size → acc < 128 ^ k → ∀ a n e, rdB s f k acc = (a, n, e) → a < 18446744073709551616 ∧ n ≤ 10 ∧ e ≤ 4 ∧ (e = 0 → 1 ≤ n ∧ n ≤ s.size)
 | 0, k, acc, _, _, _, a, n, e, h => by
  simp only [rdB, Prod.mk.injEq] at h
  omega
 | f + 1, k, acc, hf, hk, ha, a, n, e, h => by
  rw [rdB] at h
  by_cases hs : k < s.size
  · rw [dif_pos hs] at h
    have hc : s[k].toNat < 256 := s[k].toNat_lt
    by_cases hb : (k = 9 ∧ 1 < s[k].toNat) ∨ (0 < k ∧ s[k].toNat = 0)
    · rw [if_pos hb] at h
      simp only [Prod.mk.injEq] at h
      omega
    · rw [if_neg hb] at h
      obtain ⟨_, h2, h3⟩ := or_step (k := k) (acc := acc) (c := s[k].toNat) (by omega) hc (by omega) ha
      by_cases h1 : s[k].toNat < 128
      · rw [if_pos h1] at h
        simp only [Prod.mk.injEq] at h
        obtain ⟨rfl, rfl, rfl⟩ := h
        exact ⟨h3, by omega, by omega, fun _ => ⟨by omega, by omega⟩⟩
      · rw [if_neg h1] at h
        exact rdB_facts s f (k + 1) _ (by omega) (by omega) h2 a n e h
  · rw [dif_neg hs] at h
    simp only [Prod.mk.injEq] at h
    omega
theorem rdNum_facts {s : ByteArray} {a n e : Nat} (h : rdNum s = (a, n, e)) : a < 18446744073709551616 ∧ n ≤ 10 ∧ e ≤ 4 ∧ (e = 0 → 1 ≤ n ∧ n ≤ s.size) :=
 rdB_facts s 10 0 0 rfl (Nat.zero_le _) (by decide) a n e h
end Go.Proofs.YtjgnnobccecpeaaGreatDoor
/- The sum of bytes: plain. -/
namespace Go.Proofs.YtjgnnobccecpeaaGreatDoor
open Go.Lib (hid)
def crcS (x : Nat) : Nat := (x / 2) ^^^ (x % 2 * 3988292384)
def crcN : Nat → Nat → Nat
 | 0, x => x
 | n + 1, x => crcS (crcN n x)
theorem crcS_lt {x : Nat} (h : x < 4294967296) : crcS x < 4294967296 := by
 unfold crcS
 exact Nat.xor_lt_two_pow (n := 32) (by omega) (by have : x % 2 < 2 := Nat.mod_lt _ (by omega); omega)
theorem crcN_lt {x : Nat} (h : x < 4294967296) : ∀ n, crcN n x < 4294967296
 | 0 => h
 | n + 1 => crcS_lt (crcN_lt h n)
theorem xor_div2 (a b : Nat) : (a ^^^ b) / 2 = (a / 2) ^^^ (b / 2) := by
 have := Nat.shiftRight_xor_distrib (a := a) (b := b) (i := 1)
 simpa [Nat.shiftRight_eq_div_pow] using this
theorem xor_mod2 (a b : Nat) : (a ^^^ b) % 2 = (a % 2) ^^^ (b % 2) := by
 have := Nat.xor_mod_two_pow (a := a) (b := b) (n := 1)
 simpa using this
theorem crcS_xor (a b : Nat) : crcS (a ^^^ b) = crcS a ^^^ crcS b := by
 unfold crcS
 rw [xor_div2, xor_mod2]
 have ha : a % 2 = 0 ∨ a % 2 = 1 := by omega
 have hb : b % 2 = 0 ∨ b % 2 = 1 := by omega
 rcases ha with ha | ha <;> rcases hb with hb | hb <;> rw [ha, hb]
 · simp
 · simp [Nat.xor_assoc]
 · simp only [Nat.zero_xor, Nat.xor_zero, Nat.one_mul, Nat.zero_mul]
   rw [Nat.xor_assoc, Nat.xor_assoc, Nat.xor_comm (b / 2)]
 · simp only [Nat.xor_self, Nat.one_mul, Nat.zero_mul, Nat.xor_zero]
   rw [show a / 2 ^^^ 3988292384 ^^^ (b / 2 ^^^ 3988292384) = a / 2 ^^^ b / 2 ^^^ (3988292384 ^^^ 3988292384) from by ac_rfl]
   simp
theorem crcN_xor (a b : Nat) : ∀ n, crcN n (a ^^^ b) = crcN n a ^^^ crcN n b
 | 0 => rfl
 | n + 1 => by rw [crcN, crcN_xor a b n, crcS_xor]; rfl
theorem crcN_high : ∀ n h, crcN n (2 ^ n * h) = h
 | 0, h => by simp [crcN]
 | n + 1, h => by
  have e : 2 ^ (n + 1) * h = 2 ^ n * (2 * h) := by rw [Nat.pow_succ, Nat.mul_assoc]
  rw [crcN, e, crcN_high n (2 * h)]
  unfold crcS
  simp
theorem crcN_byte (y : Nat) : crcN 8 y = (y / 256) ^^^ crcN 8 (y % 256) := by
 have e : y = (256 * (y / 256)) ^^^ (y % 256) := by
  have h := Nat.two_pow_add_eq_or_of_lt (i := 8) (b := y % 256) (by omega) (y / 256)
  have h2 : 2 ^ 8 * (y / 256) &&& y % 256 = 0 := by
   apply Nat.eq_of_testBit_eq
   intro i
   rw [Nat.testBit_and, Nat.zero_testBit, Nat.testBit_two_pow_mul]
   by_cases hi : 8 ≤ i
   · have : (y % 256).testBit i = false := Nat.testBit_lt_two_pow (Nat.lt_of_lt_of_le (show y % 256 < 2 ^ 8 by omega) (Nat.pow_le_pow_right (by omega) hi))
     simp [this]
   · simp [hi]
  have h3 : (256 * (y / 256)) ^^^ (y % 256) = 256 * (y / 256) ||| y % 256 := by
   apply Nat.eq_of_testBit_eq
   intro i
   have h4 := congrArg (fun z => z.testBit i) h2
   simp only [Nat.testBit_and, Nat.zero_testBit] at h4
   rw [Nat.testBit_xor, Nat.testBit_or]
   have h5 : (256 * (y / 256)) = 2 ^ 8 * (y / 256) := rfl
   rw [h5]
   revert h4
   cases (2 ^ 8 * (y / 256)).testBit i <;> cases (y % 256).testBit i <;> simp
  rw [h3]
  have h5 : (256 * (y / 256)) = 2 ^ 8 * (y / 256) := rfl
  rw [h5, ← h]
  omega
 have h1 : crcN 8 (256 * (y / 256)) = y / 256 := crcN_high 8 (y / 256)
 conv => lhs; rw [e, crcN_xor, h1]
def crcB (x c : Nat) : Nat := (x / 256) ^^^ crcN 8 ((x % 256) ^^^ c)
theorem crcB_eq {x c : Nat} (hc : c < 256) : crcB x c = crcN 8 (x ^^^ c) := by
 rw [crcN_byte (x ^^^ c)]
 have e1 : (x ^^^ c) / 256 = x / 256 := by
  have := Nat.shiftRight_xor_distrib (a := x) (b := c) (i := 8)
  simp only [Nat.shiftRight_eq_div_pow] at this
  rw [show (256 : Nat) = 2 ^ 8 from rfl, this, show c / 2 ^ 8 = 0 from by omega, Nat.xor_zero]
 have e2 : (x ^^^ c) % 256 = (x % 256) ^^^ c := by
  have := Nat.xor_mod_two_pow (a := x) (b := c) (n := 8)
  rw [show (256 : Nat) = 2 ^ 8 from rfl, this, show c % 2 ^ 8 = c from by omega]
 rw [e1, e2]; rfl
theorem crcB_lt {x c : Nat} (hx : x < 4294967296) (hc : c < 256) : crcB x c < 4294967296 := by
 rw [crcB_eq hc]
 exact crcN_lt (Nat.xor_lt_two_pow (n := 32) hx (by omega)) 8
def crcL (l : List UInt8) : Nat := l.foldl (fun x c => crcB x c.toNat) 4294967295
theorem crcL_lt (l : List UInt8) : crcL l < 4294967296 := by
 unfold crcL
 have : ∀ (l : List UInt8) (x : Nat), x < 4294967296 → l.foldl (fun x c => crcB x c.toNat) x < 4294967296 := by
  intro l
  induction l with
  | nil => intro x h; exact h
  | cons c l ih => intro x h; exact ih _ (crcB_lt h c.toNat_lt)
 exact this l _ (by omega)
def crcSum (l : List UInt8) : Nat := 4294967295 - crcL l
theorem crc_prog_step (x : Nat) (hx : x < 4294967296) : bits .xor .u32 ((x : Int) / 2) (bits .and .u32 (x : Int) 1 * 3988292384) = ((crcS x : Nat) : Int) ∧ 0 ≤ bits .and .u32 (x : Int) 1 ∧ bits .and .u32 (x : Int) 1 ≤ 1 := by
 have e1 : bits .and .u32 (x : Int) 1 = ((x % 2 : Nat) : Int) := by
  rw [show (1 : Int) = ((1 : Nat) : Int) from rfl, u32_and_nat x 1 hx (by omega), nat_mask1]
 rw [e1]
 refine ⟨?_, by omega, by omega⟩
 have e2 : ((x % 2 : Nat) : Int) * 3988292384 = ((x % 2 * 3988292384 : Nat) : Int) := by rw [Int.natCast_mul]; rfl
 have e3 : (x : Int) / 2 = ((x / 2 : Nat) : Int) := by omega
 rw [e2, e3, u32_xor_nat _ _ (by omega) (by have : x % 2 < 2 := Nat.mod_lt _ (by omega); omega)]
 rfl
theorem crc_idx (x c : Nat) (hc : c < 256) : bits .xor .u8 ((x : Int) % 256) (c : Int) = (((x % 256) ^^^ c : Nat) : Int) ∧ (x % 256) ^^^ c < 256 := by
 have e : (x : Int) % 256 = ((x % 256 : Nat) : Int) := by omega
 rw [e, u8_xor_nat _ _ (by omega) hc]
 exact ⟨rfl, Nat.xor_lt_two_pow (n := 8) (by omega) (by omega)⟩
theorem crc_tab_step (x y : Nat) (hx : x < 4294967296) (hy : y < 256) : bits .xor .u32 ((x : Int) / 256) ((crcN 8 y : Nat) : Int) = ((x / 256 ^^^ crcN 8 y : Nat) : Int) := by
 have e : (x : Int) / 256 = ((x / 256 : Nat) : Int) := by omega
 rw [e, u32_xor_nat _ _ (by omega) (crcN_lt (by omega) 8)]
theorem crcL_snoc (l : List UInt8) (c : UInt8) : crcL (l ++ [c]) = crcB (crcL l) c.toNat := by simp [crcL]
theorem nat_xor_ones32 (a : Nat) (h : a < 4294967296) : a ^^^ 4294967295 = 4294967295 - a := by
 have e : BitVec.ofNat 32 a ^^^ BitVec.allOnes 32 = ~~~ BitVec.ofNat 32 a := BitVec.xor_allOnes
 have e2 := congrArg BitVec.toNat e
 simp only [BitVec.toNat_xor, BitVec.toNat_not, BitVec.toNat_ofNat, BitVec.toNat_allOnes] at e2
 rw [Nat.mod_eq_of_lt (by omega)] at e2
 simpa using e2
theorem crc_not (x : Nat) (hx : x < 4294967296) : bits .xor .u32 IntKind.u32.max (x : Int) = ((4294967295 - x : Nat) : Int) := by
 have e : IntKind.u32.max = ((4294967295 : Nat) : Int) := rfl
 rw [e, u32_xor_nat _ _ (by omega) hx, Nat.xor_comm, nat_xor_ones32 x hx]
theorem crcS_even {n : Nat} (h : n % 2 = 0) : (n : Int) / 2 = ((crcS n : Nat) : Int) := by
 unfold crcS; rw [h]; simp
theorem crcS_odd {n : Nat} (hn : n < 4294967296) (h : n % 2 = 1) : bits .xor .u32 ((n : Int) / 2) 3988292384 = ((crcS n : Nat) : Int) := by
 have e : (n : Int) / 2 = ((n / 2 : Nat) : Int) := by omega
 rw [e, show (3988292384 : Int) = ((3988292384 : Nat) : Int) from rfl, u32_xor_nat _ _ (by omega) (by omega)]
 unfold crcS; rw [h]
end Go.Proofs.YtjgnnobccecpeaaGreatDoor
/- The walks of Put and Number, in the program and in the reference. -/
namespace Go.Proofs.YtjgnnobccecpeaaGreatDoor
open Go.Lib (hid)
open Go.RowKit
theorem chr_any (n : Int) (w : World) (h0 : 0 ≤ n) (h1 : n < 18446744073709551616) :
 Calls Tryz.prog 168 #[.int .u64 n] w fun e w' => e = .returned (.string ⟨#[UInt8.ofNat n.toNat]⟩) ∧ Below w.heap.size w w' := by
 have hb : n % 256 = (((UInt8.ofNat n.toNat).toNat : Nat) : Int) := by rw [UInt8.toNat_ofNat']; omega
 have hrun := run_string_new (P := Tryz.prog) (w := w) (n := 1) (c := 1) (cs := #[.int .u8 (n % 256)]) (l := [UInt8.ofNat n.toNat]) Tryz.underlying221 Tryz.underlying5 Tryz.underlying9 (by simp [bytesV, hb]) rfl
 clear hb
 go_enter Tryz.func168, Tryz.ntmps168
 go_wp2
 go_ret
 exact ⟨rfl, (Below.refl _ _).alloc (Nat.le_refl _) _⟩
end Go.Proofs.YtjgnnobccecpeaaGreatDoor
/- The walks of ReadNumber, in the program and in the reference. -/
namespace Go.Proofs.YtjgnnobccecpeaaGreatDoor
open Go.Lib (hid)
open Go.RowKit
theorem idx_str {s : ByteArray} {k c : Nat} (h : k < s.size) (hc : s[k].toNat = c) (W : World) : (Instr.index 9 (.string s) (.int .i64 (k : Int))).run Tryz.prog W = .ok (.int .u8 (c : Int)) W := by
 rw [run_index_string W 9 s .i64 (k : Int) Tryz.underlying9, dif_pos ⟨by omega, by omega⟩]
 subst hc
 simp only [Int.toNat_natCast]
def RdPost (s : ByteArray) (w : World) (e : Ending) (w' : World) : Prop := e = .returned (rdV s) ∧ w = w'
theorem RdPost.mk' {s : ByteArray} {w : World} {a k e : Nat} (h : rdNum s = (a, k, e)) : RdPost s w (.returned (.tuple #[.int .u64 (a : Int), .int .i64 (k : Int), .int .i64 (e : Int)])) w := ⟨by rw [rdV_of h], rfl⟩
def RdInv (s : ByteArray) (n i : Value) : Prop := ∃ (k acc : Nat), k ≤ 9 ∧ k ≤ s.size ∧ acc < 128 ^ k ∧ i = .int .i64 k ∧ n = .int .u64 acc ∧ rdNum s = rdB s (10 - k) k acc
theorem read_any (s : ByteArray) (w : World) (hs : s.size ≤ 9223372036854775807) :
 Calls Tryz.prog 227 #[.string s] w (RdPost s w) := by
 go_enter Tryz.func227, Tryz.ntmps227
 go_wp2
 go_loop [2, 3, 4, 5, 6, 7, 8, 10] (fun _ _ _ n _ _ i _ => RdInv s n i) (fun _ _ _ _ _ _ i _ => 10 - (intOf i).toNat)
 case atStart => exact ⟨0, 0, by omega, by omega, by decide, rfl, rfl, rfl⟩
 case round =>
  obtain ⟨k, acc, hk, hks, ha, rfl, rfl, hr⟩ := hrel
  have Hr := hid hr
  have Ha := hid ha
  clear hr ha
  by_cases hsz : k < s.size
  · have e3 : ((k : Int) == s.size) = false := by simp; omega
    obtain ⟨c, hc⟩ : ∃ c : Nat, s[k].toNat = c := ⟨_, rfl⟩
    have hc2 : c < 256 := by rw [← hc]; exact s[k].toNat_lt
    have Hi := idx_str hsz hc
    have Hc := hid hc
    clear hc
    have form := fun (hb : (k = 9 ∧ 1 < c) ∨ (0 < k ∧ c = 0)) => RdPost.mk' (w := w) (Hr.out.trans (rdB_form (by omega) hsz Hc.out hb))
    have last := fun (hb : ¬ ((k = 9 ∧ 1 < c) ∨ (0 < k ∧ c = 0))) (h1 : c < 128) => RdPost.mk' (w := w) (Hr.out.trans (rdB_last (by omega) hsz Hc.out hb h1))
    have more := fun (hb : ¬ ((k = 9 ∧ 1 < c) ∨ (0 < k ∧ c = 0))) (h1 : ¬ c < 128) => Hr.out.trans (rdB_more (by omega) hsz Hc.out hb h1)
    have step := fun (h9 : k = 9 → c ≤ 1) => or_step (k := k) (by omega) hc2 h9 Ha.out
    have Form := hid form
    have Last := hid last
    have More := hid more
    have Step := hid step
    clear form last more step
    by_cases b9 : 9 ≤ k <;> by_cases b0 : 1 ≤ c
    all_goals first | (have e1 : ((k : Int) == 9) = true := by simp; omega) | (have e1 : ((k : Int) == 9) = false := by simp; omega)
    all_goals first | (have e2 : ((c : Int) == 0) = true := by simp; omega) | (have e2 : ((c : Int) == 0) = false := by simp; omega)
    all_goals go_wp2
    all_goals first
     | (go_ret3; exact Form.out (by omega))
     | (have st := (Step.out (by omega)).1; go_ret3; rw [st]; exact Last.out (by omega) (by omega))
     | (have st := Step.out (by omega); exact ⟨⟨k + 1, _, by omega, by omega, st.2.1, by go_num, by rw [st.1], More.out (by omega) (by omega)⟩, by simp only [intOf]; omega⟩)
  · have e3 : ((k : Int) == s.size) = true := by simp; omega
    have fin := hid (RdPost.mk' (w := w) (Hr.out.trans (rdB_short (by omega) (by omega))))
    go_wp2
    go_ret3
    exact fin.out
end Go.Proofs.YtjgnnobccecpeaaGreatDoor
/- The walk of the reference's outside. -/
namespace Go.Proofs.YtjgnnobccecpeaaGreatDoor
open Go.Lib (hid)
open Go.RowKit
theorem outside_no (n lo hi : Int) (h1 : lo ≤ n) (h2 : n ≤ hi) (w : World) : Calls Tryz.prog 29 #[.int .i64 n, .int .i64 lo, .int .i64 hi] w fun e w' => e = .returned (.bool false) ∧ w = w' := by
 have e1 : decide (n < lo) = false := decide_eq_false (by omega)
 have e2 : decide (hi < n) = false := decide_eq_false (by omega)
 go_enter Tryz.func29, Tryz.ntmps29
 go_wp2
 go_ret
 exact ⟨rfl, rfl⟩
theorem outside_yes (n lo hi : Int) (h : n < lo ∨ hi < n) (w : World) : Calls Tryz.prog 29 #[.int .i64 n, .int .i64 lo, .int .i64 hi] w fun e w' => e = .returned (.bool true) ∧ w = w' := by
 by_cases h1 : n < lo
 · clear h
   go_enter Tryz.func29, Tryz.ntmps29
   go_wp2
   go_ret
   exact ⟨rfl, rfl⟩
 · have e1 : decide (n < lo) = false := decide_eq_false h1
   have e2 : decide (hi < n) = true := decide_eq_true (by omega)
   clear h
   go_enter Tryz.func29, Tryz.ntmps29
   go_wp2
   go_ret
   exact ⟨rfl, rfl⟩
end Go.Proofs.YtjgnnobccecpeaaGreatDoor
/- The contract of utf8.ValidString, laid at this program: numbers only. -/
namespace Go.Proofs.YtjgnnobccecpeaaGreatDoor
open Go.Lib (hid)
open Go.RowKit Go.Shelf Go.Lib
def ren : Ren := {
 f := fun x => match x with
  | 196 => 210
  | 259 => 273
  | n => n
 t := fun x => match x with
  | 0 => 0
  | 3 => 3
  | 4 => 4
  | 5 => 5
  | 9 => 9
  | 12 => 12
  | 46 => 324
  | 53 => 232
  | 119 => 330
  | 138 => 332
  | 139 => 333
  | n => n
 g := fun x => match x with
  | 3 => 0
  | 4 => 1
  | n => n }
theorem laysV : Lays.n196 Tryz.prog ren := {
 mixed := by kernel_rfl
 f196 := Tryz.func210.trans (congrArg some (by kernel_rfl))
 f259 := Tryz.func273.trans (congrArg some (by kernel_rfl))
 t0 := Tryz.underlying0
 a0 := Tryz.isAgg0
 z0 := Tryz.sizeOf0
 v0 := Tryz.zeroValue0
 t3 := Tryz.underlying3
 a3 := Tryz.isAgg3
 z3 := Tryz.sizeOf3
 v3 := Tryz.zeroValue3
 t4 := Tryz.underlying4
 a4 := Tryz.isAgg4
 z4 := Tryz.sizeOf4
 v4 := Tryz.zeroValue4
 t5 := Tryz.underlying5
 a5 := Tryz.isAgg5
 z5 := Tryz.sizeOf5
 v5 := Tryz.zeroValue5
 t9 := Tryz.underlying9
 a9 := Tryz.isAgg9
 z9 := Tryz.sizeOf9
 v9 := Tryz.zeroValue9
 t12 := Tryz.underlying12
 a12 := Tryz.isAgg12
 z12 := Tryz.sizeOf12
 v12 := Tryz.zeroValue12
 t46 := Tryz.underlying324
 a46 := Tryz.isAgg324
 z46 := Tryz.sizeOf324
 v46 := Tryz.zeroValue324
 t53 := Tryz.underlying232
 a53 := Tryz.isAgg232
 z53 := Tryz.sizeOf232
 v53 := Tryz.zeroValue232
 t119 := Tryz.underlying330
 a119 := Tryz.isAgg330
 z119 := Tryz.sizeOf330
 t138 := Tryz.underlying332
 a138 := Tryz.isAgg332
 z138 := Tryz.sizeOf332
 v138 := Tryz.zeroValue332
 t139 := Tryz.underlying333
 a139 := Tryz.isAgg333
 z139 := Tryz.sizeOf333
 v139 := Tryz.zeroValue333
 g3 := by kernel_rfl
 g4 := by kernel_rfl }
def Tabs (w : World) : Prop := Utf8Tabs (ren.g 3) (ren.g 4) w
theorem Tabs.below {w w' : World} (h : Tabs w) (hb : Below w.heap.size w w') : Tabs w' := Utf8Tabs_below h hb
theorem tabs_of {w : World} {l : List (String × DataW Unit)} (hL : laidMet Tryz.prog l w) (h1 : ("unicode/utf8.first", firstData) ∈ l) (h2 : ("unicode/utf8.acceptRanges", acceptData) ∈ l) : Tabs w :=
 utf8Tabs_of_readsT (U8Types.of196 laysV) ⟨by kernel_rfl, by kernel_rfl, by kernel_rfl, by kernel_rfl, by kernel_rfl, by kernel_rfl, by kernel_rfl⟩ (laidMet.reads hL h1) (laidMet.reads hL h2)
theorem valid_any (s : ByteArray) (w : World) (hs : s.size ≤ 9223372036854775807) (hT : Tabs w) :
 Calls Tryz.prog 210 #[.string s] w fun e w' => e = .returned (.bool (validD s.data.toList)) ∧ Below w.heap.size w w' :=
 Any.utf8_ValidString laysV s w hs hT
end Go.Proofs.YtjgnnobccecpeaaGreatDoor
/- What the reference's test of UTF-8 says, byte by byte, is what the library's decoder says: plain lemmas. -/
namespace Go.Proofs.YtjgnnobccecpeaaGreatDoor
open Go.Lib (hid)
open Go.Lib
def okAt (l : List UInt8) (lo hi k : Nat) : Prop := (if k = 1 then lo else 128) ≤ (l.getD k 0).toNat ∧ (l.getD k 0).toNat ≤ (if k = 1 then hi else 191)
theorem check_short (n b1 b2 b3 m lo hi : Nat) (h : n < m + 1) : checkN n b1 b2 b3 (m + 1) lo hi = none := by
 unfold checkN
 repeat' split
 all_goals first | rfl | omega
theorem check_bad (l : List UInt8) (n m lo hi k : Nat) (hm : m = 1 ∨ m = 2 ∨ m = 3) (h1 : 1 ≤ k) (hk : k ≤ m) (h : ¬ okAt l lo hi k) :
 checkN n (l.getD 1 0).toNat (l.getD 2 0).toNat (l.getD 3 0).toNat (m + 1) lo hi = none := by
 unfold okAt at h
 unfold checkN
 rcases hm with rfl | rfl | rfl
 all_goals (have : k = 1 ∨ k = 2 ∨ k = 3 := by omega)
 all_goals rcases this with rfl | rfl | rfl
 all_goals simp at h ⊢
 all_goals omega
theorem check_ok (l : List UInt8) (n m lo hi : Nat) (hm : m = 1 ∨ m = 2 ∨ m = 3) (hn : m + 1 ≤ n) (h : ∀ k, 1 ≤ k → k ≤ m → okAt l lo hi k) :
 checkN n (l.getD 1 0).toNat (l.getD 2 0).toNat (l.getD 3 0).toNat (m + 1) lo hi = some (m + 1) := by
 have h1 := h 1
 have h2 := h 2
 have h3 := h 3
 unfold okAt at h1 h2 h3
 unfold checkN
 rcases hm with rfl | rfl | rfl
 all_goals simp at h1 h2 h3 ⊢
 all_goals omega
def leadOf (c : Nat) : Option (Nat × Nat × Nat) :=
 if c < 194 then none
 else if c ≤ 223 then some (1, 128, 191)
 else if c ≤ 239 then some (2, if c = 224 then 160 else 128, if c = 237 then 159 else 191)
 else if c ≤ 244 then some (3, if c = 240 then 144 else 128, if c = 244 then 143 else 191)
 else none
def leadOk (c : Nat) : Bool := match leadOf c with
 | none => decide (firstT c % 8 ≠ 2 ∧ firstT c % 8 ≠ 3 ∧ firstT c % 8 ≠ 4)
 | some (m, lo, hi) => decide (firstT c % 8 = m + 1 ∧ accLo (firstT c / 16) = lo ∧ accHi (firstT c / 16) = hi)
theorem lead_tab : ∀ c : Fin 256, 128 ≤ c.val → leadOk c.val = true := by decide +kernel
theorem validD_none (l : List UInt8) (hne : l ≠ []) (h0 : 128 ≤ (l.getD 0 0).toNat) (h : leadOf (l.getD 0 0).toNat = none) : validD l = false := by
 have ht := lead_tab ⟨(l.getD 0 0).toNat, (l.getD 0 0).toNat_lt⟩ h0
 simp only [leadOk, h, decide_eq_true_eq] at ht
 rw [validD_lead l hne h0]
 unfold checkN
 rw [if_neg ht.1, if_neg ht.2.1, if_neg ht.2.2]
theorem validD_some (l : List UInt8) (hne : l ≠ []) (h0 : 128 ≤ (l.getD 0 0).toNat) {m lo hi : Nat} (h : leadOf (l.getD 0 0).toNat = some (m, lo, hi)) :
 validD l = match checkN l.length (l.getD 1 0).toNat (l.getD 2 0).toNat (l.getD 3 0).toNat (m + 1) lo hi with
  | none => false
  | some k => validD (l.drop k) := by
 have ht := lead_tab ⟨(l.getD 0 0).toNat, (l.getD 0 0).toNat_lt⟩ h0
 simp only [leadOk, h, decide_eq_true_eq] at ht
 rw [validD_lead l hne h0, ht.1, ht.2.1, ht.2.2]
 rfl
theorem lead_many {c m lo hi : Nat} (h : leadOf c = some (m, lo, hi)) : m = 1 ∨ m = 2 ∨ m = 3 := by
 unfold leadOf at h
 repeat' split at h
 all_goals simp at h
 all_goals omega
theorem validD_short (l : List UInt8) (hne : l ≠ []) (h0 : 128 ≤ (l.getD 0 0).toNat) {m lo hi : Nat} (h : leadOf (l.getD 0 0).toNat = some (m, lo, hi)) (hs : l.length < m + 1) : validD l = false := by
 rw [validD_some l hne h0 h, check_short _ _ _ _ _ _ _ hs]
theorem validD_bad (l : List UInt8) (hne : l ≠ []) (h0 : 128 ≤ (l.getD 0 0).toNat) {m lo hi : Nat} (h : leadOf (l.getD 0 0).toNat = some (m, lo, hi)) (k : Nat) (h1 : 1 ≤ k) (hk : k ≤ m) (hb : ¬ okAt l lo hi k) : validD l = false := by
 rw [validD_some l hne h0 h, check_bad l _ m lo hi k (lead_many h) h1 hk hb]
theorem validD_ok (l : List UInt8) (hne : l ≠ []) (h0 : 128 ≤ (l.getD 0 0).toNat) {m lo hi : Nat} (h : leadOf (l.getD 0 0).toNat = some (m, lo, hi)) (hs : m + 1 ≤ l.length) (hb : ∀ k, 1 ≤ k → k ≤ m → okAt l lo hi k) : validD l = validD (l.drop (m + 1)) := by
 rw [validD_some l hne h0 h, check_ok l _ m lo hi (lead_many h) hs hb]
structure Cls (l : List UInt8) (m lo hi : Nat) : Prop where
 le : m ≤ 3
 short : l.length < m + 1 → validD l = false
 bad : ∀ k, 1 ≤ k → k ≤ m → ¬ okAt l lo hi k → validD l = false
 ok : m + 1 ≤ l.length → (∀ k, 1 ≤ k → k ≤ m → okAt l lo hi k) → validD l = validD (l.drop (m + 1))
theorem Cls.of {l : List UInt8} {c m lo hi : Nat} (hne : l ≠ []) (hc : (l.getD 0 0).toNat = c) (h0 : 128 ≤ c) (h : leadOf c = some (m, lo, hi)) : Cls l m lo hi := by
 subst hc
 exact ⟨by have := lead_many h; omega, validD_short l hne h0 h, validD_bad l hne h0 h, validD_ok l hne h0 h⟩
theorem Cls.ascii {l : List UInt8} {c : Nat} (hne : l ≠ []) (hc : (l.getD 0 0).toNat = c) (h0 : c < 128) : Cls l 0 128 191 := by
 subst hc
 match l, hne with
 | b :: r, _ =>
  exact ⟨by omega, fun h => by simp at h, fun k h1 h2 => by omega, fun _ _ => validD_cons b r (by simpa using h0)⟩
theorem validD_wrong {l : List UInt8} {c : Nat} (hne : l ≠ []) (hc : (l.getD 0 0).toNat = c) (h0 : 128 ≤ c) (h : leadOf c = none) : validD l = false := by
 subst hc; exact validD_none l hne h0 h
def lowAt (lo j : Nat) : Nat := if j = 1 then lo else 128
def highAt (hi j : Nat) : Nat := if j = 1 then hi else 191
theorem okAt_at {l : List UInt8} {lo hi d k : Nat} (h : (l.getD k 0).toNat = d) : okAt l lo hi k ↔ lowAt lo k ≤ d ∧ d ≤ highAt hi k := by unfold okAt lowAt highAt; subst h; rfl
end Go.Proofs.YtjgnnobccecpeaaGreatDoor
