/- The walk of the reference FrameDecode where the head will not do. -/
import Derived.Test.YtdogdhlpkbcneaaFrmDec
namespace Go.Proofs.Ytdogdhlpkbcneaa
open Go.RowKit
set_option maxRecDepth 100000 in
theorem rnone_any (n : Int) (w : World) : Calls Try.prog 45 #[.int .i64 n] w fun e w' => e = .returned (.tuple #[.agg #[.int .i64 0, .int .i64 0, .string ⟨#[]⟩], .int .i64 0, .int .i64 n]) ∧ w.alloc (.cells #[.int .i64 0, .int .i64 0, .string ⟨#[]⟩] 40) = w' := by
  go_enter Try.func45, Try.ntmps45
  go_wp2
  refine bodyPost_ret (v := .tuple #[.agg #[.int .i64 0, .int .i64 0, .string ⟨#[]⟩], .int .i64 0, .int .i64 n]) (by simp [results, Try.results45, go_sem]) rfl ⟨rfl, rfl⟩
set_option maxRecDepth 100000 in
set_option maxHeartbeats 4000000 in
theorem rdec_head (s : ByteArray) (w : World) (hs : s.size ≤ 9223372036854775807) (hd : decH s ≠ 0) :
    Calls Try.prog 28 #[.string s] w (DecPost s w) := by
  have Hhead := Lib.hid (fun (c : Nat) (h : decH s = c) (hc : c ≠ 0) (w' : World) => DecPost.mk' (w := w) (w' := w') (decF_head h hc))
  have Hd := Lib.hid hd
  clear hd
  by_cases h0 : 0 < s.size ∧ byteAt s 0 ≠ 66
  · have fin := Lib.hid (Hhead.out 4 (decH_0 h0.1 h0.2) (by omega))
    have h1 := h0.1
    have e0 : ((byteAt s 0 : Int) != 66) = true := by have := h0.2; simp; omega
    have i0 : ∀ W : World, (Instr.index 9 (.string s) (.int .i64 0)).run Try.prog W = .ok (.int .u8 ((byteAt s 0 : Nat) : Int)) W := byte_num (k := 0) (by omega)
    have l0 : decide ((0 : Int) < (s.size : Int)) = true := decide_eq_true (by omega)
    clear h0
    go_enter Try.func28, Try.ntmps28
    go_wp2_with fail
    refine Calls.mono (rnone_any _ _) ?_
    rintro e w' ⟨rfl, rfl⟩
    go_wp2
    refine bodyPost_ret (v := .tuple #[.agg #[.int .i64 0, .int .i64 0, .string ⟨#[]⟩], .int .i64 0, .int .i64 4]) (by simp [results, Try.results28, go_sem]) rfl ?_
    exact fin.out _ (by repeat (first | exact Below.refl _ _ | refine Below.alloc ?_ (by first | (simp; done) | (simp; omega)) _ | refine Below.setCell ?_ (by first | (simp; done) | (simp; omega)) _))
  by_cases h1 : 1 < s.size ∧ byteAt s 1 ≠ 75
  · have hb0 : byteAt s 0 = 66 := by omega
    have ht : HeadTo s 1 := ⟨fun _ => ⟨by omega, hb0⟩, fun h => absurd h (by omega), fun h => absurd h (by omega), fun h => absurd h (by omega)⟩
    have fin := Lib.hid (Hhead.out 4 (decH_1 ht h1.1 h1.2) (by omega))
    have h2 := h1.1
    have e1 : ((byteAt s 1 : Int) != 75) = true := by have := h1.2; simp; omega
    have e0 : ((byteAt s 0 : Int) != 66) = false := by simp; omega
    have e0' : ((byteAt s 0 : Int) == 66) = true := by simp; omega
    have i0 : ∀ W : World, (Instr.index 9 (.string s) (.int .i64 0)).run Try.prog W = .ok (.int .u8 ((byteAt s 0 : Nat) : Int)) W := byte_num (k := 0) (by omega)
    have i1 : ∀ W : World, (Instr.index 9 (.string s) (.int .i64 1)).run Try.prog W = .ok (.int .u8 ((byteAt s 1 : Nat) : Int)) W := byte_num (k := 1) (by omega)
    have l0 : decide ((0 : Int) < (s.size : Int)) = true := decide_eq_true (by omega)
    have l1 : decide ((1 : Int) < (s.size : Int)) = true := decide_eq_true (by omega)
    clear h0 h1 ht hb0
    go_enter Try.func28, Try.ntmps28
    go_wp2_with fail
    refine Calls.mono (rnone_any _ _) ?_
    rintro e w' ⟨rfl, rfl⟩
    go_wp2
    refine bodyPost_ret (v := .tuple #[.agg #[.int .i64 0, .int .i64 0, .string ⟨#[]⟩], .int .i64 0, .int .i64 4]) (by simp [results, Try.results28, go_sem]) rfl ?_
    exact fin.out _ (by repeat (first | exact Below.refl _ _ | refine Below.alloc ?_ (by first | (simp; done) | (simp; omega)) _ | refine Below.setCell ?_ (by first | (simp; done) | (simp; omega)) _))
  by_cases z0 : s.size = 0
  · have ht : HeadTo s 0 := ⟨fun h => absurd h (by omega), fun h => absurd h (by omega), fun h => absurd h (by omega), fun h => absurd h (by omega)⟩
    have fin := Lib.hid (Hhead.out 3 (decH_short ht (by omega) (by omega)) (by omega))
    have l0 : decide ((0 : Int) < (s.size : Int)) = false := decide_eq_false (by omega)
    have l1 : decide ((1 : Int) < (s.size : Int)) = false := decide_eq_false (by omega)
    have l2 : decide ((2 : Int) < (s.size : Int)) = false := decide_eq_false (by omega)
    have l3 : decide ((3 : Int) < (s.size : Int)) = false := decide_eq_false (by omega)
    have l4 : decide ((s.size : Int) < 4) = true := decide_eq_true (by omega)
    clear ht h0 h1
    go_enter Try.func28, Try.ntmps28
    go_wp2_with fail
    refine Calls.mono (rnone_any _ _) ?_
    rintro e w' ⟨rfl, rfl⟩
    go_wp2
    refine bodyPost_ret (v := .tuple #[.agg #[.int .i64 0, .int .i64 0, .string ⟨#[]⟩], .int .i64 0, .int .i64 3]) (by simp [results, Try.results28, go_sem]) rfl ?_
    exact fin.out _ (by repeat (first | exact Below.refl _ _ | refine Below.alloc ?_ (by first | (simp; done) | (simp; omega)) _ | refine Below.setCell ?_ (by first | (simp; done) | (simp; omega)) _))
  by_cases z1 : s.size = 1
  · have hb0 : byteAt s 0 = 66 := by omega
    have ht : HeadTo s 1 := ⟨fun _ => ⟨by omega, hb0⟩, fun h => absurd h (by omega), fun h => absurd h (by omega), fun h => absurd h (by omega)⟩
    have fin := Lib.hid (Hhead.out 3 (decH_short ht (by omega) (by omega)) (by omega))
    have e0 : ((byteAt s 0 : Int) != 66) = false := by simp; omega
    have e0' : ((byteAt s 0 : Int) == 66) = true := by simp; omega
    have i0 : ∀ W : World, (Instr.index 9 (.string s) (.int .i64 0)).run Try.prog W = .ok (.int .u8 ((byteAt s 0 : Nat) : Int)) W := byte_num (k := 0) (by omega)
    have l0 : decide ((0 : Int) < (s.size : Int)) = true := decide_eq_true (by omega)
    have l1 : decide ((1 : Int) < (s.size : Int)) = false := decide_eq_false (by omega)
    have l2 : decide ((2 : Int) < (s.size : Int)) = false := decide_eq_false (by omega)
    have l3 : decide ((3 : Int) < (s.size : Int)) = false := decide_eq_false (by omega)
    have l4 : decide ((s.size : Int) < 4) = true := decide_eq_true (by omega)
    clear ht h0 h1 hb0
    go_enter Try.func28, Try.ntmps28
    go_wp2_with fail
    refine Calls.mono (rnone_any _ _) ?_
    rintro e w' ⟨rfl, rfl⟩
    go_wp2
    refine bodyPost_ret (v := .tuple #[.agg #[.int .i64 0, .int .i64 0, .string ⟨#[]⟩], .int .i64 0, .int .i64 3]) (by simp [results, Try.results28, go_sem]) rfl ?_
    exact fin.out _ (by repeat (first | exact Below.refl _ _ | refine Below.alloc ?_ (by first | (simp; done) | (simp; omega)) _ | refine Below.setCell ?_ (by first | (simp; done) | (simp; omega)) _))
  by_cases z2 : s.size = 2
  · have hb0 : byteAt s 0 = 66 := by omega
    have hb1 : byteAt s 1 = 75 := by omega
    have ht : HeadTo s 2 := ⟨fun _ => ⟨by omega, hb0⟩, fun _ => ⟨by omega, hb1⟩, fun h => absurd h (by omega), fun h => absurd h (by omega)⟩
    have fin := Lib.hid (Hhead.out 3 (decH_short ht (by omega) (by omega)) (by omega))
    have e0 : ((byteAt s 0 : Int) != 66) = false := by simp; omega
    have e0' : ((byteAt s 0 : Int) == 66) = true := by simp; omega
    have i0 : ∀ W : World, (Instr.index 9 (.string s) (.int .i64 0)).run Try.prog W = .ok (.int .u8 ((byteAt s 0 : Nat) : Int)) W := byte_num (k := 0) (by omega)
    have e1 : ((byteAt s 1 : Int) != 75) = false := by simp; omega
    have i1 : ∀ W : World, (Instr.index 9 (.string s) (.int .i64 1)).run Try.prog W = .ok (.int .u8 ((byteAt s 1 : Nat) : Int)) W := byte_num (k := 1) (by omega)
    have l0 : decide ((0 : Int) < (s.size : Int)) = true := decide_eq_true (by omega)
    have l1 : decide ((1 : Int) < (s.size : Int)) = true := decide_eq_true (by omega)
    have l2 : decide ((2 : Int) < (s.size : Int)) = false := decide_eq_false (by omega)
    have l3 : decide ((3 : Int) < (s.size : Int)) = false := decide_eq_false (by omega)
    have l4 : decide ((s.size : Int) < 4) = true := decide_eq_true (by omega)
    clear ht h0 h1 hb0 hb1
    go_enter Try.func28, Try.ntmps28
    go_wp2_with fail
    refine Calls.mono (rnone_any _ _) ?_
    rintro e w' ⟨rfl, rfl⟩
    go_wp2
    refine bodyPost_ret (v := .tuple #[.agg #[.int .i64 0, .int .i64 0, .string ⟨#[]⟩], .int .i64 0, .int .i64 3]) (by simp [results, Try.results28, go_sem]) rfl ?_
    exact fin.out _ (by repeat (first | exact Below.refl _ _ | refine Below.alloc ?_ (by first | (simp; done) | (simp; omega)) _ | refine Below.setCell ?_ (by first | (simp; done) | (simp; omega)) _))
  have hb0 : byteAt s 0 = 66 := by omega
  have hb1 : byteAt s 1 = 75 := by omega
  have e0 : ((byteAt s 0 : Int) != 66) = false := by simp; omega
  have e0' : ((byteAt s 0 : Int) == 66) = true := by simp; omega
  have e1 : ((byteAt s 1 : Int) != 75) = false := by simp; omega
  have i0 : ∀ W : World, (Instr.index 9 (.string s) (.int .i64 0)).run Try.prog W = .ok (.int .u8 ((byteAt s 0 : Nat) : Int)) W := byte_num (k := 0) (by omega)
  have i1 : ∀ W : World, (Instr.index 9 (.string s) (.int .i64 1)).run Try.prog W = .ok (.int .u8 ((byteAt s 1 : Nat) : Int)) W := byte_num (k := 1) (by omega)
  have i2 : ∀ W : World, (Instr.index 9 (.string s) (.int .i64 2)).run Try.prog W = .ok (.int .u8 ((byteAt s 2 : Nat) : Int)) W := byte_num (k := 2) (by omega)
  have v2 : IntKind.i64.wrap (byteAt s 2 : Int) = byteAt s 2 := by rw [IntKind.wrap_i64]; have := byteAt_lt s 2; omega
  have l0 : decide ((0 : Int) < (s.size : Int)) = true := decide_eq_true (by omega)
  have l1 : decide ((1 : Int) < (s.size : Int)) = true := decide_eq_true (by omega)
  have l2 : decide ((2 : Int) < (s.size : Int)) = true := decide_eq_true (by omega)
  by_cases h2 : byteAt s 2 < 1 ∨ 3 < byteAt s 2
  · have ht : HeadTo s 2 := ⟨fun _ => ⟨by omega, hb0⟩, fun _ => ⟨by omega, hb1⟩, fun h => absurd h (by omega), fun h => absurd h (by omega)⟩
    have fin := Lib.hid (Hhead.out 1 (decH_2 ht (by omega) h2) (by omega))
    have b3 := Lib.hid (show (byteAt s 2 : Int) < 1 ∨ 3 < (byteAt s 2 : Int) from by omega)
    clear ht h0 h1 h2 hb0 hb1
    go_enter Try.func28, Try.ntmps28
    go_wp2_with fail
    refine Calls.mono (outside_yes _ _ _ b3.out _) ?_
    rintro e w' ⟨rfl, rfl⟩
    go_wp2_with fail
    refine Calls.mono (rnone_any _ _) ?_
    rintro e w' ⟨rfl, rfl⟩
    go_wp2
    refine bodyPost_ret (v := .tuple #[.agg #[.int .i64 0, .int .i64 0, .string ⟨#[]⟩], .int .i64 0, .int .i64 1]) (by simp [results, Try.results28, go_sem]) rfl ?_
    exact fin.out _ (by repeat (first | exact Below.refl _ _ | refine Below.alloc ?_ (by first | (simp; done) | (simp; omega)) _ | refine Below.setCell ?_ (by first | (simp; done) | (simp; omega)) _))
  have ht : HeadTo s 3 := ⟨fun _ => ⟨by omega, hb0⟩, fun _ => ⟨by omega, hb1⟩, fun _ => ⟨by omega, by omega, by omega⟩, fun h => absurd h (by omega)⟩
  have b1 := Lib.hid (show (1 : Int) ≤ (byteAt s 2 : Int) from by omega)
  have b2 := Lib.hid (show (byteAt s 2 : Int) ≤ 3 from by omega)
  by_cases z3 : s.size = 3
  · have fin := Lib.hid (Hhead.out 3 (decH_short ht (by omega) (by omega)) (by omega))
    have l3 : decide ((3 : Int) < (s.size : Int)) = false := decide_eq_false (by omega)
    have l4 : decide ((s.size : Int) < 4) = true := decide_eq_true (by omega)
    clear ht h0 h1 h2 hb0 hb1
    go_enter Try.func28, Try.ntmps28
    go_wp2_with fail
    refine Calls.mono (outside_no _ _ _ b1.out b2.out _) ?_
    rintro e w' ⟨rfl, rfl⟩
    go_wp2_with fail
    refine Calls.mono (rnone_any _ _) ?_
    rintro e w' ⟨rfl, rfl⟩
    go_wp2
    refine bodyPost_ret (v := .tuple #[.agg #[.int .i64 0, .int .i64 0, .string ⟨#[]⟩], .int .i64 0, .int .i64 3]) (by simp [results, Try.results28, go_sem]) rfl ?_
    exact fin.out _ (by repeat (first | exact Below.refl _ _ | refine Below.alloc ?_ (by first | (simp; done) | (simp; omega)) _ | refine Below.setCell ?_ (by first | (simp; done) | (simp; omega)) _))
  have i3 : ∀ W : World, (Instr.index 9 (.string s) (.int .i64 3)).run Try.prog W = .ok (.int .u8 ((byteAt s 3 : Nat) : Int)) W := byte_num (k := 3) (by omega)
  have v3 : IntKind.i64.wrap (byteAt s 3 : Int) = byteAt s 3 := by rw [IntKind.wrap_i64]; have := byteAt_lt s 3; omega
  have l3 : decide ((3 : Int) < (s.size : Int)) = true := decide_eq_true (by omega)
  by_cases h3 : byteAt s 3 < 1 ∨ 4 < byteAt s 3
  · have fin := Lib.hid (Hhead.out 1 (decH_3 ht (by omega) h3) (by omega))
    have b3 := Lib.hid (show (byteAt s 3 : Int) < 1 ∨ 4 < (byteAt s 3 : Int) from by omega)
    clear ht h0 h1 h2 h3 hb0 hb1
    go_enter Try.func28, Try.ntmps28
    go_wp2_with fail
    refine Calls.mono (outside_no _ _ _ b1.out b2.out _) ?_
    rintro e w' ⟨rfl, rfl⟩
    go_wp2_with fail
    refine Calls.mono (outside_yes _ _ _ b3.out _) ?_
    rintro e w' ⟨rfl, rfl⟩
    go_wp2_with fail
    refine Calls.mono (rnone_any _ _) ?_
    rintro e w' ⟨rfl, rfl⟩
    go_wp2
    refine bodyPost_ret (v := .tuple #[.agg #[.int .i64 0, .int .i64 0, .string ⟨#[]⟩], .int .i64 0, .int .i64 1]) (by simp [results, Try.results28, go_sem]) rfl ?_
    exact fin.out _ (by repeat (first | exact Below.refl _ _ | refine Below.alloc ?_ (by first | (simp; done) | (simp; omega)) _ | refine Below.setCell ?_ (by first | (simp; done) | (simp; omega)) _))
  exact absurd (decH_ok ⟨fun _ => ⟨by omega, hb0⟩, fun _ => ⟨by omega, hb1⟩, fun _ => ⟨by omega, by omega, by omega⟩, fun _ => ⟨by omega, by omega, by omega⟩⟩).1 Hd.out
end Go.Proofs.Ytdogdhlpkbcneaa
