/- The walks of ReadNumber, in the program and in the reference. -/
import Derived.Test.YtbbagnfmoecdfaaDoorPut
import Derived.Test.YtbbagnfmoecdfaaDoorBase
set_option linter.unusedVariables false
set_option linter.unusedSimpArgs false
namespace Go.Proofs.YtbbagnfmoecdfaaDoor
open Go.RowKit
/-- s[k] of a string. -/
theorem idx_str {s : ByteArray} {k c : Nat} (h : k < s.size) (hc : s[k].toNat = c) (W : World) : (Instr.index 9 (.string s) (.int .i64 (k : Int))).run Tryd.prog W = .ok (.int .u8 (c : Int)) W := by
  rw [run_index_string W 9 s .i64 (k : Int) Tryd.underlying9, dif_pos ⟨by omega, by omega⟩]
  subst hc
  simp only [Int.toNat_natCast]
def RdPost (s : ByteArray) (w : World) (e : Ending) (w' : World) : Prop := e = .returned (rdV s) ∧ w = w'
theorem RdPost.mk' {s : ByteArray} {w : World} {a k e : Nat} (h : rdNum s = (a, k, e)) : RdPost s w (.returned (.tuple #[.int .u64 (a : Int), .int .i64 (k : Int), .int .i64 (e : Int)])) w := ⟨by rw [rdV_of h], rfl⟩
def RdInv (s : ByteArray) (n i : Value) : Prop := ∃ (k acc : Nat), k ≤ 9 ∧ k ≤ s.size ∧ acc < 128 ^ k ∧ i = .int .i64 k ∧ n = .int .u64 acc ∧ rdNum s = rdB s (10 - k) k acc
set_option maxRecDepth 100000 in
set_option maxHeartbeats 1000000 in
theorem read_any (s : ByteArray) (w : World) (hs : s.size ≤ 9223372036854775807) :
    Calls Tryd.prog 105 #[.string s] w (RdPost s w) := by
  go_enter Tryd.func105, Tryd.ntmps105
  go_wp2
  go_loop [2, 3, 4, 5, 6, 7, 8, 10] (fun _ _ _ n _ _ i _ => RdInv s n i) (fun _ _ _ _ _ _ i _ => 10 - (intOf i).toNat)
  case atStart => exact ⟨0, 0, by omega, by omega, by decide, rfl, rfl, rfl⟩
  case round =>
    obtain ⟨k, acc, hk, hks, ha, rfl, rfl, hr⟩ := hrel
    have Hr := Lib.hid hr
    have Ha := Lib.hid ha
    clear hr ha
    by_cases hsz : k < s.size
    · have e3 : ((k : Int) == s.size) = false := by simp; omega
      obtain ⟨c, hc⟩ : ∃ c : Nat, s[k].toNat = c := ⟨_, rfl⟩
      have hc2 : c < 256 := by rw [← hc]; exact s[k].toNat_lt
      have Hi := idx_str hsz hc
      have Hc := Lib.hid hc
      clear hc
      have form := fun (hb : (k = 9 ∧ 1 < c) ∨ (0 < k ∧ c = 0)) => RdPost.mk' (w := w) (Hr.out.trans (rdB_form (by omega) hsz Hc.out hb))
      have last := fun (hb : ¬ ((k = 9 ∧ 1 < c) ∨ (0 < k ∧ c = 0))) (h1 : c < 128) => RdPost.mk' (w := w) (Hr.out.trans (rdB_last (by omega) hsz Hc.out hb h1))
      have more := fun (hb : ¬ ((k = 9 ∧ 1 < c) ∨ (0 < k ∧ c = 0))) (h1 : ¬ c < 128) => Hr.out.trans (rdB_more (by omega) hsz Hc.out hb h1)
      have step := fun (h9 : k = 9 → c ≤ 1) => or_step (k := k) (by omega) hc2 h9 Ha.out
      have Form := Lib.hid form
      have Last := Lib.hid last
      have More := Lib.hid more
      have Step := Lib.hid step
      clear form last more step
      by_cases b9 : 9 ≤ k <;> by_cases b0 : 1 ≤ c
      all_goals first | (have e1 : ((k : Int) == 9) = true := by simp; omega) | (have e1 : ((k : Int) == 9) = false := by simp; omega)
      all_goals first | (have e2 : ((c : Int) == 0) = true := by simp; omega) | (have e2 : ((c : Int) == 0) = false := by simp; omega)
      all_goals go_wp2
      all_goals first
        | (go_ret3; exact Form.out (by omega))
        | (have st := (Step.out (by omega)).1; go_ret3; rw [st]; exact Last.out (by omega) (by omega))
        | (have st := Step.out (by omega); exact ⟨⟨k + 1, _, by omega, by omega, st.2.1, by go_num, by rw [st.1], More.out (by omega) (by omega)⟩, by simp only [intOf]; omega⟩)
    · have e3 : ((k : Int) == s.size) = true := by simp; omega
      have fin := Lib.hid (RdPost.mk' (w := w) (Hr.out.trans (rdB_short (by omega) (by omega))))
      go_wp2
      go_ret3
      exact fin.out
end Go.Proofs.YtbbagnfmoecdfaaDoor
