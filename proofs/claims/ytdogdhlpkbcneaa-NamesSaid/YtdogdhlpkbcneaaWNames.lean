/- The walk of the law Names. -/
import Derived.Test.YtdogdhlpkbcneaaEqInt
namespace Go.Proofs.Ytdogdhlpkbcneaa
open Go.RowKit
def nmErrs : Array Value := #[.int .i64 0, .int .i64 1, .int .i64 2, .int .i64 3, .int .i64 4, .int .i64 5, .int .i64 6, .int .i64 7, .int .i64 8, .int .i64 9, .int .i64 10]
theorem nmErrs_get (k : Nat) (h : k < 11) : nmErrs.toList[k]? = some (.int .i64 k) := by
  rcases k with _ | _ | _ | _ | _ | _ | _ | _ | _ | _ | _ | k <;> first | rfl | omega
def nmInts : List Int := [16, 1000, 1000000, 100, 1099511627776, 40, 20, 6000, 3, 8, 8, 30, 60, 1, 2, 3, 4, 1, 2, 3, 4, 5, 6, 7, 8, 9]
theorem nmErrs_cell (w : World) (k : Nat) (h : k < 11) : (w.alloc (.cells #[.int .i64 0, .int .i64 1, .int .i64 2, .int .i64 3, .int .i64 4, .int .i64 5, .int .i64 6, .int .i64 7, .int .i64 8, .int .i64 9, .int .i64 10] 22)).cell? ⟨w.heap.size, k, none⟩ = some (.int .i64 k) := by
  have := RowAt.new w 22 nmErrs k _ (nmErrs_get k h)
  rwa [Nat.zero_add] at this

set_option maxHeartbeats 400000 in
theorem walkNames (w : World) : Calls Try.prog 3 #[] w fun e w' => e = .returned (.bool true) ∧ Below w.heap.size w w' := by
  go_enter Try.func3, Try.ntmps3
  go_wp2
  go_loop [1, 2, 5] (fun _ _ i => ∃ k : Nat, k ≤ 11 ∧ i = .int .i64 k) (fun _ _ i => 11 - (intOf i).toNat)
  case atStart => exact ⟨0, by omega, rfl⟩
  case round =>
    obtain ⟨k, hk, rfl⟩ := hrel
    by_cases hlt : k < 11
    · have hc := nmErrs_cell w k hlt
      have h0 : ((k : Int) != k) = false := by simp
      go_wp2
      go_round
      case rel => exact ⟨k + 1, by omega, by go_num⟩
      case measure => simp [intOf]; omega
    · go_wp2_with fail
      refine Calls.mono (eq_int_any nmInts nmInts _ _ _ _ _ _ (w.heap.size + 1 + 1 + 1) _ ?c1 ?c2 (by omega) (by omega)) ?c3
      case c1 =>
        refine SlAt.more (B := w.heap.size + 1 + 1) ?_ (by omega)
        refine SlAt.alloc ?_ (by simp) _
        apply SlAt.new'
        · simp
        · omega
        · rfl
        · rfl
      case c2 =>
        apply SlAt.new'
        · simp
        · omega
        · rfl
        · rfl
      case c3 =>
        rintro e w' ⟨rfl, rfl⟩
        go_wp2
        go_ret
        exact ⟨rfl, by repeat (first | exact Below.refl _ _ | refine Below.alloc ?_ (by simp; try omega) _)⟩
end Go.Proofs.Ytdogdhlpkbcneaa
