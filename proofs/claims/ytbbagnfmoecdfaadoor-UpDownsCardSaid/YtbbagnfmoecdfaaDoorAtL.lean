/- The walk of LeaseAt in the reference. -/
import Derived.Test.YtbbagnfmoecdfaaDoorBase
import Derived.Test.YtbbagnfmoecdfaaDoorAt
set_option linter.unusedVariables false
set_option linter.unusedSimpArgs false
namespace Go.Proofs.YtbbagnfmoecdfaaDoor
open Go.RowKit
def LeaseAtPost (xs : List LeaseD) (s : ByteArray) (w : World) (e : Ending) (w' : World) : Prop :=
  ∃ i : Int, e = .returned (.int .i64 i) ∧ Below w.heap.size w w' ∧ ((i = -1 ∧ leaseOf xs s = none) ∨ ∃ (k : Nat) (x : LeaseD), i = (k : Int) ∧ xs[k]? = some x ∧ leaseOf xs s = some x)
def LeaseAtInv (xs : List LeaseD) (s : ByteArray) (n : Nat) (w : World) (i : Value) (wr : World) : Prop := ∃ k : Nat, k ≤ n ∧ i = .int .i64 k ∧ (xs.take k).find? (fun x => decide (x.job = s)) = none ∧ Below w.heap.size w wr
set_option maxRecDepth 100000 in
set_option maxHeartbeats 1000000 in
theorem leaseAt_any (xs : List LeaseD) (s : ByteArray) (A : Option Addr) (n c : Nat) (w : World) (hx : SlAt w w.heap.size 3 A n (rowsV leaseV xs)) (hl : xs.length = n) (hn : n ≤ 9223372036854775807) :
    Calls Tryd.prog 87 #[.slice A n c, .string s] w (LeaseAtPost xs s w) := by
  have Hl := Lib.hid hl
  clear hl
  go_enter Tryd.func87, Tryd.ntmps87
  go_wp2
  go_loopw [4, 5, 6, 9] (fun _ _ _ i wr => LeaseAtInv xs s n w i wr) (fun _ _ _ i _ => n - (intOf i).toNat)
  case atStart => exact ⟨0, Nat.zero_le _, rfl, by simp, Below.refl _ _⟩
  case round =>
    obtain ⟨k, hk, rfl, hnone, hb⟩ := hrel
    have Hnone := Lib.hid hnone
    have Hb := Lib.hid hb
    have hsz := hb.size
    clear hnone
    by_cases hlt : k < n
    · obtain ⟨x, hf⟩ : ∃ x, xs[k]? = some x := ⟨_, List.getElem?_eq_getElem (by rw [Hl.out]; exact hlt)⟩
      obtain ⟨b, off, rfl, hbB, hc⟩ := (hx.below hb).rec_ leaseV_len Hl.out hf
      have Hf := Lib.hid hf
      obtain ⟨job, node, till⟩ := x
      have c0 : wr.cell? ⟨b, off + k * 3, none⟩ = some (.string job) := hc 0 _ rfl
      have c1 : wr.cell? ⟨b, off + k * 3 + 1, none⟩ = some (.string node) := hc 1 _ rfl
      have c2 : wr.cell? ⟨b, off + k * 3 + 2, none⟩ = some (.int .i64 till) := hc 2 _ rfl
      clear hc hf hx hb
      have hlb : b < wr.heap.size := by omega
      have hBa := Lib.hid (Hb.out.alloc Hb.out.size (.cells #[.string job, .string node, .int .i64 till] 59))
      by_cases hs : job = s
      · subst hs
        have e1 := beq_same job
        have fin := Lib.hid (find_hit Hnone.out Hf.out (by simp))
        go_wp2
        go_ret
        exact ⟨_, rfl, hBa.out, .inr ⟨k, _, rfl, Hf.out, fin.out⟩⟩
      · have e1 := beq_diff hs
        have fin := Lib.hid (find_miss Hnone.out Hf.out (by simp [hs]))
        go_wp2
        go_roundw
        case rel => exact ⟨k + 1, by omega, by go_num, fin.out, hBa.out⟩
        case measure => simp [intOf]; omega
    · have fin := Lib.hid (find_out Hnone.out (by rw [Hl.out]; omega))
      clear hx
      go_wp2
      go_ret
      exact ⟨_, rfl, Hb.out, .inl ⟨rfl, fin.out⟩⟩
def NamesOk' (xs : List ByteArray) : Prop := ∀ x ∈ xs, x.size ≤ 9223372036854775807
end Go.Proofs.YtbbagnfmoecdfaaDoor
