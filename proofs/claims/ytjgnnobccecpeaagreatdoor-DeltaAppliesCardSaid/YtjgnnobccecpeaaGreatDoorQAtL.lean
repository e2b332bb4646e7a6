/- Of the proof of a statement: StTop, HasFL, AtL. -/
import Derived.Test.YtjgnnobccecpeaaGreatDoorQPlGone
import Derived.Test.YtjgnnobccecpeaaGreatDoorQStChk
import Derived.Test.YtjgnnobccecpeaaGreatDoorQStChkS
set_option linter.unusedVariables false
set_option linter.unusedSimpArgs false
/- The walks of state.Check and of the law's bad state. -/
namespace Go.Proofs.YtjgnnobccecpeaaGreatDoor
open Go.RowKit
set_option maxRecDepth 100000 in
set_option maxHeartbeats 1000000 in
theorem scheck_any (st : StateD) (x : StA) (w : World) (hS : StAt w w.heap.size st x) (hT : Tabs w) :
    Calls Tryz.prog 27 #[.agg (stC st x)] w fun e w' => e = .returned (.int .i64 (checkE st)) ∧ Below w.heap.size w w' := by
  have hb1 : Below w.heap.size w (w.alloc (.cells (stC st x) 26)) := (Below.refl _ _).alloc (Nat.le_refl _) _
  have hC := Lib.hid (check_any st x _ ((hS.below hb1).more hb1.size) (hT.below hb1))
  have Hb1 := Lib.hid hb1
  clear hb1 hS hT
  obtain ⟨E, hE⟩ : ∃ E, checkE st = E := ⟨_, rfl⟩
  rw [hE]
  have HE := Lib.hid hE
  clear hE
  obtain ⟨rev, jobs, nodes, leases⟩ := st
  obtain ⟨aj, nj, cj, an, nn, cn, al, nl, cl⟩ := x
  simp only [stC] at *
  go_enter Tryz.func27, Tryz.ntmps27
  go_wp2_with fail
  refine Calls.mono hC.out ?_
  rintro e w1 ⟨hb, hcase⟩
  have Hb := Lib.hid (Hb1.out.trans (hb.mono Hb1.out.size))
  clear hb hC
  rw [HE.out] at hcase
  clear HE
  rcases hcase with ⟨hE, rfl⟩ | ⟨rfl, T, b1, b2, b3, n1, n2, n3, g3, rfl, -, -⟩
  · go_wp2
    refine bodyPost_ret (v := .int .i64 E) (by simp [results, Tryz.results27, go_sem]) rfl ⟨rfl, Hb.out⟩
  · go_wp2
    refine bodyPost_ret (v := .int .i64 0) (by simp [results, Tryz.results27, go_sem]) rfl ⟨rfl, Hb.out⟩
end Go.Proofs.YtjgnnobccecpeaaGreatDoor
/- The walks of slices.IndexFunc and ContainsFunc at rows of records, for any function value that answers a predicate. -/
namespace Go.Proofs.YtjgnnobccecpeaaGreatDoor
open Go.RowKit
/-- A function value that answers a predicate of a row: whatever the world above. -/
def Answers {α : Type} (p : α → Bool) (F : FuncId) (caps : Array Value) (enc : α → List Value) (xs : List α) (w : World) : Prop :=
  ∀ W, Below w.heap.size w W → ∀ x ∈ xs, Calls Tryz.prog F (#[.agg (enc x).toArray] ++ caps) W fun e W' => e = .returned (.bool (p x)) ∧ Below W.heap.size W W'
theorem any_hit {α : Type} {p : α → Bool} {xs : List α} {k : Nat} {x : α} (h : xs[k]? = some x) (hp : p x = true) : xs.any p = true := List.any_eq_true.2 ⟨x, List.mem_of_getElem? h, hp⟩
theorem any_miss {α : Type} {p : α → Bool} {xs : List α} {k : Nat} {x : α} (h : xs[k]? = some x) (ht : (xs.take k).any p = false) (hp : p x = false) : (xs.take (k + 1)).any p = false := by
  rw [List.take_add_one, h, List.any_append, ht]; simp [hp]
theorem any_out {α : Type} {p : α → Bool} {xs : List α} {k : Nat} (ht : (xs.take k).any p = false) (hk : xs.length ≤ k) : xs.any p = false := by rwa [List.take_of_length_le hk] at ht
end Go.Proofs.YtjgnnobccecpeaaGreatDoor
/- The walk of LeaseAt in the reference. -/
namespace Go.Proofs.YtjgnnobccecpeaaGreatDoor
open Go.RowKit
def LeaseAtPost (xs : List LeaseD) (s : ByteArray) (w : World) (e : Ending) (w' : World) : Prop :=
  ∃ i : Int, e = .returned (.int .i64 i) ∧ Below w.heap.size w w' ∧ ((i = -1 ∧ leaseOf xs s = none) ∨ ∃ (k : Nat) (x : LeaseD), i = (k : Int) ∧ xs[k]? = some x ∧ leaseOf xs s = some x)
def LeaseAtInv (xs : List LeaseD) (s : ByteArray) (n : Nat) (w : World) (i : Value) (wr : World) : Prop := ∃ k : Nat, k ≤ n ∧ i = .int .i64 k ∧ (xs.take k).find? (fun x => decide (x.job = s)) = none ∧ Below w.heap.size w wr
set_option maxRecDepth 100000 in
set_option maxHeartbeats 1000000 in
theorem leaseAt_any (xs : List LeaseD) (s : ByteArray) (A : Option Addr) (n c : Nat) (w : World) (hx : SlAt w w.heap.size 3 A n (rowsV leaseV xs)) (hl : xs.length = n) (hn : n ≤ 9223372036854775807) :
    Calls Tryz.prog 52 #[.slice A n c, .string s] w (LeaseAtPost xs s w) := by
  have Hl := Lib.hid hl
  clear hl
  go_enter Tryz.func52, Tryz.ntmps52
  go_wp2
  go_loopw [4, 5, 6, 9] (fun _ _ _ i wr => LeaseAtInv xs s n w i wr) (fun _ _ _ i _ => n - (intOf i).toNat)
  case atStart => exact ⟨0, Nat.zero_le _, rfl, by simp, Below.refl _ _⟩
  case round =>
    obtain ⟨k, hk, rfl, hnone, hb⟩ := hrel
    have Hnone := Lib.hid hnone
    have Hb := Lib.hid hb
    have hsz := hb.size
    clear hnone
    by_cases hlt : k < n
    · obtain ⟨x, hf⟩ : ∃ x, xs[k]? = some x := ⟨_, List.getElem?_eq_getElem (by rw [Hl.out]; exact hlt)⟩
      obtain ⟨b, off, rfl, hbB, hc⟩ := (hx.below hb).rec_ leaseV_len Hl.out hf
      have Hf := Lib.hid hf
      obtain ⟨job, node, till⟩ := x
      have c0 : wr.cell? ⟨b, off + k * 3, none⟩ = some (.string job) := hc 0 _ rfl
      have c1 : wr.cell? ⟨b, off + k * 3 + 1, none⟩ = some (.string node) := hc 1 _ rfl
      have c2 : wr.cell? ⟨b, off + k * 3 + 2, none⟩ = some (.int .i64 till) := hc 2 _ rfl
      clear hc hf hx hb
      have hlb : b < wr.heap.size := by omega
      have hBa := Lib.hid (Hb.out.alloc Hb.out.size (.cells #[.string job, .string node, .int .i64 till] 42))
      by_cases hs : job = s
      · subst hs
        have e1 := beq_same job
        have fin := Lib.hid (find_hit Hnone.out Hf.out (by simp))
        go_wp2
        go_ret
        exact ⟨_, rfl, hBa.out, .inr ⟨k, _, rfl, Hf.out, fin.out⟩⟩
      · have e1 := beq_diff hs
        have fin := Lib.hid (find_miss Hnone.out Hf.out (by simp [hs]))
        go_wp2
        go_roundw
        case rel => exact ⟨k + 1, by omega, by go_num, fin.out, hBa.out⟩
        case measure => simp [intOf]; omega
    · have fin := Lib.hid (find_out Hnone.out (by rw [Hl.out]; omega))
      clear hx
      go_wp2
      go_ret
      exact ⟨_, rfl, Hb.out, .inl ⟨rfl, fin.out⟩⟩
def NamesOk' (xs : List ByteArray) : Prop := ∀ x ∈ xs, x.size ≤ 9223372036854775807
end Go.Proofs.YtjgnnobccecpeaaGreatDoor
