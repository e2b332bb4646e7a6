/- The walks of slices.IndexFunc and ContainsFunc at rows of records, for any function value that answers a predicate. -/
import Derived.Test.YtonipllegfgdiaaDoorRowsL
import Derived.Test.YtonipllegfgdiaaDoorBase
set_option linter.unusedVariables false
set_option linter.unusedSimpArgs false
namespace Go.Proofs.YtonipllegfgdiaaDoor
open Go.RowKit
/-- A function value that answers a predicate of a row: whatever the world above. -/
def Answers {α : Type} (p : α → Bool) (F : FuncId) (caps : Array Value) (enc : α → List Value) (xs : List α) (w : World) : Prop :=
  ∀ W, Below w.heap.size w W → ∀ x ∈ xs, Calls Tryd.prog F (#[.agg (enc x).toArray] ++ caps) W fun e W' => e = .returned (.bool (p x)) ∧ Below W.heap.size W W'
def IxInv {α : Type} (p : α → Bool) (xs : List α) (n : Nat) (w : World) (i : Value) (wr : World) : Prop := ∃ k : Nat, k ≤ n ∧ i = .int .i64 k ∧ (xs.take k).any p = false ∧ Below w.heap.size w wr
def IxPost {α : Type} (p : α → Bool) (xs : List α) (w : World) (e : Ending) (w' : World) : Prop :=
  ∃ i : Int, e = .returned (.int .i64 i) ∧ Below w.heap.size w w' ∧ ((i = -1 ∧ xs.any p = false) ∨ (0 ≤ i ∧ xs.any p = true))
theorem any_hit {α : Type} {p : α → Bool} {xs : List α} {k : Nat} {x : α} (h : xs[k]? = some x) (hp : p x = true) : xs.any p = true := List.any_eq_true.2 ⟨x, List.mem_of_getElem? h, hp⟩
theorem any_miss {α : Type} {p : α → Bool} {xs : List α} {k : Nat} {x : α} (h : xs[k]? = some x) (ht : (xs.take k).any p = false) (hp : p x = false) : (xs.take (k + 1)).any p = false := by
  rw [List.take_add_one, h, List.any_append, ht]; simp [hp]
theorem any_out {α : Type} {p : α → Bool} {xs : List α} {k : Nat} (ht : (xs.take k).any p = false) (hk : xs.length ≤ k) : xs.any p = false := by rwa [List.take_of_length_le hk] at ht

set_option maxRecDepth 100000 in
set_option maxHeartbeats 1000000 in
theorem ixf_lease (p : LeaseD → Bool) (F : FuncId) (caps : Array Value) (xs : List LeaseD) (A : Option Addr) (n c : Nat) (w : World) (hent : ∀ args w, (callFunc F args).run Tryd.prog w = .ok (.enter F args) w) (hx : SlAt w w.heap.size 3 A n (rowsV leaseV xs)) (hl : xs.length = n) (hn : n ≤ 9223372036854775807) (hp : Answers p F caps leaseV xs w) :
    Calls Tryd.prog 145 #[.slice A n c, .func (.func F) #[] caps] w (IxPost p xs w) := by
  have Hl := Lib.hid hl
  have Hp := Lib.hid hp
  clear hl hp
  go_enter Tryd.func145, Tryd.ntmps145
  go_wp2
  go_loopw [4, 5, 8, 16] (fun _ _ i _ wr => IxInv p xs n w i wr) (fun _ _ i _ _ => n - (intOf i).toNat)
  case atStart => exact ⟨0, Nat.zero_le _, rfl, by simp, Below.refl _ _⟩
  case round =>
    obtain ⟨k, hk, rfl, hnone, hb⟩ := hrel
    have Hnone := Lib.hid hnone
    have Hb := Lib.hid hb
    have hsz := hb.size
    clear hnone
    by_cases hlt : k < n
    · obtain ⟨x, hf⟩ : ∃ x, xs[k]? = some x := ⟨_, List.getElem?_eq_getElem (by rw [Hl.out]; exact hlt)⟩
      obtain ⟨b, off, rfl, hbB, hc⟩ := (hx.below hb).rec_ leaseV_len Hl.out hf
      have Hf := Lib.hid hf
      have hcon := Lib.hid (Hp.out wr hb x (List.mem_of_getElem? hf))
      obtain ⟨t, ht⟩ : ∃ t, p x = t := ⟨_, rfl⟩
      rw [ht] at hcon
      have Ht := Lib.hid ht
      obtain ⟨job, node, till⟩ := x
      have c0 : wr.cell? ⟨b, off + k * 3, none⟩ = some (.string job) := hc 0 _ rfl
      have c1 : wr.cell? ⟨b, off + k * 3 + 1, none⟩ = some (.string node) := hc 1 _ rfl
      have c2 : wr.cell? ⟨b, off + k * 3 + 2, none⟩ = some (.int .i64 till) := hc 2 _ rfl
      have hcon := Lib.hid (show Calls Tryd.prog F (#[.agg #[.string job, .string node, .int .i64 till]] ++ caps) wr fun e W' => e = .returned (.bool t) ∧ Below wr.heap.size wr W' from hcon.out)
      clear hc hf hx hb ht
      have hlb : b < wr.heap.size := by omega
      go_wp2_with fail
      refine Calls.mono hcon.out ?_
      rintro e w2 ⟨rfl, hb2⟩
      have Hb2 := Lib.hid (Hb.out.trans (hb2.mono Hb.out.size))
      clear hcon hb2
      cases t
      · have fin := Lib.hid (any_miss Hf.out Hnone.out Ht.out)
        go_wp2
        go_roundw
        case rel => exact ⟨k + 1, by omega, by go_num, fin.out, Hb2.out⟩
        case measure => simp [intOf]; omega
      · have fin := Lib.hid (any_hit Hf.out Ht.out)
        go_wp2
        go_ret
        exact ⟨_, rfl, Hb2.out, .inr ⟨by omega, fin.out⟩⟩
    · have fin := Lib.hid (any_out Hnone.out (by rw [Hl.out]; omega))
      clear hx
      go_wp2
      go_ret
      exact ⟨_, rfl, Hb.out, .inl ⟨rfl, fin.out⟩⟩
set_option maxRecDepth 100000 in
theorem hasf_lease (p : LeaseD → Bool) (F : FuncId) (caps : Array Value) (xs : List LeaseD) (A : Option Addr) (n c : Nat) (w : World) (hent : ∀ args w, (callFunc F args).run Tryd.prog w = .ok (.enter F args) w) (hx : SlAt w w.heap.size 3 A n (rowsV leaseV xs)) (hl : xs.length = n) (hn : n ≤ 9223372036854775807) (hp : Answers p F caps leaseV xs w) :
    Calls Tryd.prog 111 #[.slice A n c, .func (.func F) #[] caps] w fun e w' => e = .returned (.bool (xs.any p)) ∧ Below w.heap.size w w' := by
  have hC := Lib.hid (ixf_lease p F caps xs A n c w hent hx hl hn hp)
  clear hx hl hn hp hent
  go_enter Tryd.func111, Tryd.ntmps111
  go_wp2_with fail
  refine Calls.mono hC.out ?_
  rintro e w2 ⟨i, rfl, hb2, hcase⟩
  rcases hcase with ⟨rfl, hn⟩ | ⟨hi, hn⟩
  · go_wp2
    go_ret
    exact ⟨ret_bool hn.symm, hb2⟩
  · have d0 : decide (0 ≤ i) = true := decide_eq_true hi
    go_wp2
    go_ret
    exact ⟨ret_bool hn.symm, hb2⟩
end Go.Proofs.YtonipllegfgdiaaDoor
