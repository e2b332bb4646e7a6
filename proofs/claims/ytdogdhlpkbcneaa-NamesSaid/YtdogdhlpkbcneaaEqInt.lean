/- Eq at int; the law Names. -/
import Derived.Test.YtdogdhlpkbcneaaMem
namespace Go.Proofs.Ytdogdhlpkbcneaa
open Go.RowKit

def ints (zs : List Int) : List Value := zs.map (.int .i64)
theorem ints_get {zs : List Int} {j : Nat} {u : Value} (h : (ints zs)[j]? = some u) : ∃ z, zs[j]? = some z ∧ u = .int .i64 z := by
  unfold ints at h; rw [List.getElem?_map] at h
  cases hz : zs[j]? with
  | none => rw [hz] at h; cases h
  | some z => rw [hz] at h; injection h with h; exact ⟨z, rfl, h.symm⟩
theorem take_succ_of {α : Type} {xs : List α} {k : Nat} {x : α} (h : xs[k]? = some x) : xs.take (k + 1) = xs.take k ++ [x] := by
  rw [List.take_add_one, h]; rfl
theorem take_eq_step {α : Type} {xs ys : List α} {k : Nat} {x : α} (hx : xs[k]? = some x) (hy : ys[k]? = some x) (h : xs.take k = ys.take k) : xs.take (k + 1) = ys.take (k + 1) := by
  rw [take_succ_of hx, take_succ_of hy, h]
theorem ne_of_at {α : Type} {xs ys : List α} {k : Nat} {x y : α} (hx : xs[k]? = some x) (hy : ys[k]? = some y) (h : x ≠ y) : xs ≠ ys := by
  rintro rfl; rw [hx] at hy; injection hy with hy; exact h hy

theorem eq_int_any (xs ys : List Int) (A A' : Option Addr) (n m c c' B : Nat) (w : World) (hx : SlAt w B 1 A n (ints xs)) (hy : SlAt w B 1 A' m (ints ys)) (hn : n ≤ 9223372036854775807) (hm : m ≤ 9223372036854775807) :
    Calls Try.prog 12 #[.slice A n c, .slice A' m c'] w fun e w' => e = .returned (.bool (decide (xs = ys))) ∧ w = w' := by
  have lx : xs.length = n := by simpa [ints] using hx.len
  have ly : ys.length = m := by simpa [ints] using hy.len
  by_cases h : n = m
  · subst h
    have h0 : ((n : Int) != n) = false := by simp
    have Lx := Lib.hid lx
    have Ly := Lib.hid ly
    clear lx ly
    go_enter Try.func12, Try.ntmps12
    go_wp2
    go_loop [5, 6, 14] (fun _ _ i => ∃ k : Nat, k ≤ n ∧ i = .int .i64 k ∧ xs.take k = ys.take k) (fun _ _ i => n - (intOf i).toNat)
    case atStart => exact ⟨0, Nat.zero_le _, rfl, rfl⟩
    case round =>
      obtain ⟨k, hk, rfl, he⟩ := hrel
      have He := Lib.hid he
      clear he
      by_cases hlt : k < n
      · obtain ⟨b, off, u, rfl, hb, hu, hc⟩ := hx.cell (j := k) (by omega)
        obtain ⟨b', off', u', rfl, hb', hu', hc'⟩ := hy.cell (j := k) (by omega)
        obtain ⟨x, hxk, rfl⟩ := ints_get hu
        obtain ⟨y, hyk, rfl⟩ := ints_get hu'
        have Hx := Lib.hid hxk
        have Hy := Lib.hid hyk
        clear hxk hyk hu hu' hx hy
        by_cases hxy : x = y
        · subst hxy
          have e1 : (x != x) = false := by simp
          go_wp2
          go_round
          case rel => exact ⟨k + 1, by omega, by go_num, take_eq_step Hx.out Hy.out He.out⟩
          case measure => simp [intOf]; omega
        · have e1 : (x != y) = true := by simpa using hxy
          have fin := Lib.hid (show decide (xs = ys) = false from decide_eq_false (ne_of_at Hx.out Hy.out hxy))
          clear hxy
          go_wp2
          go_ret
          exact ⟨ret_bool fin.out.symm, rfl⟩
      · have fin := Lib.hid (show decide (xs = ys) = true from decide_eq_true (by
          have e := He.out
          rwa [List.take_of_length_le (by rw [Lx.out]; omega), List.take_of_length_le (by rw [Ly.out]; omega)] at e))
        go_wp2
        go_ret
        exact ⟨ret_bool fin.out.symm, rfl⟩
  · have h0 : ((n : Int) != m) = true := by simp; omega
    have fin := Lib.hid (show decide (xs = ys) = false from decide_eq_false (by rintro rfl; omega))
    clear lx ly
    go_enter Try.func12, Try.ntmps12
    go_wp2
    go_ret
    exact ⟨ret_bool fin.out.symm, rfl⟩
end Go.Proofs.Ytdogdhlpkbcneaa
