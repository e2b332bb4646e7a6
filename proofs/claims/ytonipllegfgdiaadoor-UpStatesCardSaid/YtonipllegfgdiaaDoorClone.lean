/- The walks of slices.Clone and of Copy at rows of records: a row of the call's own that reads the same. -/
import Derived.Test.YtonipllegfgdiaaDoorTake
set_option linter.unusedVariables false
set_option linter.unusedSimpArgs false
namespace Go.Proofs.YtonipllegfgdiaaDoor
open Go.RowKit
def ClPost {α : Type} (T : TypeId) (sz : Nat) (enc : α → List Value) (xs : List α) (w : World) (e : Ending) (w' : World) : Prop :=
  ∃ A' c', e = .returned (.slice A' xs.length c') ∧ w'.ownsRow w.heap.size T sz (.slice A' xs.length c') xs.length (rowsV enc xs) ∧ Below w.heap.size w w'
theorem ClPost.of_own {α : Type} {T : TypeId} {sz n : Nat} {enc : α → List Value} {xs : List α} {w w' : World} {v : Value} (hl : xs.length = n) (ho : w'.ownsRow w.heap.size T sz v n (rowsV enc xs)) (hb : Below w.heap.size w w') : ClPost T sz enc xs w (.returned v) w' := by
  subst hl
  rcases ho.2 with ⟨rfl, h0⟩ | ⟨g, cap, cur, rfl, _⟩
  · rw [h0] at ho
    exact ⟨none, 0, by rw [h0], by rw [h0]; exact ho, hb⟩
  · exact ⟨some ⟨g, 0, none⟩, cap, rfl, ho, hb⟩
/-- The cells of a slice, by the address as it stands. -/
theorem SlAt.adds {w : World} {B sz n : Nat} {ad : Addr} {xs : List Value} (h : SlAt w B sz (some ad) n xs) : ∀ j u, xs[j]? = some u → w.cell? (ad.add j) = some u := by
  intro j u hu
  have hn : 0 < n := by
    rcases Nat.eq_zero_or_pos n with h0 | h0
    · subst h0
      have : xs = [] := List.eq_nil_of_length_eq_zero (by rw [h.len]; omega)
      subst this; cases hu
    · exact h0
  obtain ⟨b, off, e, hB, hr⟩ := h.at_ hn
  injection e with e
  subst e
  have := hr j u hu
  unfold Addr.add
  split
  · rename_i hj; subst hj; simpa using this
  · exact this
theorem alloc_cell {w : World} {a : Addr} {v : Value} (o : Obj) (h : w.cell? a = some v) : (w.alloc o).cell? a = some v := by
  have hlt : a.block < w.heap.size := by
    rcases Nat.lt_or_ge a.block w.heap.size with h' | h'
    · exact h'
    · simp [World.cell?, Array.getElem?_eq_none h'] at h
  rw [← h]
  have := ((Below.refl w.heap.size w).alloc (Nat.le_refl _) o).block a.block hlt
  unfold World.cell?
  rw [this]

set_option maxRecDepth 100000 in
set_option maxHeartbeats 1000000 in
theorem clone_job (xs : List JobD) (A : Option Addr) (n c : Nat) (w : World) (hx : SlAt w w.heap.size 5 A n (rowsV jobV xs)) (hl : xs.length = n) (hn : n ≤ 1000) :
    Calls Tryd.prog 146 #[.slice A n c] w (ClPost 74 5 jobV xs w) := by
  have qe : ∀ (w : World) (a : Option Addr) (n c n' c' : Nat), (binOp .eql 22 (.slice a n c) (.slice none n' c')).run Tryd.prog w = .ok (.bool a.isNone) w := fun w a n c n' c' => Lib.run_eql_slice_nil w _ _ a n c n' c' Tryd.underlying22
  obtain ⟨i0, hi, hz0, hz1, hz2⟩ := info_parts infoJobT
  cases A with
  | none =>
    have h0 : n = 0 := by
      rcases Nat.eq_zero_or_pos n with h | h
      · exact h
      · obtain ⟨_, _, e, _⟩ := hx.at_ h; cases e
    subst h0
    have hxs : xs = [] := List.eq_nil_of_length_eq_zero hl
    subst hxs
    clear hx hl
    go_enter Tryd.func146, Tryd.ntmps146
    go_wp2
    go_ret
    exact ⟨none, 0, rfl, World.ownsRow_nil _ _ _ _, Below.refl _ _⟩
  | some ad =>
    have hadd := hx.adds
    have hlen : (rowsV jobV xs).length = n * 5 := hx.len
    have H := Lib.hid hadd
    clear hx hadd
    go_enter Tryd.func146, Tryd.ntmps146
    go_wp2_with (at_builtin; refine wpList_append_own_at _ rfl _ _ 22 rfl w.heap.size 74 i0 (.agg #[.string ⟨#[]⟩, .int .i64 0, .int .i64 0, .int .i64 0, .string ⟨#[]⟩]) 5 56 Tryd.underlying22 hi hz0 hz1 hz2 rfl (by decide) (.slice (some ⟨w.heap.size, 0, none⟩) 0 0) 0 [] rfl (World.ownsRow_made w #[] 0 (Nat.le_refl _) (Nat.zero_le _) rfl) ad n c (rowsV jobV xs) rfl hlen (fun j u hu => by have hadd := H.out; exact alloc_cell _ (hadd j u hu)) (fun u hu => by obtain ⟨a, _, ha⟩ := List.mem_flatMap.1 hu; exact jobV_oneT a u ha) (by unfold maxLen; omega) (by omega) (by simp) ?_; intro v' w1 hown hgrow hnil hblk)
    rw [Nat.zero_add, List.nil_append] at hown
    have hfin := Lib.hid (ClPost.of_own hl hown (((Below.refl _ w).alloc (Nat.le_refl _) _).grown hgrow (by simp) (by intro k hk; simp [Value.ownBlock] at hk; omega)))
    clear hown hgrow hnil hblk
    go_wp2
    go_ret
    exact hfin.out
set_option maxRecDepth 100000 in
set_option maxHeartbeats 1000000 in
theorem clone_node (xs : List NodeD) (A : Option Addr) (n c : Nat) (w : World) (hx : SlAt w w.heap.size 3 A n (rowsV nodeV xs)) (hl : xs.length = n) (hn : n ≤ 1000) :
    Calls Tryd.prog 147 #[.slice A n c] w (ClPost 60 3 nodeV xs w) := by
  have qe : ∀ (w : World) (a : Option Addr) (n c n' c' : Nat), (binOp .eql 23 (.slice a n c) (.slice none n' c')).run Tryd.prog w = .ok (.bool a.isNone) w := fun w a n c n' c' => Lib.run_eql_slice_nil w _ _ a n c n' c' Tryd.underlying23
  obtain ⟨i0, hi, hz0, hz1, hz2⟩ := info_parts infoNodeT
  cases A with
  | none =>
    have h0 : n = 0 := by
      rcases Nat.eq_zero_or_pos n with h | h
      · exact h
      · obtain ⟨_, _, e, _⟩ := hx.at_ h; cases e
    subst h0
    have hxs : xs = [] := List.eq_nil_of_length_eq_zero hl
    subst hxs
    clear hx hl
    go_enter Tryd.func147, Tryd.ntmps147
    go_wp2
    go_ret
    exact ⟨none, 0, rfl, World.ownsRow_nil _ _ _ _, Below.refl _ _⟩
  | some ad =>
    have hadd := hx.adds
    have hlen : (rowsV nodeV xs).length = n * 3 := hx.len
    have H := Lib.hid hadd
    clear hx hadd
    go_enter Tryd.func147, Tryd.ntmps147
    go_wp2_with (at_builtin; refine wpList_append_own_at _ rfl _ _ 23 rfl w.heap.size 60 i0 (.agg #[.string ⟨#[]⟩, .int .i64 0, .string ⟨#[]⟩]) 3 40 Tryd.underlying23 hi hz0 hz1 hz2 rfl (by decide) (.slice (some ⟨w.heap.size, 0, none⟩) 0 0) 0 [] rfl (World.ownsRow_made w #[] 0 (Nat.le_refl _) (Nat.zero_le _) rfl) ad n c (rowsV nodeV xs) rfl hlen (fun j u hu => by have hadd := H.out; exact alloc_cell _ (hadd j u hu)) (fun u hu => by obtain ⟨a, _, ha⟩ := List.mem_flatMap.1 hu; exact nodeV_oneT a u ha) (by unfold maxLen; omega) (by omega) (by simp) ?_; intro v' w1 hown hgrow hnil hblk)
    rw [Nat.zero_add, List.nil_append] at hown
    have hfin := Lib.hid (ClPost.of_own hl hown (((Below.refl _ w).alloc (Nat.le_refl _) _).grown hgrow (by simp) (by intro k hk; simp [Value.ownBlock] at hk; omega)))
    clear hown hgrow hnil hblk
    go_wp2
    go_ret
    exact hfin.out
set_option maxRecDepth 100000 in
set_option maxHeartbeats 1000000 in
theorem clone_lease (xs : List LeaseD) (A : Option Addr) (n c : Nat) (w : World) (hx : SlAt w w.heap.size 3 A n (rowsV leaseV xs)) (hl : xs.length = n) (hn : n ≤ 1000) :
    Calls Tryd.prog 148 #[.slice A n c] w (ClPost 71 3 leaseV xs w) := by
  have qe : ∀ (w : World) (a : Option Addr) (n c n' c' : Nat), (binOp .eql 24 (.slice a n c) (.slice none n' c')).run Tryd.prog w = .ok (.bool a.isNone) w := fun w a n c n' c' => Lib.run_eql_slice_nil w _ _ a n c n' c' Tryd.underlying24
  obtain ⟨i0, hi, hz0, hz1, hz2⟩ := info_parts infoLeaseT
  cases A with
  | none =>
    have h0 : n = 0 := by
      rcases Nat.eq_zero_or_pos n with h | h
      · exact h
      · obtain ⟨_, _, e, _⟩ := hx.at_ h; cases e
    subst h0
    have hxs : xs = [] := List.eq_nil_of_length_eq_zero hl
    subst hxs
    clear hx hl
    go_enter Tryd.func148, Tryd.ntmps148
    go_wp2
    go_ret
    exact ⟨none, 0, rfl, World.ownsRow_nil _ _ _ _, Below.refl _ _⟩
  | some ad =>
    have hadd := hx.adds
    have hlen : (rowsV leaseV xs).length = n * 3 := hx.len
    have H := Lib.hid hadd
    clear hx hadd
    go_enter Tryd.func148, Tryd.ntmps148
    go_wp2_with (at_builtin; refine wpList_append_own_at _ rfl _ _ 24 rfl w.heap.size 71 i0 (.agg #[.string ⟨#[]⟩, .string ⟨#[]⟩, .int .i64 0]) 3 40 Tryd.underlying24 hi hz0 hz1 hz2 rfl (by decide) (.slice (some ⟨w.heap.size, 0, none⟩) 0 0) 0 [] rfl (World.ownsRow_made w #[] 0 (Nat.le_refl _) (Nat.zero_le _) rfl) ad n c (rowsV leaseV xs) rfl hlen (fun j u hu => by have hadd := H.out; exact alloc_cell _ (hadd j u hu)) (fun u hu => by obtain ⟨a, _, ha⟩ := List.mem_flatMap.1 hu; exact leaseV_oneT a u ha) (by unfold maxLen; omega) (by omega) (by simp) ?_; intro v' w1 hown hgrow hnil hblk)
    rw [Nat.zero_add, List.nil_append] at hown
    have hfin := Lib.hid (ClPost.of_own hl hown (((Below.refl _ w).alloc (Nat.le_refl _) _).grown hgrow (by simp) (by intro k hk; simp [Value.ownBlock] at hk; omega)))
    clear hown hgrow hnil hblk
    go_wp2
    go_ret
    exact hfin.out
set_option maxRecDepth 100000 in
set_option maxHeartbeats 1000000 in
theorem copy_lease (xs : List LeaseD) (A : Option Addr) (n c : Nat) (w : World) (hx : SlAt w w.heap.size 3 A n (rowsV leaseV xs)) (hl : xs.length = n) (hn : n ≤ 1000) :
    Calls Tryd.prog 116 #[.slice A n c] w (ClPost 71 3 leaseV xs w) := by
  obtain ⟨i0, hi, hz0, hz1, hz2⟩ := info_parts infoLeaseT
  cases A with
  | none =>
    have h0 : n = 0 := by
      rcases Nat.eq_zero_or_pos n with h | h
      · exact h
      · obtain ⟨_, _, e, _⟩ := hx.at_ h; cases e
    subst h0
    have hxs : xs = [] := List.eq_nil_of_length_eq_zero hl
    subst hxs
    clear hx hl
    go_enter Tryd.func116, Tryd.ntmps116
    go_wp2
    go_ret
    exact ⟨none, 0, rfl, World.ownsRow_nil _ _ _ _, Below.refl _ _⟩
  | some ad =>
    have hadd := hx.adds
    have hlen : (rowsV leaseV xs).length = n * 3 := hx.len
    have H := Lib.hid hadd
    clear hx hadd
    go_enter Tryd.func116, Tryd.ntmps116
    go_wp2_with (at_builtin; refine wpList_append_own_at _ rfl _ _ 24 rfl w.heap.size 71 i0 (.agg #[.string ⟨#[]⟩, .string ⟨#[]⟩, .int .i64 0]) 3 40 Tryd.underlying24 hi hz0 hz1 hz2 rfl (by decide) (.slice none 0 0) 0 [] rfl (World.ownsRow_nil _ _ _ _) ad n c (rowsV leaseV xs) rfl hlen (fun j u hu => by have hadd := H.out; exact hadd j u hu) (fun u hu => by obtain ⟨a, _, ha⟩ := List.mem_flatMap.1 hu; exact leaseV_oneT a u ha) (by unfold maxLen; omega) (by omega) (Nat.le_refl _) ?_; intro v' w1 hown hgrow hnil hblk)
    rw [Nat.zero_add, List.nil_append] at hown
    have hfin := Lib.hid (ClPost.of_own hl hown ((Below.refl _ w).grown hgrow (Nat.le_refl _) (by intro k hk; simp [Value.ownBlock] at hk)))
    clear hown hgrow hnil hblk
    go_wp2
    go_ret
    exact hfin.out
end Go.Proofs.YtonipllegfgdiaaDoor
