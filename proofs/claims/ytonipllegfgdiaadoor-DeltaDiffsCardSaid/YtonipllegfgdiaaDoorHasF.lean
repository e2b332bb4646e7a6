/- The walks of slices.IndexFunc and ContainsFunc at jobs and nodes, for any function value that answers a predicate. -/
import Derived.Test.YtonipllegfgdiaaDoorHasFL
set_option linter.unusedVariables false
set_option linter.unusedSimpArgs false
namespace Go.Proofs.YtonipllegfgdiaaDoor
open Go.RowKit
set_option maxRecDepth 100000 in
set_option maxHeartbeats 1000000 in
theorem ixf_job (p : JobD → Bool) (F : FuncId) (caps : Array Value) (xs : List JobD) (A : Option Addr) (n c : Nat) (w : World) (hent : ∀ args w, (callFunc F args).run Tryd.prog w = .ok (.enter F args) w) (hx : SlAt w w.heap.size 5 A n (rowsV jobV xs)) (hl : xs.length = n) (hn : n ≤ 9223372036854775807) (hp : Answers p F caps jobV xs w) :
    Calls Tryd.prog 143 #[.slice A n c, .func (.func F) #[] caps] w (IxPost p xs w) := by
  have Hl := Lib.hid hl
  have Hp := Lib.hid hp
  clear hl hp
  go_enter Tryd.func143, Tryd.ntmps143
  go_wp2
  go_loopw [4, 5, 8, 16] (fun _ _ i _ wr => IxInv p xs n w i wr) (fun _ _ i _ _ => n - (intOf i).toNat)
  case atStart => exact ⟨0, Nat.zero_le _, rfl, by simp, Below.refl _ _⟩
  case round =>
    obtain ⟨k, hk, rfl, hnone, hb⟩ := hrel
    have Hnone := Lib.hid hnone
    have Hb := Lib.hid hb
    have hsz := hb.size
    clear hnone
    by_cases hlt : k < n
    · obtain ⟨x, hf⟩ : ∃ x, xs[k]? = some x := ⟨_, List.getElem?_eq_getElem (by rw [Hl.out]; exact hlt)⟩
      obtain ⟨b, off, rfl, hbB, hc⟩ := (hx.below hb).rec_ jobV_len Hl.out hf
      have Hf := Lib.hid hf
      have hcon := Lib.hid (Hp.out wr hb x (List.mem_of_getElem? hf))
      obtain ⟨t, ht⟩ : ∃ t, p x = t := ⟨_, rfl⟩
      rw [ht] at hcon
      have Ht := Lib.hid ht
      obtain ⟨name, prio, need, tries, tag⟩ := x
      have c0 : wr.cell? ⟨b, off + k * 5, none⟩ = some (.string name) := hc 0 _ rfl
      have c1 : wr.cell? ⟨b, off + k * 5 + 1, none⟩ = some (.int .i64 prio) := hc 1 _ rfl
      have c2 : wr.cell? ⟨b, off + k * 5 + 2, none⟩ = some (.int .i64 need) := hc 2 _ rfl
      have c3 : wr.cell? ⟨b, off + k * 5 + 3, none⟩ = some (.int .i64 tries) := hc 3 _ rfl
      have c4 : wr.cell? ⟨b, off + k * 5 + 4, none⟩ = some (.string tag) := hc 4 _ rfl
      have hcon := Lib.hid (show Calls Tryd.prog F (#[.agg #[.string name, .int .i64 prio, .int .i64 need, .int .i64 tries, .string tag]] ++ caps) wr fun e W' => e = .returned (.bool t) ∧ Below wr.heap.size wr W' from hcon.out)
      clear hc hf hx hb ht
      have hlb : b < wr.heap.size := by omega
      go_wp2_with fail
      refine Calls.mono hcon.out ?_
      rintro e w2 ⟨rfl, hb2⟩
      have Hb2 := Lib.hid (Hb.out.trans (hb2.mono Hb.out.size))
      clear hcon hb2
      cases t
      · have fin := Lib.hid (any_miss Hf.out Hnone.out Ht.out)
        go_wp2
        go_roundw
        case rel => exact ⟨k + 1, by omega, by go_num, fin.out, Hb2.out⟩
        case measure => simp [intOf]; omega
      · have fin := Lib.hid (any_hit Hf.out Ht.out)
        go_wp2
        go_ret
        exact ⟨_, rfl, Hb2.out, .inr ⟨by omega, fin.out⟩⟩
    · have fin := Lib.hid (any_out Hnone.out (by rw [Hl.out]; omega))
      clear hx
      go_wp2
      go_ret
      exact ⟨_, rfl, Hb.out, .inl ⟨rfl, fin.out⟩⟩
set_option maxRecDepth 100000 in
theorem hasf_job (p : JobD → Bool) (F : FuncId) (caps : Array Value) (xs : List JobD) (A : Option Addr) (n c : Nat) (w : World) (hent : ∀ args w, (callFunc F args).run Tryd.prog w = .ok (.enter F args) w) (hx : SlAt w w.heap.size 5 A n (rowsV jobV xs)) (hl : xs.length = n) (hn : n ≤ 9223372036854775807) (hp : Answers p F caps jobV xs w) :
    Calls Tryd.prog 107 #[.slice A n c, .func (.func F) #[] caps] w fun e w' => e = .returned (.bool (xs.any p)) ∧ Below w.heap.size w w' := by
  have hC := Lib.hid (ixf_job p F caps xs A n c w hent hx hl hn hp)
  clear hx hl hn hp hent
  go_enter Tryd.func107, Tryd.ntmps107
  go_wp2_with fail
  refine Calls.mono hC.out ?_
  rintro e w2 ⟨i, rfl, hb2, hcase⟩
  rcases hcase with ⟨rfl, hn⟩ | ⟨hi, hn⟩
  · go_wp2
    go_ret
    exact ⟨ret_bool hn.symm, hb2⟩
  · have d0 : decide (0 ≤ i) = true := decide_eq_true hi
    go_wp2
    go_ret
    exact ⟨ret_bool hn.symm, hb2⟩

set_option maxRecDepth 100000 in
set_option maxHeartbeats 1000000 in
theorem ixf_node (p : NodeD → Bool) (F : FuncId) (caps : Array Value) (xs : List NodeD) (A : Option Addr) (n c : Nat) (w : World) (hent : ∀ args w, (callFunc F args).run Tryd.prog w = .ok (.enter F args) w) (hx : SlAt w w.heap.size 3 A n (rowsV nodeV xs)) (hl : xs.length = n) (hn : n ≤ 9223372036854775807) (hp : Answers p F caps nodeV xs w) :
    Calls Tryd.prog 144 #[.slice A n c, .func (.func F) #[] caps] w (IxPost p xs w) := by
  have Hl := Lib.hid hl
  have Hp := Lib.hid hp
  clear hl hp
  go_enter Tryd.func144, Tryd.ntmps144
  go_wp2
  go_loopw [4, 5, 8, 16] (fun _ _ i _ wr => IxInv p xs n w i wr) (fun _ _ i _ _ => n - (intOf i).toNat)
  case atStart => exact ⟨0, Nat.zero_le _, rfl, by simp, Below.refl _ _⟩
  case round =>
    obtain ⟨k, hk, rfl, hnone, hb⟩ := hrel
    have Hnone := Lib.hid hnone
    have Hb := Lib.hid hb
    have hsz := hb.size
    clear hnone
    by_cases hlt : k < n
    · obtain ⟨x, hf⟩ : ∃ x, xs[k]? = some x := ⟨_, List.getElem?_eq_getElem (by rw [Hl.out]; exact hlt)⟩
      obtain ⟨b, off, rfl, hbB, hc⟩ := (hx.below hb).rec_ nodeV_len Hl.out hf
      have Hf := Lib.hid hf
      have hcon := Lib.hid (Hp.out wr hb x (List.mem_of_getElem? hf))
      obtain ⟨t, ht⟩ : ∃ t, p x = t := ⟨_, rfl⟩
      rw [ht] at hcon
      have Ht := Lib.hid ht
      obtain ⟨name, room, zone⟩ := x
      have c0 : wr.cell? ⟨b, off + k * 3, none⟩ = some (.string name) := hc 0 _ rfl
      have c1 : wr.cell? ⟨b, off + k * 3 + 1, none⟩ = some (.int .i64 room) := hc 1 _ rfl
      have c2 : wr.cell? ⟨b, off + k * 3 + 2, none⟩ = some (.string zone) := hc 2 _ rfl
      have hcon := Lib.hid (show Calls Tryd.prog F (#[.agg #[.string name, .int .i64 room, .string zone]] ++ caps) wr fun e W' => e = .returned (.bool t) ∧ Below wr.heap.size wr W' from hcon.out)
      clear hc hf hx hb ht
      have hlb : b < wr.heap.size := by omega
      go_wp2_with fail
      refine Calls.mono hcon.out ?_
      rintro e w2 ⟨rfl, hb2⟩
      have Hb2 := Lib.hid (Hb.out.trans (hb2.mono Hb.out.size))
      clear hcon hb2
      cases t
      · have fin := Lib.hid (any_miss Hf.out Hnone.out Ht.out)
        go_wp2
        go_roundw
        case rel => exact ⟨k + 1, by omega, by go_num, fin.out, Hb2.out⟩
        case measure => simp [intOf]; omega
      · have fin := Lib.hid (any_hit Hf.out Ht.out)
        go_wp2
        go_ret
        exact ⟨_, rfl, Hb2.out, .inr ⟨by omega, fin.out⟩⟩
    · have fin := Lib.hid (any_out Hnone.out (by rw [Hl.out]; omega))
      clear hx
      go_wp2
      go_ret
      exact ⟨_, rfl, Hb.out, .inl ⟨rfl, fin.out⟩⟩
set_option maxRecDepth 100000 in
theorem hasf_node (p : NodeD → Bool) (F : FuncId) (caps : Array Value) (xs : List NodeD) (A : Option Addr) (n c : Nat) (w : World) (hent : ∀ args w, (callFunc F args).run Tryd.prog w = .ok (.enter F args) w) (hx : SlAt w w.heap.size 3 A n (rowsV nodeV xs)) (hl : xs.length = n) (hn : n ≤ 9223372036854775807) (hp : Answers p F caps nodeV xs w) :
    Calls Tryd.prog 109 #[.slice A n c, .func (.func F) #[] caps] w fun e w' => e = .returned (.bool (xs.any p)) ∧ Below w.heap.size w w' := by
  have hC := Lib.hid (ixf_node p F caps xs A n c w hent hx hl hn hp)
  clear hx hl hn hp hent
  go_enter Tryd.func109, Tryd.ntmps109
  go_wp2_with fail
  refine Calls.mono hC.out ?_
  rintro e w2 ⟨i, rfl, hb2, hcase⟩
  rcases hcase with ⟨rfl, hn⟩ | ⟨hi, hn⟩
  · go_wp2
    go_ret
    exact ⟨ret_bool hn.symm, hb2⟩
  · have d0 : decide (0 ≤ i) = true := decide_eq_true hi
    go_wp2
    go_ret
    exact ⟨ret_bool hn.symm, hb2⟩
end Go.Proofs.YtonipllegfgdiaaDoor
