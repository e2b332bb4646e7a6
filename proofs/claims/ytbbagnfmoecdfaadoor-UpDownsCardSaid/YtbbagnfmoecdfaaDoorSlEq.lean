/- slices.Equal at rows of records: true just where the lists are the same. -/
import Derived.Test.YtbbagnfmoecdfaaDoorEqRows
set_option linter.unusedVariables false
set_option linter.unusedSimpArgs false
namespace Go.Proofs.YtbbagnfmoecdfaaDoor
open Go.RowKit
set_option maxRecDepth 100000 in
set_option maxHeartbeats 2000000 in
theorem sleq_job (xs ys : List JobD) (A A' : Option Addr) (n m c c' : Nat) (w : World) (hx : SlAt w w.heap.size 5 A n (rowsV jobV xs)) (hy : SlAt w w.heap.size 5 A' m (rowsV jobV ys)) (lx : xs.length = n) (ly : ys.length = m) (hn : n ≤ 9223372036854775807) (hm : m ≤ 9223372036854775807) :
    Calls Tryd.prog 48 #[.slice A n c, .slice A' m c'] w (EqPost xs ys w) := by
  by_cases h : n = m
  · subst h
    have h0 : ((n : Int) != n) = false := by simp
    have Lx := Lib.hid lx
    have Ly := Lib.hid ly
    clear lx ly
    go_enter Tryd.func48, Tryd.ntmps48
    go_wp2
    go_loopw [13] (fun i wr => EqInv xs ys n w i wr) (fun i _ => n - (intOf i).toNat)
    case atStart => exact ⟨0, Nat.zero_le _, rfl, rfl, Below.refl _ _⟩
    case round =>
      obtain ⟨k, hk, rfl, he, hb⟩ := hrel
      have He := Lib.hid he
      clear he
      by_cases hlt : k < n
      · obtain ⟨x, hxk⟩ : ∃ x, xs[k]? = some x := ⟨_, List.getElem?_eq_getElem (by rw [Lx.out]; exact hlt)⟩
        obtain ⟨y, hyk⟩ : ∃ y, ys[k]? = some y := ⟨_, List.getElem?_eq_getElem (by rw [Ly.out]; exact hlt)⟩
        obtain ⟨b, off, rfl, hbB, hc⟩ := (hx.below hb).rec_ jobV_len Lx.out hxk
        obtain ⟨b', off', rfl, hbB', hc'⟩ := (hy.below hb).rec_ jobV_len Ly.out hyk
        obtain ⟨x_name, x_prio, x_need, x_tries, x_tag⟩ := x
        obtain ⟨y_name, y_prio, y_need, y_tries, y_tag⟩ := y
        have c0 : wr.cell? ⟨b, off + k * 5, none⟩ = some (.string x_name) := hc 0 _ rfl
        have d0 : wr.cell? ⟨b', off' + k * 5, none⟩ = some (.string y_name) := hc' 0 _ rfl
        have c1 : wr.cell? ⟨b, off + k * 5 + 1, none⟩ = some (.int .i64 x_prio) := hc 1 _ rfl
        have d1 : wr.cell? ⟨b', off' + k * 5 + 1, none⟩ = some (.int .i64 y_prio) := hc' 1 _ rfl
        have c2 : wr.cell? ⟨b, off + k * 5 + 2, none⟩ = some (.int .i64 x_need) := hc 2 _ rfl
        have d2 : wr.cell? ⟨b', off' + k * 5 + 2, none⟩ = some (.int .i64 y_need) := hc' 2 _ rfl
        have c3 : wr.cell? ⟨b, off + k * 5 + 3, none⟩ = some (.int .i64 x_tries) := hc 3 _ rfl
        have d3 : wr.cell? ⟨b', off' + k * 5 + 3, none⟩ = some (.int .i64 y_tries) := hc' 3 _ rfl
        have c4 : wr.cell? ⟨b, off + k * 5 + 4, none⟩ = some (.string x_tag) := hc 4 _ rfl
        have d4 : wr.cell? ⟨b', off' + k * 5 + 4, none⟩ = some (.string y_tag) := hc' 4 _ rfl
        have hsz := hb.size
        have hlt1 : b < wr.heap.size := by omega
        have hlt2 : b' < wr.heap.size := by omega
        have Hb := Lib.hid hb
        have Hxk := Lib.hid hxk
        have Hyk := Lib.hid hyk
        have fin := Lib.hid Hb.out.drew
        have step := Lib.hid (fun (h : (⟨x_name, x_prio, x_need, x_tries, x_tag⟩ : JobD) = ⟨y_name, y_prio, y_need, y_tries, y_tag⟩) => take_eq_stepE (hxk.trans (congrArg some h)) hyk He.out)
        have stop := Lib.hid (fun (h : (⟨x_name, x_prio, x_need, x_tries, x_tag⟩ : JobD) ≠ ⟨y_name, y_prio, y_need, y_tries, y_tag⟩) => ne_of_atE hxk hyk h)
        clear hc hc' hx hy hxk hyk hb
        obtain ⟨t, ht, hrun, -⟩ := neqv_job x_name y_name x_tag y_tag x_prio y_prio x_need y_need x_tries y_tries
        have HT := Lib.hid ht
        cases t
        · have stop2 := Lib.hid (stop.out (fun h => absurd (HT.out.2 h) (by decide)))
          have hrun' : ∀ W, (binOp .neq 49 (.agg #[.string x_name, .int .i64 x_prio, .int .i64 x_need, .int .i64 x_tries, .string x_tag]) (.agg #[.string y_name, .int .i64 y_prio, .int .i64 y_need, .int .i64 y_tries, .string y_tag])).run Tryd.prog W = .ok (.bool true) W := hrun
          clear ht hrun step
          go_wp2
          go_region
          go_wp2
          go_ret
          exact ⟨false, rfl, ⟨fun h => (by cases h), fun h => absurd h stop2.out⟩, fin.out⟩
        · have step2 := Lib.hid (step.out (HT.out.1 rfl))
          have hrun' : ∀ W, (binOp .neq 49 (.agg #[.string x_name, .int .i64 x_prio, .int .i64 x_need, .int .i64 x_tries, .string x_tag]) (.agg #[.string y_name, .int .i64 y_prio, .int .i64 y_need, .int .i64 y_tries, .string y_tag])).run Tryd.prog W = .ok (.bool false) W := hrun
          clear ht hrun stop
          go_wp2
          go_region
          go_wp2
          go_roundw
          case rel => exact ⟨k + 1, by omega, by go_num, step2.out, fin.out⟩
          case measure => simp [intOf]; omega
      · have fin := Lib.hid hb
        have same := Lib.hid (show xs = ys by
          have e := He.out
          rwa [List.take_of_length_le (by rw [Lx.out]; omega), List.take_of_length_le (by rw [Ly.out]; omega)] at e)
        clear hb hx hy
        go_wp2
        go_ret
        exact ⟨true, rfl, ⟨fun _ => same.out, fun _ => rfl⟩, fin.out⟩
  · have h0 : ((n : Int) != m) = true := by simp; omega
    have fin := Lib.hid (show xs ≠ ys by rintro rfl; omega)
    clear lx ly hx hy
    go_enter Tryd.func48, Tryd.ntmps48
    go_wp2
    go_ret
    exact ⟨false, rfl, ⟨fun h => (by cases h), fun h => absurd h fin.out⟩, Below.refl _ _⟩
set_option maxRecDepth 100000 in
set_option maxHeartbeats 2000000 in
theorem sleq_node (xs ys : List NodeD) (A A' : Option Addr) (n m c c' : Nat) (w : World) (hx : SlAt w w.heap.size 3 A n (rowsV nodeV xs)) (hy : SlAt w w.heap.size 3 A' m (rowsV nodeV ys)) (lx : xs.length = n) (ly : ys.length = m) (hn : n ≤ 9223372036854775807) (hm : m ≤ 9223372036854775807) :
    Calls Tryd.prog 49 #[.slice A n c, .slice A' m c'] w (EqPost xs ys w) := by
  by_cases h : n = m
  · subst h
    have h0 : ((n : Int) != n) = false := by simp
    have Lx := Lib.hid lx
    have Ly := Lib.hid ly
    clear lx ly
    go_enter Tryd.func49, Tryd.ntmps49
    go_wp2
    go_loopw [13] (fun i wr => EqInv xs ys n w i wr) (fun i _ => n - (intOf i).toNat)
    case atStart => exact ⟨0, Nat.zero_le _, rfl, rfl, Below.refl _ _⟩
    case round =>
      obtain ⟨k, hk, rfl, he, hb⟩ := hrel
      have He := Lib.hid he
      clear he
      by_cases hlt : k < n
      · obtain ⟨x, hxk⟩ : ∃ x, xs[k]? = some x := ⟨_, List.getElem?_eq_getElem (by rw [Lx.out]; exact hlt)⟩
        obtain ⟨y, hyk⟩ : ∃ y, ys[k]? = some y := ⟨_, List.getElem?_eq_getElem (by rw [Ly.out]; exact hlt)⟩
        obtain ⟨b, off, rfl, hbB, hc⟩ := (hx.below hb).rec_ nodeV_len Lx.out hxk
        obtain ⟨b', off', rfl, hbB', hc'⟩ := (hy.below hb).rec_ nodeV_len Ly.out hyk
        obtain ⟨x_name, x_room, x_zone⟩ := x
        obtain ⟨y_name, y_room, y_zone⟩ := y
        have c0 : wr.cell? ⟨b, off + k * 3, none⟩ = some (.string x_name) := hc 0 _ rfl
        have d0 : wr.cell? ⟨b', off' + k * 3, none⟩ = some (.string y_name) := hc' 0 _ rfl
        have c1 : wr.cell? ⟨b, off + k * 3 + 1, none⟩ = some (.int .i64 x_room) := hc 1 _ rfl
        have d1 : wr.cell? ⟨b', off' + k * 3 + 1, none⟩ = some (.int .i64 y_room) := hc' 1 _ rfl
        have c2 : wr.cell? ⟨b, off + k * 3 + 2, none⟩ = some (.string x_zone) := hc 2 _ rfl
        have d2 : wr.cell? ⟨b', off' + k * 3 + 2, none⟩ = some (.string y_zone) := hc' 2 _ rfl
        have hsz := hb.size
        have hlt1 : b < wr.heap.size := by omega
        have hlt2 : b' < wr.heap.size := by omega
        have Hb := Lib.hid hb
        have Hxk := Lib.hid hxk
        have Hyk := Lib.hid hyk
        have fin := Lib.hid Hb.out.drew
        have step := Lib.hid (fun (h : (⟨x_name, x_room, x_zone⟩ : NodeD) = ⟨y_name, y_room, y_zone⟩) => take_eq_stepE (hxk.trans (congrArg some h)) hyk He.out)
        have stop := Lib.hid (fun (h : (⟨x_name, x_room, x_zone⟩ : NodeD) ≠ ⟨y_name, y_room, y_zone⟩) => ne_of_atE hxk hyk h)
        clear hc hc' hx hy hxk hyk hb
        obtain ⟨t, ht, hrun, -⟩ := neqv_node x_name y_name x_zone y_zone x_room y_room
        have HT := Lib.hid ht
        cases t
        · have stop2 := Lib.hid (stop.out (fun h => absurd (HT.out.2 h) (by decide)))
          have hrun' : ∀ W, (binOp .neq 54 (.agg #[.string x_name, .int .i64 x_room, .string x_zone]) (.agg #[.string y_name, .int .i64 y_room, .string y_zone])).run Tryd.prog W = .ok (.bool true) W := hrun
          clear ht hrun step
          go_wp2
          go_region
          go_wp2
          go_ret
          exact ⟨false, rfl, ⟨fun h => (by cases h), fun h => absurd h stop2.out⟩, fin.out⟩
        · have step2 := Lib.hid (step.out (HT.out.1 rfl))
          have hrun' : ∀ W, (binOp .neq 54 (.agg #[.string x_name, .int .i64 x_room, .string x_zone]) (.agg #[.string y_name, .int .i64 y_room, .string y_zone])).run Tryd.prog W = .ok (.bool false) W := hrun
          clear ht hrun stop
          go_wp2
          go_region
          go_wp2
          go_roundw
          case rel => exact ⟨k + 1, by omega, by go_num, step2.out, fin.out⟩
          case measure => simp [intOf]; omega
      · have fin := Lib.hid hb
        have same := Lib.hid (show xs = ys by
          have e := He.out
          rwa [List.take_of_length_le (by rw [Lx.out]; omega), List.take_of_length_le (by rw [Ly.out]; omega)] at e)
        clear hb hx hy
        go_wp2
        go_ret
        exact ⟨true, rfl, ⟨fun _ => same.out, fun _ => rfl⟩, fin.out⟩
  · have h0 : ((n : Int) != m) = true := by simp; omega
    have fin := Lib.hid (show xs ≠ ys by rintro rfl; omega)
    clear lx ly hx hy
    go_enter Tryd.func49, Tryd.ntmps49
    go_wp2
    go_ret
    exact ⟨false, rfl, ⟨fun h => (by cases h), fun h => absurd h fin.out⟩, Below.refl _ _⟩
end Go.Proofs.YtbbagnfmoecdfaaDoor
