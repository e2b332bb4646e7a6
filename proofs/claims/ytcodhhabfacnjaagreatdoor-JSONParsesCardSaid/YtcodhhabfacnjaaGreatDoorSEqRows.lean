/- Of the proof of a statement: EqRows. -/
import Derived.BigQuiet
import Derived.Deep.QuietTactic
import Derived.Test.YtcodhhabfacnjaaGreatDoorSStAt
set_option linter.unusedVariables false
set_option linter.unusedSimpArgs false
/- Eq of the reference at rows of records: true just where the lists are the same. -/
namespace Go.Proofs.YtcodhhabfacnjaaGreatDoor
open Go.RowKit
theorem take_succ_ofE {α : Type} {xs : List α} {k : Nat} {x : α} (h : xs[k]? = some x) : xs.take (k + 1) = xs.take k ++ [x] := by
  rw [List.take_add_one, h]; rfl
theorem take_eq_stepE {α : Type} {xs ys : List α} {k : Nat} {x : α} (hx : xs[k]? = some x) (hy : ys[k]? = some x) (h : xs.take k = ys.take k) : xs.take (k + 1) = ys.take (k + 1) := by
  rw [take_succ_ofE hx, take_succ_ofE hy, h]
theorem ne_of_atE {α : Type} {xs ys : List α} {k : Nat} {x y : α} (hx : xs[k]? = some x) (hy : ys[k]? = some y) (h : x ≠ y) : xs ≠ ys := by
  rintro rfl; rw [hx] at hy; injection hy with hy; exact h hy
theorem bytes_ext {a b : ByteArray} (h : a.toList = b.toList) : a = b := by rw [ByteArray.toList_eq, ByteArray.toList_eq] at h; exact ByteArray.ext (Array.toList_inj.1 h)
def EqInv {α : Type} (xs ys : List α) (n : Nat) (w : World) (i : Value) (wr : World) : Prop := ∃ k : Nat, k ≤ n ∧ i = .int .i64 k ∧ xs.take k = ys.take k ∧ Below w.heap.size w wr
def EqPost {α : Type} (xs ys : List α) (w : World) (e : Ending) (w' : World) : Prop := ∃ t : Bool, e = .returned (.bool t) ∧ (t = true ↔ xs = ys) ∧ Below w.heap.size w w'
theorem neqv_job (x_name y_name x_tag y_tag : ByteArray) (x_prio y_prio x_need y_need x_tries y_tries : Int) : ∃ t : Bool, (t = true ↔ (⟨x_name, x_prio, x_need, x_tries, x_tag⟩ : JobD) = ⟨y_name, y_prio, y_need, y_tries, y_tag⟩) ∧ (∀ W, (binOp .neq 39 (.agg #[.string x_name, .int .i64 x_prio, .int .i64 x_need, .int .i64 x_tries, .string x_tag]) (.agg #[.string y_name, .int .i64 y_prio, .int .i64 y_need, .int .i64 y_tries, .string y_tag])).run Tryz.prog W = .ok (.bool (!t)) W) ∧ (∀ W, (binOp .eql 39 (.agg #[.string x_name, .int .i64 x_prio, .int .i64 x_need, .int .i64 x_tries, .string x_tag]) (.agg #[.string y_name, .int .i64 y_prio, .int .i64 y_need, .int .i64 y_tries, .string y_tag])).run Tryz.prog W = .ok (.bool t) W) := by
  by_cases h : (⟨x_name, x_prio, x_need, x_tries, x_tag⟩ : JobD) = ⟨y_name, y_prio, y_need, y_tries, y_tag⟩
  · injection h with h0 h1 h2 h3 h4
    subst h0; subst h1; subst h2; subst h3; subst h4
    exact ⟨true, ⟨fun _ => rfl, fun _ => rfl⟩, fun W => by simp [go_sem], fun W => by simp [go_sem]⟩
  · refine ⟨false, ⟨fun h' => (by cases h'), fun h' => absurd h' h⟩, fun W => ?_, fun W => ?_⟩
    · by_cases e0 : x_name.toList = y_name.toList
      rotate_left
      · simp [go_sem, e0]
      by_cases e1 : x_prio = y_prio
      rotate_left
      · simp [go_sem, e0, e1]
      by_cases e2 : x_need = y_need
      rotate_left
      · simp [go_sem, e0, e1, e2]
      by_cases e3 : x_tries = y_tries
      rotate_left
      · simp [go_sem, e0, e1, e2, e3]
      by_cases e4 : x_tag.toList = y_tag.toList
      rotate_left
      · simp [go_sem, e0, e1, e2, e3, e4]
      refine absurd ?_ h
      have e0 := bytes_ext e0; subst e0
      subst e1
      subst e2
      subst e3
      have e4 := bytes_ext e4; subst e4
      rfl
    · by_cases e0 : x_name.toList = y_name.toList
      rotate_left
      · simp [go_sem, e0]
      by_cases e1 : x_prio = y_prio
      rotate_left
      · simp [go_sem, e0, e1]
      by_cases e2 : x_need = y_need
      rotate_left
      · simp [go_sem, e0, e1, e2]
      by_cases e3 : x_tries = y_tries
      rotate_left
      · simp [go_sem, e0, e1, e2, e3]
      by_cases e4 : x_tag.toList = y_tag.toList
      rotate_left
      · simp [go_sem, e0, e1, e2, e3, e4]
      refine absurd ?_ h
      have e0 := bytes_ext e0; subst e0
      subst e1
      subst e2
      subst e3
      have e4 := bytes_ext e4; subst e4
      rfl
set_option maxRecDepth 100000 in
set_option maxHeartbeats 2000000 in
theorem eq_job (xs ys : List JobD) (A A' : Option Addr) (n m c c' : Nat) (w : World) (hx : SlAt w w.heap.size 5 A n (rowsV jobV xs)) (hy : SlAt w w.heap.size 5 A' m (rowsV jobV ys)) (lx : xs.length = n) (ly : ys.length = m) (hn : n ≤ 9223372036854775807) (hm : m ≤ 9223372036854775807) :
    Calls Tryz.prog 25 #[.slice A n c, .slice A' m c'] w (EqPost xs ys w) := by
  by_cases h : n = m
  · subst h
    have h0 : ((n : Int) != n) = false := by simp
    have Lx := Lib.hid lx
    have Ly := Lib.hid ly
    clear lx ly
    go_enter Tryz.func25, Tryz.ntmps25
    go_wp2
    go_loopw [5, 6, 14] (fun _ _ i wr => EqInv xs ys n w i wr) (fun _ _ i _ => n - (intOf i).toNat)
    case atStart => exact ⟨0, Nat.zero_le _, rfl, rfl, Below.refl _ _⟩
    case round =>
      obtain ⟨k, hk, rfl, he, hb⟩ := hrel
      have He := Lib.hid he
      clear he
      by_cases hlt : k < n
      · obtain ⟨x, hxk⟩ : ∃ x, xs[k]? = some x := ⟨_, List.getElem?_eq_getElem (by rw [Lx.out]; exact hlt)⟩
        obtain ⟨y, hyk⟩ : ∃ y, ys[k]? = some y := ⟨_, List.getElem?_eq_getElem (by rw [Ly.out]; exact hlt)⟩
        obtain ⟨b, off, rfl, hbB, hc⟩ := (hx.below hb).rec_ jobV_len Lx.out hxk
        obtain ⟨b', off', rfl, hbB', hc'⟩ := (hy.below hb).rec_ jobV_len Ly.out hyk
        obtain ⟨x_name, x_prio, x_need, x_tries, x_tag⟩ := x
        obtain ⟨y_name, y_prio, y_need, y_tries, y_tag⟩ := y
        have c0 : wr.cell? ⟨b, off + k * 5, none⟩ = some (.string x_name) := hc 0 _ rfl
        have d0 : wr.cell? ⟨b', off' + k * 5, none⟩ = some (.string y_name) := hc' 0 _ rfl
        have c1 : wr.cell? ⟨b, off + k * 5 + 1, none⟩ = some (.int .i64 x_prio) := hc 1 _ rfl
        have d1 : wr.cell? ⟨b', off' + k * 5 + 1, none⟩ = some (.int .i64 y_prio) := hc' 1 _ rfl
        have c2 : wr.cell? ⟨b, off + k * 5 + 2, none⟩ = some (.int .i64 x_need) := hc 2 _ rfl
        have d2 : wr.cell? ⟨b', off' + k * 5 + 2, none⟩ = some (.int .i64 y_need) := hc' 2 _ rfl
        have c3 : wr.cell? ⟨b, off + k * 5 + 3, none⟩ = some (.int .i64 x_tries) := hc 3 _ rfl
        have d3 : wr.cell? ⟨b', off' + k * 5 + 3, none⟩ = some (.int .i64 y_tries) := hc' 3 _ rfl
        have c4 : wr.cell? ⟨b, off + k * 5 + 4, none⟩ = some (.string x_tag) := hc 4 _ rfl
        have d4 : wr.cell? ⟨b', off' + k * 5 + 4, none⟩ = some (.string y_tag) := hc' 4 _ rfl
        have hsz := hb.size
        have hlt1 : b < wr.heap.size := by omega
        have hlt2 : b' < wr.heap.size := by omega
        have Hb := Lib.hid hb
        have Hxk := Lib.hid hxk
        have Hyk := Lib.hid hyk
        have fin := Lib.hid ((Hb.out.alloc Hb.out.size (.cells #[.string x_name, .int .i64 x_prio, .int .i64 x_need, .int .i64 x_tries, .string x_tag] 39)).drew)
        have step := Lib.hid (fun (h : (⟨x_name, x_prio, x_need, x_tries, x_tag⟩ : JobD) = ⟨y_name, y_prio, y_need, y_tries, y_tag⟩) => take_eq_stepE (hxk.trans (congrArg some h)) hyk He.out)
        have stop := Lib.hid (fun (h : (⟨x_name, x_prio, x_need, x_tries, x_tag⟩ : JobD) ≠ ⟨y_name, y_prio, y_need, y_tries, y_tag⟩) => ne_of_atE hxk hyk h)
        clear hc hc' hx hy hxk hyk hb
        obtain ⟨t, ht, hrun, -⟩ := neqv_job x_name y_name x_tag y_tag x_prio y_prio x_need y_need x_tries y_tries
        have HT := Lib.hid ht
        cases t
        · have stop2 := Lib.hid (stop.out (fun h => absurd (HT.out.2 h) (by decide)))
          have hrun' : ∀ W, (binOp .neq 39 (.agg #[.string x_name, .int .i64 x_prio, .int .i64 x_need, .int .i64 x_tries, .string x_tag]) (.agg #[.string y_name, .int .i64 y_prio, .int .i64 y_need, .int .i64 y_tries, .string y_tag])).run Tryz.prog W = .ok (.bool true) W := hrun
          clear ht hrun step
          go_wp2
          go_region
          go_wp2
          go_ret
          exact ⟨false, rfl, ⟨fun h => (by cases h), fun h => absurd h stop2.out⟩, fin.out⟩
        · have step2 := Lib.hid (step.out (HT.out.1 rfl))
          have hrun' : ∀ W, (binOp .neq 39 (.agg #[.string x_name, .int .i64 x_prio, .int .i64 x_need, .int .i64 x_tries, .string x_tag]) (.agg #[.string y_name, .int .i64 y_prio, .int .i64 y_need, .int .i64 y_tries, .string y_tag])).run Tryz.prog W = .ok (.bool false) W := hrun
          clear ht hrun stop
          go_wp2
          go_region
          go_wp2
          go_roundw
          case rel => exact ⟨k + 1, by omega, by go_num, step2.out, fin.out⟩
          case measure => simp [intOf]; omega
      · have fin := Lib.hid hb
        have same := Lib.hid (show xs = ys by
          have e := He.out
          rwa [List.take_of_length_le (by rw [Lx.out]; omega), List.take_of_length_le (by rw [Ly.out]; omega)] at e)
        clear hb hx hy
        go_wp2
        go_ret
        exact ⟨true, rfl, ⟨fun _ => same.out, fun _ => rfl⟩, fin.out⟩
  · have h0 : ((n : Int) != m) = true := by simp; omega
    have fin := Lib.hid (show xs ≠ ys by rintro rfl; omega)
    clear lx ly hx hy
    go_enter Tryz.func25, Tryz.ntmps25
    go_wp2
    go_ret
    exact ⟨false, rfl, ⟨fun h => (by cases h), fun h => absurd h fin.out⟩, Below.refl _ _⟩
theorem neqv_node (x_name y_name x_zone y_zone : ByteArray) (x_room y_room : Int) : ∃ t : Bool, (t = true ↔ (⟨x_name, x_room, x_zone⟩ : NodeD) = ⟨y_name, y_room, y_zone⟩) ∧ (∀ W, (binOp .neq 43 (.agg #[.string x_name, .int .i64 x_room, .string x_zone]) (.agg #[.string y_name, .int .i64 y_room, .string y_zone])).run Tryz.prog W = .ok (.bool (!t)) W) ∧ (∀ W, (binOp .eql 43 (.agg #[.string x_name, .int .i64 x_room, .string x_zone]) (.agg #[.string y_name, .int .i64 y_room, .string y_zone])).run Tryz.prog W = .ok (.bool t) W) := by
  by_cases h : (⟨x_name, x_room, x_zone⟩ : NodeD) = ⟨y_name, y_room, y_zone⟩
  · injection h with h0 h1 h2
    subst h0; subst h1; subst h2
    exact ⟨true, ⟨fun _ => rfl, fun _ => rfl⟩, fun W => by simp [go_sem], fun W => by simp [go_sem]⟩
  · refine ⟨false, ⟨fun h' => (by cases h'), fun h' => absurd h' h⟩, fun W => ?_, fun W => ?_⟩
    · by_cases e0 : x_name.toList = y_name.toList
      rotate_left
      · simp [go_sem, e0]
      by_cases e1 : x_room = y_room
      rotate_left
      · simp [go_sem, e0, e1]
      by_cases e2 : x_zone.toList = y_zone.toList
      rotate_left
      · simp [go_sem, e0, e1, e2]
      refine absurd ?_ h
      have e0 := bytes_ext e0; subst e0
      subst e1
      have e2 := bytes_ext e2; subst e2
      rfl
    · by_cases e0 : x_name.toList = y_name.toList
      rotate_left
      · simp [go_sem, e0]
      by_cases e1 : x_room = y_room
      rotate_left
      · simp [go_sem, e0, e1]
      by_cases e2 : x_zone.toList = y_zone.toList
      rotate_left
      · simp [go_sem, e0, e1, e2]
      refine absurd ?_ h
      have e0 := bytes_ext e0; subst e0
      subst e1
      have e2 := bytes_ext e2; subst e2
      rfl
set_option maxRecDepth 100000 in
set_option maxHeartbeats 2000000 in
theorem eq_node (xs ys : List NodeD) (A A' : Option Addr) (n m c c' : Nat) (w : World) (hx : SlAt w w.heap.size 3 A n (rowsV nodeV xs)) (hy : SlAt w w.heap.size 3 A' m (rowsV nodeV ys)) (lx : xs.length = n) (ly : ys.length = m) (hn : n ≤ 9223372036854775807) (hm : m ≤ 9223372036854775807) :
    Calls Tryz.prog 26 #[.slice A n c, .slice A' m c'] w (EqPost xs ys w) := by
  by_cases h : n = m
  · subst h
    have h0 : ((n : Int) != n) = false := by simp
    have Lx := Lib.hid lx
    have Ly := Lib.hid ly
    clear lx ly
    go_enter Tryz.func26, Tryz.ntmps26
    go_wp2
    go_loopw [5, 6, 14] (fun _ _ i wr => EqInv xs ys n w i wr) (fun _ _ i _ => n - (intOf i).toNat)
    case atStart => exact ⟨0, Nat.zero_le _, rfl, rfl, Below.refl _ _⟩
    case round =>
      obtain ⟨k, hk, rfl, he, hb⟩ := hrel
      have He := Lib.hid he
      clear he
      by_cases hlt : k < n
      · obtain ⟨x, hxk⟩ : ∃ x, xs[k]? = some x := ⟨_, List.getElem?_eq_getElem (by rw [Lx.out]; exact hlt)⟩
        obtain ⟨y, hyk⟩ : ∃ y, ys[k]? = some y := ⟨_, List.getElem?_eq_getElem (by rw [Ly.out]; exact hlt)⟩
        obtain ⟨b, off, rfl, hbB, hc⟩ := (hx.below hb).rec_ nodeV_len Lx.out hxk
        obtain ⟨b', off', rfl, hbB', hc'⟩ := (hy.below hb).rec_ nodeV_len Ly.out hyk
        obtain ⟨x_name, x_room, x_zone⟩ := x
        obtain ⟨y_name, y_room, y_zone⟩ := y
        have c0 : wr.cell? ⟨b, off + k * 3, none⟩ = some (.string x_name) := hc 0 _ rfl
        have d0 : wr.cell? ⟨b', off' + k * 3, none⟩ = some (.string y_name) := hc' 0 _ rfl
        have c1 : wr.cell? ⟨b, off + k * 3 + 1, none⟩ = some (.int .i64 x_room) := hc 1 _ rfl
        have d1 : wr.cell? ⟨b', off' + k * 3 + 1, none⟩ = some (.int .i64 y_room) := hc' 1 _ rfl
        have c2 : wr.cell? ⟨b, off + k * 3 + 2, none⟩ = some (.string x_zone) := hc 2 _ rfl
        have d2 : wr.cell? ⟨b', off' + k * 3 + 2, none⟩ = some (.string y_zone) := hc' 2 _ rfl
        have hsz := hb.size
        have hlt1 : b < wr.heap.size := by omega
        have hlt2 : b' < wr.heap.size := by omega
        have Hb := Lib.hid hb
        have Hxk := Lib.hid hxk
        have Hyk := Lib.hid hyk
        have fin := Lib.hid ((Hb.out.alloc Hb.out.size (.cells #[.string x_name, .int .i64 x_room, .string x_zone] 43)).drew)
        have step := Lib.hid (fun (h : (⟨x_name, x_room, x_zone⟩ : NodeD) = ⟨y_name, y_room, y_zone⟩) => take_eq_stepE (hxk.trans (congrArg some h)) hyk He.out)
        have stop := Lib.hid (fun (h : (⟨x_name, x_room, x_zone⟩ : NodeD) ≠ ⟨y_name, y_room, y_zone⟩) => ne_of_atE hxk hyk h)
        clear hc hc' hx hy hxk hyk hb
        obtain ⟨t, ht, hrun, -⟩ := neqv_node x_name y_name x_zone y_zone x_room y_room
        have HT := Lib.hid ht
        cases t
        · have stop2 := Lib.hid (stop.out (fun h => absurd (HT.out.2 h) (by decide)))
          have hrun' : ∀ W, (binOp .neq 43 (.agg #[.string x_name, .int .i64 x_room, .string x_zone]) (.agg #[.string y_name, .int .i64 y_room, .string y_zone])).run Tryz.prog W = .ok (.bool true) W := hrun
          clear ht hrun step
          go_wp2
          go_region
          go_wp2
          go_ret
          exact ⟨false, rfl, ⟨fun h => (by cases h), fun h => absurd h stop2.out⟩, fin.out⟩
        · have step2 := Lib.hid (step.out (HT.out.1 rfl))
          have hrun' : ∀ W, (binOp .neq 43 (.agg #[.string x_name, .int .i64 x_room, .string x_zone]) (.agg #[.string y_name, .int .i64 y_room, .string y_zone])).run Tryz.prog W = .ok (.bool false) W := hrun
          clear ht hrun stop
          go_wp2
          go_region
          go_wp2
          go_roundw
          case rel => exact ⟨k + 1, by omega, by go_num, step2.out, fin.out⟩
          case measure => simp [intOf]; omega
      · have fin := Lib.hid hb
        have same := Lib.hid (show xs = ys by
          have e := He.out
          rwa [List.take_of_length_le (by rw [Lx.out]; omega), List.take_of_length_le (by rw [Ly.out]; omega)] at e)
        clear hb hx hy
        go_wp2
        go_ret
        exact ⟨true, rfl, ⟨fun _ => same.out, fun _ => rfl⟩, fin.out⟩
  · have h0 : ((n : Int) != m) = true := by simp; omega
    have fin := Lib.hid (show xs ≠ ys by rintro rfl; omega)
    clear lx ly hx hy
    go_enter Tryz.func26, Tryz.ntmps26
    go_wp2
    go_ret
    exact ⟨false, rfl, ⟨fun h => (by cases h), fun h => absurd h fin.out⟩, Below.refl _ _⟩
theorem neqv_lease (x_job y_job x_node y_node : ByteArray) (x_till y_till : Int) : ∃ t : Bool, (t = true ↔ (⟨x_job, x_node, x_till⟩ : LeaseD) = ⟨y_job, y_node, y_till⟩) ∧ (∀ W, (binOp .neq 47 (.agg #[.string x_job, .string x_node, .int .i64 x_till]) (.agg #[.string y_job, .string y_node, .int .i64 y_till])).run Tryz.prog W = .ok (.bool (!t)) W) ∧ (∀ W, (binOp .eql 47 (.agg #[.string x_job, .string x_node, .int .i64 x_till]) (.agg #[.string y_job, .string y_node, .int .i64 y_till])).run Tryz.prog W = .ok (.bool t) W) := by
  by_cases h : (⟨x_job, x_node, x_till⟩ : LeaseD) = ⟨y_job, y_node, y_till⟩
  · injection h with h0 h1 h2
    subst h0; subst h1; subst h2
    exact ⟨true, ⟨fun _ => rfl, fun _ => rfl⟩, fun W => by simp [go_sem], fun W => by simp [go_sem]⟩
  · refine ⟨false, ⟨fun h' => (by cases h'), fun h' => absurd h' h⟩, fun W => ?_, fun W => ?_⟩
    · by_cases e0 : x_job.toList = y_job.toList
      rotate_left
      · simp [go_sem, e0]
      by_cases e1 : x_node.toList = y_node.toList
      rotate_left
      · simp [go_sem, e0, e1]
      by_cases e2 : x_till = y_till
      rotate_left
      · simp [go_sem, e0, e1, e2]
      refine absurd ?_ h
      have e0 := bytes_ext e0; subst e0
      have e1 := bytes_ext e1; subst e1
      subst e2
      rfl
    · by_cases e0 : x_job.toList = y_job.toList
      rotate_left
      · simp [go_sem, e0]
      by_cases e1 : x_node.toList = y_node.toList
      rotate_left
      · simp [go_sem, e0, e1]
      by_cases e2 : x_till = y_till
      rotate_left
      · simp [go_sem, e0, e1, e2]
      refine absurd ?_ h
      have e0 := bytes_ext e0; subst e0
      have e1 := bytes_ext e1; subst e1
      subst e2
      rfl
set_option maxRecDepth 100000 in
set_option maxHeartbeats 2000000 in
theorem eq_lease (xs ys : List LeaseD) (A A' : Option Addr) (n m c c' : Nat) (w : World) (hx : SlAt w w.heap.size 3 A n (rowsV leaseV xs)) (hy : SlAt w w.heap.size 3 A' m (rowsV leaseV ys)) (lx : xs.length = n) (ly : ys.length = m) (hn : n ≤ 9223372036854775807) (hm : m ≤ 9223372036854775807) :
    Calls Tryz.prog 27 #[.slice A n c, .slice A' m c'] w (EqPost xs ys w) := by
  by_cases h : n = m
  · subst h
    have h0 : ((n : Int) != n) = false := by simp
    have Lx := Lib.hid lx
    have Ly := Lib.hid ly
    clear lx ly
    go_enter Tryz.func27, Tryz.ntmps27
    go_wp2
    go_loopw [5, 6, 14] (fun _ _ i wr => EqInv xs ys n w i wr) (fun _ _ i _ => n - (intOf i).toNat)
    case atStart => exact ⟨0, Nat.zero_le _, rfl, rfl, Below.refl _ _⟩
    case round =>
      obtain ⟨k, hk, rfl, he, hb⟩ := hrel
      have He := Lib.hid he
      clear he
      by_cases hlt : k < n
      · obtain ⟨x, hxk⟩ : ∃ x, xs[k]? = some x := ⟨_, List.getElem?_eq_getElem (by rw [Lx.out]; exact hlt)⟩
        obtain ⟨y, hyk⟩ : ∃ y, ys[k]? = some y := ⟨_, List.getElem?_eq_getElem (by rw [Ly.out]; exact hlt)⟩
        obtain ⟨b, off, rfl, hbB, hc⟩ := (hx.below hb).rec_ leaseV_len Lx.out hxk
        obtain ⟨b', off', rfl, hbB', hc'⟩ := (hy.below hb).rec_ leaseV_len Ly.out hyk
        obtain ⟨x_job, x_node, x_till⟩ := x
        obtain ⟨y_job, y_node, y_till⟩ := y
        have c0 : wr.cell? ⟨b, off + k * 3, none⟩ = some (.string x_job) := hc 0 _ rfl
        have d0 : wr.cell? ⟨b', off' + k * 3, none⟩ = some (.string y_job) := hc' 0 _ rfl
        have c1 : wr.cell? ⟨b, off + k * 3 + 1, none⟩ = some (.string x_node) := hc 1 _ rfl
        have d1 : wr.cell? ⟨b', off' + k * 3 + 1, none⟩ = some (.string y_node) := hc' 1 _ rfl
        have c2 : wr.cell? ⟨b, off + k * 3 + 2, none⟩ = some (.int .i64 x_till) := hc 2 _ rfl
        have d2 : wr.cell? ⟨b', off' + k * 3 + 2, none⟩ = some (.int .i64 y_till) := hc' 2 _ rfl
        have hsz := hb.size
        have hlt1 : b < wr.heap.size := by omega
        have hlt2 : b' < wr.heap.size := by omega
        have Hb := Lib.hid hb
        have Hxk := Lib.hid hxk
        have Hyk := Lib.hid hyk
        have fin := Lib.hid ((Hb.out.alloc Hb.out.size (.cells #[.string x_job, .string x_node, .int .i64 x_till] 47)).drew)
        have step := Lib.hid (fun (h : (⟨x_job, x_node, x_till⟩ : LeaseD) = ⟨y_job, y_node, y_till⟩) => take_eq_stepE (hxk.trans (congrArg some h)) hyk He.out)
        have stop := Lib.hid (fun (h : (⟨x_job, x_node, x_till⟩ : LeaseD) ≠ ⟨y_job, y_node, y_till⟩) => ne_of_atE hxk hyk h)
        clear hc hc' hx hy hxk hyk hb
        obtain ⟨t, ht, hrun, -⟩ := neqv_lease x_job y_job x_node y_node x_till y_till
        have HT := Lib.hid ht
        cases t
        · have stop2 := Lib.hid (stop.out (fun h => absurd (HT.out.2 h) (by decide)))
          have hrun' : ∀ W, (binOp .neq 47 (.agg #[.string x_job, .string x_node, .int .i64 x_till]) (.agg #[.string y_job, .string y_node, .int .i64 y_till])).run Tryz.prog W = .ok (.bool true) W := hrun
          clear ht hrun step
          go_wp2
          go_region
          go_wp2
          go_ret
          exact ⟨false, rfl, ⟨fun h => (by cases h), fun h => absurd h stop2.out⟩, fin.out⟩
        · have step2 := Lib.hid (step.out (HT.out.1 rfl))
          have hrun' : ∀ W, (binOp .neq 47 (.agg #[.string x_job, .string x_node, .int .i64 x_till]) (.agg #[.string y_job, .string y_node, .int .i64 y_till])).run Tryz.prog W = .ok (.bool false) W := hrun
          clear ht hrun stop
          go_wp2
          go_region
          go_wp2
          go_roundw
          case rel => exact ⟨k + 1, by omega, by go_num, step2.out, fin.out⟩
          case measure => simp [intOf]; omega
      · have fin := Lib.hid hb
        have same := Lib.hid (show xs = ys by
          have e := He.out
          rwa [List.take_of_length_le (by rw [Lx.out]; omega), List.take_of_length_le (by rw [Ly.out]; omega)] at e)
        clear hb hx hy
        go_wp2
        go_ret
        exact ⟨true, rfl, ⟨fun _ => same.out, fun _ => rfl⟩, fin.out⟩
  · have h0 : ((n : Int) != m) = true := by simp; omega
    have fin := Lib.hid (show xs ≠ ys by rintro rfl; omega)
    clear lx ly hx hy
    go_enter Tryz.func27, Tryz.ntmps27
    go_wp2
    go_ret
    exact ⟨false, rfl, ⟨fun h => (by cases h), fun h => absurd h fin.out⟩, Below.refl _ _⟩
end Go.Proofs.YtcodhhabfacnjaaGreatDoor
