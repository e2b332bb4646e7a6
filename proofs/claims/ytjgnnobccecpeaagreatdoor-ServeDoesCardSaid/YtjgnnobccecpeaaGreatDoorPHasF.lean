/- Of the proof of a statement: ChkR, HasFL, HasF, SlEqL. -/
import Derived.Test.YtjgnnobccecpeaaGreatDoorPEqRows
set_option linter.unusedVariables false
set_option linter.unusedSimpArgs false
set_option maxRecDepth 100000
set_option maxHeartbeats 8000000
/- The walks of the checks of one row, in the reference. -/
namespace Go.Proofs.YtjgnnobccecpeaaGreatDoor
open Go.Lib (hid)
open Go.RowKit
open Go.Lib (validD)
theorem isNote_any (s : ByteArray) (w : World) (hs : s.size ≤ 9223372036854775807) : Calls Tryz.prog 183 #[.string s] w fun e w' => e = .returned (.bool (txtOk s)) ∧ w = w' := by
 by_cases h : s.size ≤ 16
 · rw [txtOk_short h]
   have hV := hid (rutf_any s w (by omega))
   generalize validD s.data.toList = b at hV ⊢
   go_enter Tryz.func183, Tryz.ntmps183
   go_wp2_with fail
   refine Calls.mono hV.out ?_
   rintro e w1 ⟨rfl, rfl⟩
   go_wp2
   go_ret
   exact ⟨rfl, rfl⟩
 · rw [txtOk_long h]
   go_enter Tryz.func183, Tryz.ntmps183
   go_wp2
   go_ret
   exact ⟨rfl, rfl⟩
theorem rIsName_any (s : ByteArray) (w : World) (hs : s.size ≤ 9223372036854775807) : Calls Tryz.prog 182 #[.string s] w fun e w' => e = .returned (.bool (nameOk s)) ∧ w = w' := by
 by_cases h : s.size = 0
 · rw [nameOk_empty h]
   obtain rfl := empty_of h
   go_enter Tryz.func182, Tryz.ntmps182
   go_wp2
   go_ret
   exact ⟨rfl, rfl⟩
 · rw [nameOk_more h]
   have hV := hid (isNote_any s w hs)
   have e1 := beq_nil h
   have e2 := beq_empty h
   generalize txtOk s = b at hV ⊢
   go_enter Tryz.func182, Tryz.ntmps182
   go_wp2_with fail
   refine Calls.mono hV.out ?_
   rintro e w1 ⟨rfl, rfl⟩
   go_wp2
   go_ret
   exact ⟨rfl, rfl⟩
theorem outside_any (n lo hi : Int) (w : World) : Calls Tryz.prog 29 #[.int .i64 n, .int .i64 lo, .int .i64 hi] w fun e w' => e = .returned (.bool (!ranged n lo hi)) ∧ w = w' := by
 cases h : ranged n lo hi
 · exact outside_yes n lo hi (ranged_not.1 h) w
 · exact outside_no n lo hi (ranged_iff.1 h).1 (ranged_iff.1 h).2 w
theorem jobCheck_any (j : JobD) (w : World) (h1 : j.name.size ≤ 9223372036854775807) (h2 : j.tag.size ≤ 9223372036854775807) :
 Calls Tryz.prog 103 #[.agg (jobV j).toArray] w fun e w' => e = .returned (.int .i64 (jobE j)) ∧ Below w.heap.size w w' := by
 obtain ⟨E, hE⟩ : ∃ E, jobE j = E := ⟨_, rfl⟩
 rw [hE]
 have HE := hid hE
 clear hE
 obtain ⟨name, prio, need, tries, tag⟩ := j
 unfold jobV
 simp only at h1 h2 ⊢
 have HB := hid ((Below.refl w.heap.size w).alloc (Nat.le_refl _) (.cells #[.string name, .int .i64 prio, .int .i64 need, .int .i64 tries, .string tag] 38))
 go_enter Tryz.func103, Tryz.ntmps103
 go_wp2_with fail
 refine Calls.mono (rIsName_any _ _ h1) ?_
 rintro e w1 ⟨rfl, rfl⟩
 cases hn : nameOk name
 · go_wp2
   go_ret
   exact ⟨ret_int (by rw [← HE.out]; simp [jobE, hn]), HB.out⟩
 go_wp2_with fail
 refine Calls.mono (isNote_any _ _ h2) ?_
 rintro e w1 ⟨rfl, rfl⟩
 cases ht : txtOk tag
 · go_wp2
   go_ret
   exact ⟨ret_int (by rw [← HE.out]; simp [jobE, hn, ht]), HB.out⟩
 go_wp2_with fail
 refine Calls.mono (outside_any _ _ _ _) ?_
 rintro e w1 ⟨rfl, rfl⟩
 cases hr0 : ranged prio (-1000) 1000
 · go_wp2
   go_ret
   exact ⟨ret_int (by rw [← HE.out]; simp [jobE, hn, ht, hr0]), HB.out⟩
 go_wp2_with fail
 refine Calls.mono (outside_any _ _ _ _) ?_
 rintro e w1 ⟨rfl, rfl⟩
 cases hr1 : ranged need 0 1000000
 · go_wp2
   go_ret
   exact ⟨ret_int (by rw [← HE.out]; simp [jobE, hn, ht, hr0, hr1]), HB.out⟩
 go_wp2_with fail
 refine Calls.mono (outside_any _ _ _ _) ?_
 rintro e w1 ⟨rfl, rfl⟩
 cases hr2 : ranged tries 0 100
 · go_wp2
   go_ret
   exact ⟨ret_int (by rw [← HE.out]; simp [jobE, hn, ht, hr0, hr1, hr2]), HB.out⟩
 go_wp2
 go_ret
 exact ⟨ret_int (by rw [← HE.out]; simp [jobE, hn, ht, hr0, hr1, hr2]), HB.out⟩
theorem nodeCheck_any (n : NodeD) (w : World) (h1 : n.name.size ≤ 9223372036854775807) (h2 : n.zone.size ≤ 9223372036854775807) :
 Calls Tryz.prog 104 #[.agg (nodeV n).toArray] w fun e w' => e = .returned (.int .i64 (nodeE n)) ∧ Below w.heap.size w w' := by
 obtain ⟨E, hE⟩ : ∃ E, nodeE n = E := ⟨_, rfl⟩
 rw [hE]
 have HE := hid hE
 clear hE
 obtain ⟨name, room, zone⟩ := n
 unfold nodeV
 simp only at h1 h2 ⊢
 have HB := hid ((Below.refl w.heap.size w).alloc (Nat.le_refl _) (.cells #[.string name, .int .i64 room, .string zone] 40))
 go_enter Tryz.func104, Tryz.ntmps104
 go_wp2_with fail
 refine Calls.mono (rIsName_any _ _ h1) ?_
 rintro e w1 ⟨rfl, rfl⟩
 cases hn : nameOk name
 · go_wp2
   go_ret
   exact ⟨ret_int (by rw [← HE.out]; simp [nodeE, hn]), HB.out⟩
 go_wp2_with fail
 refine Calls.mono (isNote_any _ _ h2) ?_
 rintro e w1 ⟨rfl, rfl⟩
 cases ht : txtOk zone
 · go_wp2
   go_ret
   exact ⟨ret_int (by rw [← HE.out]; simp [nodeE, hn, ht]), HB.out⟩
 go_wp2_with fail
 refine Calls.mono (outside_any _ _ _ _) ?_
 rintro e w1 ⟨rfl, rfl⟩
 cases hr0 : ranged room 0 1000000
 · go_wp2
   go_ret
   exact ⟨ret_int (by rw [← HE.out]; simp [nodeE, hn, ht, hr0]), HB.out⟩
 go_wp2
 go_ret
 exact ⟨ret_int (by rw [← HE.out]; simp [nodeE, hn, ht, hr0]), HB.out⟩
end Go.Proofs.YtjgnnobccecpeaaGreatDoor
/- The walks of slices.IndexFunc and ContainsFunc at rows of records, for any function value that answers a predicate. -/
namespace Go.Proofs.YtjgnnobccecpeaaGreatDoor
open Go.Lib (hid)
open Go.RowKit
def Answers {α : Type} (p : α → Bool) (F : FuncId) (caps : Array Value) (enc : α → List Value) (xs : List α) (w : World) : Prop :=
 ∀ W, Below w.heap.size w W → ∀ x ∈ xs, Calls Tryz.prog F (#[.agg (enc x).toArray] ++ caps) W fun e W' => e = .returned (.bool (p x)) ∧ Below W.heap.size W W'
def IxInv {α : Type} (p : α → Bool) (xs : List α) (n : Nat) (w : World) (i : Value) (wr : World) : Prop := ∃ k : Nat, k ≤ n ∧ i = .int .i64 k ∧ (xs.take k).any p = false ∧ Below w.heap.size w wr
def IxPost {α : Type} (p : α → Bool) (xs : List α) (w : World) (e : Ending) (w' : World) : Prop :=
 ∃ i : Int, e = .returned (.int .i64 i) ∧ Below w.heap.size w w' ∧ ((i = -1 ∧ xs.any p = false) ∨ (0 ≤ i ∧ xs.any p = true))
theorem any_hit {α : Type} {p : α → Bool} {xs : List α} {k : Nat} {x : α} (h : xs[k]? = some x) (hp : p x = true) : xs.any p = true := List.any_eq_true.2 ⟨x, List.mem_of_getElem? h, hp⟩
theorem any_miss {α : Type} {p : α → Bool} {xs : List α} {k : Nat} {x : α} (h : xs[k]? = some x) (ht : (xs.take k).any p = false) (hp : p x = false) : (xs.take (k + 1)).any p = false := by
 rw [List.take_add_one, h, List.any_append, ht]; simp [hp]
theorem any_out {α : Type} {p : α → Bool} {xs : List α} {k : Nat} (ht : (xs.take k).any p = false) (hk : xs.length ≤ k) : xs.any p = false := by rwa [List.take_of_length_le hk] at ht
theorem ixf_lease (p : LeaseD → Bool) (F : FuncId) (caps : Array Value) (xs : List LeaseD) (A : Option Addr) (n c : Nat) (w : World) (hent : ∀ args w, (callFunc F args).run Tryz.prog w = .ok (.enter F args) w) (hx : SlAt w w.heap.size 3 A n (rowsV leaseV xs)) (hl : xs.length = n) (hn : n ≤ 9223372036854775807) (hp : Answers p F caps leaseV xs w) :
 Calls Tryz.prog 213 #[.slice A n c, .func (.func F) #[] caps] w (IxPost p xs w) := by
 have Hl := hid hl
 have Hp := hid hp
 clear hl hp
 go_enter Tryz.func213, Tryz.ntmps213
 go_wp2
 go_loopw [4, 5, 8, 16] (fun _ _ i _ wr => IxInv p xs n w i wr) (fun _ _ i _ _ => n - (intOf i).toNat)
 case atStart => exact ⟨0, Nat.zero_le _, rfl, by simp, Below.refl _ _⟩
 case round =>
  obtain ⟨k, hk, rfl, hnone, hb⟩ := hrel
  have Hnone := hid hnone
  have Hb := hid hb
  have hsz := hb.size
  clear hnone
  by_cases hlt : k < n
  · obtain ⟨x, hf⟩ : ∃ x, xs[k]? = some x := ⟨_, List.getElem?_eq_getElem (by rw [Hl.out]; exact hlt)⟩
    obtain ⟨b, off, rfl, hbB, hc⟩ := (hx.below hb).rec_ leaseV_len Hl.out hf
    have Hf := hid hf
    have hcon := hid (Hp.out wr hb x (List.mem_of_getElem? hf))
    obtain ⟨t, ht⟩ : ∃ t, p x = t := ⟨_, rfl⟩
    rw [ht] at hcon
    have Ht := hid ht
    obtain ⟨job, node, till⟩ := x
    obtain ⟨c0, c1, c2⟩ := rc3 hc
    have hcon := hid (show Calls Tryz.prog F (#[.agg #[.string job, .string node, .int .i64 till]] ++ caps) wr fun e W' => e = .returned (.bool t) ∧ Below wr.heap.size wr W' from hcon.out)
    clear hc hf hx hb ht
    have hlb : b < wr.heap.size := by omega
    go_wp2_with fail
    refine Calls.mono hcon.out ?_
    rintro e w2 ⟨rfl, hb2⟩
    have Hb2 := hid (Hb.out.trans (hb2.mono Hb.out.size))
    clear hcon hb2
    cases t
    · have fin := hid (any_miss Hf.out Hnone.out Ht.out)
      go_wp2
      go_roundw
      case rel => exact ⟨k + 1, by omega, by go_num, fin.out, Hb2.out⟩
      case measure => simp [intOf]; omega
    · have fin := hid (any_hit Hf.out Ht.out)
      go_wp2
      go_ret
      exact ⟨_, rfl, Hb2.out, .inr ⟨by omega, fin.out⟩⟩
  · have fin := hid (any_out Hnone.out (by rw [Hl.out]; omega))
    clear hx
    go_wp2
    go_ret
    exact ⟨_, rfl, Hb.out, .inl ⟨rfl, fin.out⟩⟩
theorem hasf_lease (p : LeaseD → Bool) (F : FuncId) (caps : Array Value) (xs : List LeaseD) (A : Option Addr) (n c : Nat) (w : World) (hent : ∀ args w, (callFunc F args).run Tryz.prog w = .ok (.enter F args) w) (hx : SlAt w w.heap.size 3 A n (rowsV leaseV xs)) (hl : xs.length = n) (hn : n ≤ 9223372036854775807) (hp : Answers p F caps leaseV xs w) :
 Calls Tryz.prog 156 #[.slice A n c, .func (.func F) #[] caps] w fun e w' => e = .returned (.bool (xs.any p)) ∧ Below w.heap.size w w' := by
 have hC := hid (ixf_lease p F caps xs A n c w hent hx hl hn hp)
 clear hx hl hn hp hent
 go_enter Tryz.func156, Tryz.ntmps156
 go_wp2_with fail
 refine Calls.mono hC.out ?_
 rintro e w2 ⟨i, rfl, hb2, hcase⟩
 rcases hcase with ⟨rfl, hn⟩ | ⟨hi, hn⟩
 · go_wp2
   go_ret
   exact ⟨ret_bool hn.symm, hb2⟩
 · have d0 : decide (0 ≤ i) = true := decide_eq_true hi
   go_wp2
   go_ret
   exact ⟨ret_bool hn.symm, hb2⟩
end Go.Proofs.YtjgnnobccecpeaaGreatDoor
/- The walks of slices.IndexFunc and ContainsFunc at jobs and nodes, for any function value that answers a predicate. -/
namespace Go.Proofs.YtjgnnobccecpeaaGreatDoor
open Go.Lib (hid)
open Go.RowKit
theorem ixf_job (p : JobD → Bool) (F : FuncId) (caps : Array Value) (xs : List JobD) (A : Option Addr) (n c : Nat) (w : World) (hent : ∀ args w, (callFunc F args).run Tryz.prog w = .ok (.enter F args) w) (hx : SlAt w w.heap.size 5 A n (rowsV jobV xs)) (hl : xs.length = n) (hn : n ≤ 9223372036854775807) (hp : Answers p F caps jobV xs w) :
 Calls Tryz.prog 211 #[.slice A n c, .func (.func F) #[] caps] w (IxPost p xs w) := by
 have Hl := hid hl
 have Hp := hid hp
 clear hl hp
 go_enter Tryz.func211, Tryz.ntmps211
 go_wp2
 go_loopw [4, 5, 8, 16] (fun _ _ i _ wr => IxInv p xs n w i wr) (fun _ _ i _ _ => n - (intOf i).toNat)
 case atStart => exact ⟨0, Nat.zero_le _, rfl, by simp, Below.refl _ _⟩
 case round =>
  obtain ⟨k, hk, rfl, hnone, hb⟩ := hrel
  have Hnone := hid hnone
  have Hb := hid hb
  have hsz := hb.size
  clear hnone
  by_cases hlt : k < n
  · obtain ⟨x, hf⟩ : ∃ x, xs[k]? = some x := ⟨_, List.getElem?_eq_getElem (by rw [Hl.out]; exact hlt)⟩
    obtain ⟨b, off, rfl, hbB, hc⟩ := (hx.below hb).rec_ jobV_len Hl.out hf
    have Hf := hid hf
    have hcon := hid (Hp.out wr hb x (List.mem_of_getElem? hf))
    obtain ⟨t, ht⟩ : ∃ t, p x = t := ⟨_, rfl⟩
    rw [ht] at hcon
    have Ht := hid ht
    obtain ⟨name, prio, need, tries, tag⟩ := x
    obtain ⟨c0, c1, c2, c3, c4⟩ := rc5 hc
    have hcon := hid (show Calls Tryz.prog F (#[.agg #[.string name, .int .i64 prio, .int .i64 need, .int .i64 tries, .string tag]] ++ caps) wr fun e W' => e = .returned (.bool t) ∧ Below wr.heap.size wr W' from hcon.out)
    clear hc hf hx hb ht
    have hlb : b < wr.heap.size := by omega
    go_wp2_with fail
    refine Calls.mono hcon.out ?_
    rintro e w2 ⟨rfl, hb2⟩
    have Hb2 := hid (Hb.out.trans (hb2.mono Hb.out.size))
    clear hcon hb2
    cases t
    · have fin := hid (any_miss Hf.out Hnone.out Ht.out)
      go_wp2
      go_roundw
      case rel => exact ⟨k + 1, by omega, by go_num, fin.out, Hb2.out⟩
      case measure => simp [intOf]; omega
    · have fin := hid (any_hit Hf.out Ht.out)
      go_wp2
      go_ret
      exact ⟨_, rfl, Hb2.out, .inr ⟨by omega, fin.out⟩⟩
  · have fin := hid (any_out Hnone.out (by rw [Hl.out]; omega))
    clear hx
    go_wp2
    go_ret
    exact ⟨_, rfl, Hb.out, .inl ⟨rfl, fin.out⟩⟩
theorem hasf_job (p : JobD → Bool) (F : FuncId) (caps : Array Value) (xs : List JobD) (A : Option Addr) (n c : Nat) (w : World) (hent : ∀ args w, (callFunc F args).run Tryz.prog w = .ok (.enter F args) w) (hx : SlAt w w.heap.size 5 A n (rowsV jobV xs)) (hl : xs.length = n) (hn : n ≤ 9223372036854775807) (hp : Answers p F caps jobV xs w) :
 Calls Tryz.prog 152 #[.slice A n c, .func (.func F) #[] caps] w fun e w' => e = .returned (.bool (xs.any p)) ∧ Below w.heap.size w w' := by
 have hC := hid (ixf_job p F caps xs A n c w hent hx hl hn hp)
 clear hx hl hn hp hent
 go_enter Tryz.func152, Tryz.ntmps152
 go_wp2_with fail
 refine Calls.mono hC.out ?_
 rintro e w2 ⟨i, rfl, hb2, hcase⟩
 rcases hcase with ⟨rfl, hn⟩ | ⟨hi, hn⟩
 · go_wp2
   go_ret
   exact ⟨ret_bool hn.symm, hb2⟩
 · have d0 : decide (0 ≤ i) = true := decide_eq_true hi
   go_wp2
   go_ret
   exact ⟨ret_bool hn.symm, hb2⟩
theorem ixf_node (p : NodeD → Bool) (F : FuncId) (caps : Array Value) (xs : List NodeD) (A : Option Addr) (n c : Nat) (w : World) (hent : ∀ args w, (callFunc F args).run Tryz.prog w = .ok (.enter F args) w) (hx : SlAt w w.heap.size 3 A n (rowsV nodeV xs)) (hl : xs.length = n) (hn : n ≤ 9223372036854775807) (hp : Answers p F caps nodeV xs w) :
 Calls Tryz.prog 212 #[.slice A n c, .func (.func F) #[] caps] w (IxPost p xs w) := by
 have Hl := hid hl
 have Hp := hid hp
 clear hl hp
 go_enter Tryz.func212, Tryz.ntmps212
 go_wp2
 go_loopw [4, 5, 8, 16] (fun _ _ i _ wr => IxInv p xs n w i wr) (fun _ _ i _ _ => n - (intOf i).toNat)
 case atStart => exact ⟨0, Nat.zero_le _, rfl, by simp, Below.refl _ _⟩
 case round =>
  obtain ⟨k, hk, rfl, hnone, hb⟩ := hrel
  have Hnone := hid hnone
  have Hb := hid hb
  have hsz := hb.size
  clear hnone
  by_cases hlt : k < n
  · obtain ⟨x, hf⟩ : ∃ x, xs[k]? = some x := ⟨_, List.getElem?_eq_getElem (by rw [Hl.out]; exact hlt)⟩
    obtain ⟨b, off, rfl, hbB, hc⟩ := (hx.below hb).rec_ nodeV_len Hl.out hf
    have Hf := hid hf
    have hcon := hid (Hp.out wr hb x (List.mem_of_getElem? hf))
    obtain ⟨t, ht⟩ : ∃ t, p x = t := ⟨_, rfl⟩
    rw [ht] at hcon
    have Ht := hid ht
    obtain ⟨name, room, zone⟩ := x
    obtain ⟨c0, c1, c2⟩ := rc3 hc
    have hcon := hid (show Calls Tryz.prog F (#[.agg #[.string name, .int .i64 room, .string zone]] ++ caps) wr fun e W' => e = .returned (.bool t) ∧ Below wr.heap.size wr W' from hcon.out)
    clear hc hf hx hb ht
    have hlb : b < wr.heap.size := by omega
    go_wp2_with fail
    refine Calls.mono hcon.out ?_
    rintro e w2 ⟨rfl, hb2⟩
    have Hb2 := hid (Hb.out.trans (hb2.mono Hb.out.size))
    clear hcon hb2
    cases t
    · have fin := hid (any_miss Hf.out Hnone.out Ht.out)
      go_wp2
      go_roundw
      case rel => exact ⟨k + 1, by omega, by go_num, fin.out, Hb2.out⟩
      case measure => simp [intOf]; omega
    · have fin := hid (any_hit Hf.out Ht.out)
      go_wp2
      go_ret
      exact ⟨_, rfl, Hb2.out, .inr ⟨by omega, fin.out⟩⟩
  · have fin := hid (any_out Hnone.out (by rw [Hl.out]; omega))
    clear hx
    go_wp2
    go_ret
    exact ⟨_, rfl, Hb.out, .inl ⟨rfl, fin.out⟩⟩
theorem hasf_node (p : NodeD → Bool) (F : FuncId) (caps : Array Value) (xs : List NodeD) (A : Option Addr) (n c : Nat) (w : World) (hent : ∀ args w, (callFunc F args).run Tryz.prog w = .ok (.enter F args) w) (hx : SlAt w w.heap.size 3 A n (rowsV nodeV xs)) (hl : xs.length = n) (hn : n ≤ 9223372036854775807) (hp : Answers p F caps nodeV xs w) :
 Calls Tryz.prog 154 #[.slice A n c, .func (.func F) #[] caps] w fun e w' => e = .returned (.bool (xs.any p)) ∧ Below w.heap.size w w' := by
 have hC := hid (ixf_node p F caps xs A n c w hent hx hl hn hp)
 clear hx hl hn hp hent
 go_enter Tryz.func154, Tryz.ntmps154
 go_wp2_with fail
 refine Calls.mono hC.out ?_
 rintro e w2 ⟨i, rfl, hb2, hcase⟩
 rcases hcase with ⟨rfl, hn⟩ | ⟨hi, hn⟩
 · go_wp2
   go_ret
   exact ⟨ret_bool hn.symm, hb2⟩
 · have d0 : decide (0 ≤ i) = true := decide_eq_true hi
   go_wp2
   go_ret
   exact ⟨ret_bool hn.symm, hb2⟩
end Go.Proofs.YtjgnnobccecpeaaGreatDoor
/- slices.Equal at rows of records: true just where the lists are the same. -/
namespace Go.Proofs.YtjgnnobccecpeaaGreatDoor
open Go.Lib (hid)
open Go.RowKit
theorem sleq_lease (xs ys : List LeaseD) (A A' : Option Addr) (n m c c' : Nat) (w : World) (hx : SlAt w w.heap.size 3 A n (rowsV leaseV xs)) (hy : SlAt w w.heap.size 3 A' m (rowsV leaseV ys)) (lx : xs.length = n) (ly : ys.length = m) (hn : n ≤ 9223372036854775807) (hm : m ≤ 9223372036854775807) :
 Calls Tryz.prog 119 #[.slice A n c, .slice A' m c'] w (EqPost xs ys w) := by
 by_cases h : n = m
 · subst h
   have h0 : ((n : Int) != n) = false := by simp
   have Lx := hid lx
   have Ly := hid ly
   clear lx ly
   go_enter Tryz.func119, Tryz.ntmps119
   go_wp2
   go_loopw [13] (fun i wr => EqInv xs ys n w i wr) (fun i _ => n - (intOf i).toNat)
   case atStart => exact ⟨0, Nat.zero_le _, rfl, rfl, Below.refl _ _⟩
   case round =>
    obtain ⟨k, hk, rfl, he, hb⟩ := hrel
    have He := hid he
    clear he
    by_cases hlt : k < n
    · obtain ⟨x, hxk⟩ : ∃ x, xs[k]? = some x := ⟨_, List.getElem?_eq_getElem (by rw [Lx.out]; exact hlt)⟩
      obtain ⟨y, hyk⟩ : ∃ y, ys[k]? = some y := ⟨_, List.getElem?_eq_getElem (by rw [Ly.out]; exact hlt)⟩
      obtain ⟨b, off, rfl, hbB, hc⟩ := (hx.below hb).rec_ leaseV_len Lx.out hxk
      obtain ⟨b', off', rfl, hbB', hc'⟩ := (hy.below hb).rec_ leaseV_len Ly.out hyk
      obtain ⟨x_job, x_node, x_till⟩ := x
      obtain ⟨y_job, y_node, y_till⟩ := y
      have c0 : wr.cell? ⟨b, off + k * 3, none⟩ = some (.string x_job) := hc 0 _ rfl
      have d0 : wr.cell? ⟨b', off' + k * 3, none⟩ = some (.string y_job) := hc' 0 _ rfl
      have c1 : wr.cell? ⟨b, off + k * 3 + 1, none⟩ = some (.string x_node) := hc 1 _ rfl
      have d1 : wr.cell? ⟨b', off' + k * 3 + 1, none⟩ = some (.string y_node) := hc' 1 _ rfl
      have c2 : wr.cell? ⟨b, off + k * 3 + 2, none⟩ = some (.int .i64 x_till) := hc 2 _ rfl
      have d2 : wr.cell? ⟨b', off' + k * 3 + 2, none⟩ = some (.int .i64 y_till) := hc' 2 _ rfl
      have hsz := hb.size
      have hlt1 : b < wr.heap.size := by omega
      have hlt2 : b' < wr.heap.size := by omega
      have Hb := hid hb
      have Hxk := hid hxk
      have Hyk := hid hyk
      have fin := hid Hb.out.drew
      have step := hid (fun (h : (⟨x_job, x_node, x_till⟩ : LeaseD) = ⟨y_job, y_node, y_till⟩) => take_eq_stepE (hxk.trans (congrArg some h)) hyk He.out)
      have stop := hid (fun (h : (⟨x_job, x_node, x_till⟩ : LeaseD) ≠ ⟨y_job, y_node, y_till⟩) => ne_of_atE hxk hyk h)
      clear hc hc' hx hy hxk hyk hb
      obtain ⟨t, ht, hrun, -⟩ := neqv_lease x_job y_job x_node y_node x_till y_till
      have HT := hid ht
      cases t
      · have stop2 := hid (stop.out (fun h => absurd (HT.out.2 h) (by decide)))
        have hrun' : ∀ W, (binOp .neq 42 (.agg #[.string x_job, .string x_node, .int .i64 x_till]) (.agg #[.string y_job, .string y_node, .int .i64 y_till])).run Tryz.prog W = .ok (.bool true) W := hrun
        clear ht hrun step
        go_wp2
        go_region
        go_wp2
        go_ret
        exact ⟨false, rfl, ⟨fun h => (by cases h), fun h => absurd h stop2.out⟩, fin.out⟩
      · have step2 := hid (step.out (HT.out.1 rfl))
        have hrun' : ∀ W, (binOp .neq 42 (.agg #[.string x_job, .string x_node, .int .i64 x_till]) (.agg #[.string y_job, .string y_node, .int .i64 y_till])).run Tryz.prog W = .ok (.bool false) W := hrun
        clear ht hrun stop
        go_wp2
        go_region
        go_wp2
        go_roundw
        case rel => exact ⟨k + 1, by omega, by go_num, step2.out, fin.out⟩
        case measure => simp [intOf]; omega
    · have fin := hid hb
      have same := hid (show xs = ys by
       have e := He.out
       rwa [List.take_of_length_le (by rw [Lx.out]; omega), List.take_of_length_le (by rw [Ly.out]; omega)] at e)
      clear hb hx hy
      go_wp2
      go_ret
      exact ⟨true, rfl, ⟨fun _ => same.out, fun _ => rfl⟩, fin.out⟩
 · have h0 : ((n : Int) != m) = true := by simp; omega
   have fin := hid (show xs ≠ ys by rintro rfl; omega)
   clear lx ly hx hy
   go_enter Tryz.func119, Tryz.ntmps119
   go_wp2
   go_ret
   exact ⟨false, rfl, ⟨fun h => (by cases h), fun h => absurd h fin.out⟩, Below.refl _ _⟩
end Go.Proofs.YtjgnnobccecpeaaGreatDoor
