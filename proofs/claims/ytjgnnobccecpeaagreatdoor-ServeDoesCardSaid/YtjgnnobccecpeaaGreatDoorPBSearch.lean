/- Of the proof of a statement: BSearch. -/
import Derived.Test.YtjgnnobccecpeaaGreatDoorPPlPlace
import Derived.Test.YtjgnnobccecpeaaGreatDoorPRowsL
import Derived.Test.YtjgnnobccecpeaaGreatDoorPRowsP
set_option linter.unusedVariables false
set_option linter.unusedSimpArgs false
set_option maxRecDepth 100000
set_option maxHeartbeats 8000000
/- slices.BinarySearchFunc and serve.place. -/
namespace Go.Proofs.YtjgnnobccecpeaaGreatDoor
open Go.Lib (hid)
open Go.RowKit
def Compares {α : Type} (key : α → ByteArray) (s : ByteArray) (F : FuncId) (caps : Array Value) (enc : α → List Value) (xs : List α) (w : World) : Prop :=
 ∀ W, Below w.heap.size w W → ∀ x ∈ xs, Calls Tryz.prog F (#[.agg (enc x).toArray, .string s] ++ caps) W fun e W' => e = .returned (.int .i64 (cmpI (key x) s)) ∧ Below W.heap.size W W'
def BsPost {α : Type} (key : α → ByteArray) (xs : List α) (s : ByteArray) (w : World) (e : Ending) (w' : World) : Prop :=
 e = .returned (.tuple #[.int .i64 (posL key xs s), .bool (isL key xs s)]) ∧ Below w.heap.size w w'
def BsInv {α : Type} (key : α → ByteArray) (xs : List α) (s : ByteArray) (w : World) (i j : Value) (wr : World) : Prop :=
 ∃ p q : Nat, i = .int .i64 p ∧ j = .int .i64 q ∧ Halves key xs s p q ∧ Below w.heap.size w wr
theorem bsf_job (s : ByteArray) (F : FuncId) (caps : Array Value) (xs : List JobD) (A : Option Addr) (n c : Nat) (w : World) (hent : ∀ args w, (callFunc F args).run Tryz.prog w = .ok (.enter F args) w) (hx : SlAt w w.heap.size 5 A n (rowsV jobV xs)) (hl : xs.length = n) (hn : n ≤ 1000) (hs : KSorted JobD.name xs) (hp : Compares JobD.name s F caps jobV xs w) :
 Calls Tryz.prog 252 #[.slice A n c, .string s, .func (.func F) #[] caps] w (BsPost JobD.name xs s w) := by
 have Hl := hid hl
 have Hp := hid hp
 have Hs := hid hs
 have HX := hid hx
 have H0 := hid (show Halves JobD.name xs s 0 n from hl ▸ Halves.start xs s)
 clear hl hp hs hx
 go_enter Tryz.func252, Tryz.ntmps252
 go_wp2
 go_loopw [9, 10, 11] (fun i j _ wr => BsInv JobD.name xs s w i j wr) (fun i j _ _ => (intOf j).toNat - (intOf i).toNat)
 case atStart => exact ⟨0, n, rfl, rfl, H0.out, Below.refl _ _⟩
 case round =>
  obtain ⟨p, q, rfl, rfl, hH, hb⟩ := hrel
  have hpq := hH.1
  have hqn : q ≤ n := by have := hH.2.1; have := Hl.out; omega
  have HH := hid hH
  have Hb := hid hb
  have hsz := hb.size
  clear hH
  by_cases hlt : p < q
  · have h1 : p ≤ (p + q) / 2 := by omega
    have h2 : (p + q) / 2 < q := by omega
    obtain ⟨x, hf⟩ : ∃ x, xs[(p + q) / 2]? = some x := ⟨_, List.getElem?_eq_getElem (by rw [Hl.out]; omega)⟩
    obtain ⟨b, off, rfl, hbB, hc⟩ := (HX.out.below hb).rec_ jobV_len Hl.out hf
    have Hf := hid hf
    have hcon := hid (Hp.out wr hb x (List.mem_of_getElem? hf))
    obtain ⟨t, ht⟩ : ∃ t, cmpI (JobD.name x) s = t := ⟨_, rfl⟩
    rw [ht] at hcon
    have hneg := cmpI_neg (a := JobD.name x) (b := s)
    rw [ht] at hneg
    have Hneg := hid hneg
    obtain ⟨name, prio, need, tries, tag⟩ := x
    obtain ⟨c0, c1, c2, c3, c4⟩ := rc5 hc
    have hcon := hid (show Calls Tryz.prog F (#[.agg #[.string name, .int .i64 prio, .int .i64 need, .int .i64 tries, .string tag], .string s] ++ caps) wr fun e W' => e = .returned (.int .i64 t) ∧ Below wr.heap.size wr W' from hcon.out)
    clear hc hf hb ht hneg
    have hlb : b < wr.heap.size := by omega
    go_wp2_with fail
    refine Calls.mono hcon.out ?_
    rintro e w2 ⟨rfl, hb2⟩
    have Hb2 := hid (Hb.out.trans (hb2.mono Hb.out.size))
    clear hcon hb2 c0 c1 c2 c3 c4
    by_cases htn : t < 0
    · have fin := hid (HH.out.low Hs.out h2 Hf.out (Hneg.out.1 htn))
      have d1 : decide (t < 0) = true := decide_eq_true htn
      clear htn
      go_wp2
      go_roundw
      case rel => exact ⟨(p + q) / 2 + 1, q, by go_num, rfl, fin.out, Hb2.out⟩
      case measure => simp [intOf]; omega
    · have fin := hid (HH.out.high Hs.out h1 Hf.out (by
       rw [← Bool.not_eq_true]; exact fun h => htn (Hneg.out.2 h)))
      have d1 : decide (t < 0) = false := decide_eq_false htn
      clear htn
      go_wp2
      go_roundw
      case rel => exact ⟨p, (p + q) / 2, rfl, by go_num, fin.out, Hb2.out⟩
      case measure => simp [intOf]; omega
  · obtain rfl : q = p := by omega
    have hpos := HH.out.pos
    have his : isL JobD.name xs s = match xs[q]? with | some a => decide (JobD.name a = s) | none => false := by
     unfold isL; rw [hpos]
     cases xs[q]? <;> rfl
    have Hfin := hid (fun (t : Bool) (W : World) (ht : isL JobD.name xs s = t) (hW : Below w.heap.size w W) => (show BsPost JobD.name xs s w (.returned (.tuple #[.int .i64 q, .bool t])) W from ⟨by rw [hpos, ht], hW⟩))
    clear hpos
    by_cases hq : q < n
    · obtain ⟨x, hf⟩ : ∃ x, xs[q]? = some x := ⟨_, List.getElem?_eq_getElem (by rw [Hl.out]; omega)⟩
      obtain ⟨b, off, rfl, hbB, hc⟩ := (HX.out.below hb).rec_ jobV_len Hl.out hf
      rw [hf] at his
      have hcon := hid (Hp.out wr hb x (List.mem_of_getElem? hf))
      obtain ⟨t, ht⟩ : ∃ t, cmpI (JobD.name x) s = t := ⟨_, rfl⟩
      rw [ht] at hcon
      have hzero := cmpI_zero (a := JobD.name x) (b := s)
      rw [ht] at hzero
      have Hzero := hid hzero
      have His := hid his
      obtain ⟨name, prio, need, tries, tag⟩ := x
      obtain ⟨c0, c1, c2, c3, c4⟩ := rc5 hc
      have hcon := hid (show Calls Tryz.prog F (#[.agg #[.string name, .int .i64 prio, .int .i64 need, .int .i64 tries, .string tag], .string s] ++ caps) wr fun e W' => e = .returned (.int .i64 t) ∧ Below wr.heap.size wr W' from hcon.out)
      clear hc hf hb ht hzero his hlt hpq
      have hlb : b < wr.heap.size := by omega
      go_wp2_with fail
      refine Calls.mono hcon.out ?_
      rintro e w2 ⟨rfl, hb2⟩
      have Hb2 := hid (Hb.out.trans (hb2.mono Hb.out.size))
      clear hcon hb2 c0 c1 c2 c3 c4
      have Hend := hid (Hfin.out (t == 0) w2 (by
       rw [His.out]
       by_cases h : t = 0
       · rw [beq_iff_eq.2 h]; exact decide_eq_true (Hzero.out.1 h)
       · rw [beq_eq_false_iff_ne.2 h]; exact decide_eq_false (fun e => h (Hzero.out.2 e))) Hb2.out)
      go_wp2
      go_ret2
      exact Hend.out
    · rw [List.getElem?_eq_none (by rw [Hl.out]; omega)] at his
      have Hend := hid (Hfin.out false wr his hb)
      clear his hb hlt hpq
      go_wp2
      go_ret2
      exact Hend.out
theorem plc_job (s : ByteArray) (xs : List JobD) (kb : Nat) (w : World) (hk : w.cell? ⟨kb, 0, none⟩ = some (.func (.func 46) #[] #[])) : Compares JobD.name s 253 #[.pointer (some ⟨kb, 0, none⟩)] jobV xs w := by
 intro W hb x hx
 have hkl := block_lt_of_cell hk
 have hW := (hb.cell (p := ⟨kb, 0, none⟩) hkl).trans hk
 have hWl : kb < W.heap.size := Nat.lt_of_lt_of_le hkl hb.size
 have heg := enters_of Tryz.func46 (by kernel_rfl) rfl
 obtain ⟨t, ht⟩ : ∃ t, cmpI (JobD.name x) s = t := ⟨_, rfl⟩
 have HC := hid (fun W => compare_any (JobD.name x) s W)
 simp only [ht] at HC
 rw [ht]
 obtain ⟨name, prio, need, tries, tag⟩ := x
 show Calls Tryz.prog 253 #[.agg #[.string name, .int .i64 prio, .int .i64 need, .int .i64 tries, .string tag], .string s, .pointer (some ⟨kb, 0, none⟩)] W fun e W' => e = .returned (.int .i64 t) ∧ Below W.heap.size W W'
 clear hk hx ht hb hkl
 go_enter Tryz.func253, Tryz.ntmps253
 go_wp2_with fail
 refine Calls.mono (jobKey_any name prio need tries tag _) ?_
 rintro e w1 ⟨rfl, hb1⟩
 have Hb1 := hid (((Below.refl W.heap.size W).alloc (Nat.le_refl _) _).trans (hb1.mono (by simp)))
 clear hb1 hW
 go_wp2_with fail
 refine Calls.mono (HC.out _) ?_
 rintro e w2 ⟨rfl, rfl⟩
 go_wp2
 go_ret
 exact ⟨rfl, Hb1.out⟩
theorem place_job (s : ByteArray) (xs : List JobD) (A : Option Addr) (n c : Nat) (w : World) (hx : SlAt w w.heap.size 5 A n (rowsV jobV xs)) (hl : xs.length = n) (hn : n ≤ 1000) (hs : KSorted JobD.name xs) :
 Calls Tryz.prog 184 #[.slice A n c, .string s, .func (.func 46) #[] #[]] w (BsPost JobD.name xs s w) := by
 have hb1 : Below w.heap.size w (w.alloc (.cells #[.func (.func 46) #[] #[]] 98)) := (Below.refl _ _).alloc (Nat.le_refl _) _
 have hk : (w.alloc (.cells #[.func (.func 46) #[] #[]] 98)).cell? ⟨w.heap.size, 0, none⟩ = some (.func (.func 46) #[] #[]) := by
  rw [cell_of_row _ _ 0 _ _ _ (heap_alloc_new w _)]; rfl
 have H := hid (bsf_job s 253 #[.pointer (some ⟨w.heap.size, 0, none⟩)] xs A n c _ (enters_of Tryz.func253 (by kernel_rfl) rfl) ((hx.below hb1).more hb1.size) hl hn hs (plc_job s xs _ _ hk))
 have Hf := hid (fun (t : Nat) (i : Bool) (W : World) (h1 : posL JobD.name xs s = t) (h2 : isL JobD.name xs s = i) (hW : Below w.heap.size w W) => (show BsPost JobD.name xs s w (.returned (.tuple #[.int .i64 t, .bool i])) W from ⟨by rw [h1, h2], hW⟩))
 unfold BsPost at H
 obtain ⟨t, ht⟩ : ∃ t, posL JobD.name xs s = t := ⟨_, rfl⟩
 obtain ⟨i, hi⟩ : ∃ i, isL JobD.name xs s = i := ⟨_, rfl⟩
 rw [ht, hi] at H
 have Hfin := hid (fun W hW => Hf.out t i W ht hi hW)
 have Hb1 := hid hb1
 clear hb1 hk hx hl hs ht hi Hf
 go_enter Tryz.func184, Tryz.ntmps184
 go_wp2_with fail
 refine Calls.mono H.out ?_
 rintro e w2 ⟨rfl, hb2⟩
 have Hend := hid (Hfin.out w2 (Hb1.out.trans (hb2.mono Hb1.out.size)))
 clear hb2
 go_wp2
 go_ret2
 exact Hend.out
theorem bsf_node (s : ByteArray) (F : FuncId) (caps : Array Value) (xs : List NodeD) (A : Option Addr) (n c : Nat) (w : World) (hent : ∀ args w, (callFunc F args).run Tryz.prog w = .ok (.enter F args) w) (hx : SlAt w w.heap.size 3 A n (rowsV nodeV xs)) (hl : xs.length = n) (hn : n ≤ 1000) (hs : KSorted NodeD.name xs) (hp : Compares NodeD.name s F caps nodeV xs w) :
 Calls Tryz.prog 256 #[.slice A n c, .string s, .func (.func F) #[] caps] w (BsPost NodeD.name xs s w) := by
 have Hl := hid hl
 have Hp := hid hp
 have Hs := hid hs
 have HX := hid hx
 have H0 := hid (show Halves NodeD.name xs s 0 n from hl ▸ Halves.start xs s)
 clear hl hp hs hx
 go_enter Tryz.func256, Tryz.ntmps256
 go_wp2
 go_loopw [9, 10, 11] (fun i j _ wr => BsInv NodeD.name xs s w i j wr) (fun i j _ _ => (intOf j).toNat - (intOf i).toNat)
 case atStart => exact ⟨0, n, rfl, rfl, H0.out, Below.refl _ _⟩
 case round =>
  obtain ⟨p, q, rfl, rfl, hH, hb⟩ := hrel
  have hpq := hH.1
  have hqn : q ≤ n := by have := hH.2.1; have := Hl.out; omega
  have HH := hid hH
  have Hb := hid hb
  have hsz := hb.size
  clear hH
  by_cases hlt : p < q
  · have h1 : p ≤ (p + q) / 2 := by omega
    have h2 : (p + q) / 2 < q := by omega
    obtain ⟨x, hf⟩ : ∃ x, xs[(p + q) / 2]? = some x := ⟨_, List.getElem?_eq_getElem (by rw [Hl.out]; omega)⟩
    obtain ⟨b, off, rfl, hbB, hc⟩ := (HX.out.below hb).rec_ nodeV_len Hl.out hf
    have Hf := hid hf
    have hcon := hid (Hp.out wr hb x (List.mem_of_getElem? hf))
    obtain ⟨t, ht⟩ : ∃ t, cmpI (NodeD.name x) s = t := ⟨_, rfl⟩
    rw [ht] at hcon
    have hneg := cmpI_neg (a := NodeD.name x) (b := s)
    rw [ht] at hneg
    have Hneg := hid hneg
    obtain ⟨name, room, zone⟩ := x
    obtain ⟨c0, c1, c2⟩ := rc3 hc
    have hcon := hid (show Calls Tryz.prog F (#[.agg #[.string name, .int .i64 room, .string zone], .string s] ++ caps) wr fun e W' => e = .returned (.int .i64 t) ∧ Below wr.heap.size wr W' from hcon.out)
    clear hc hf hb ht hneg
    have hlb : b < wr.heap.size := by omega
    go_wp2_with fail
    refine Calls.mono hcon.out ?_
    rintro e w2 ⟨rfl, hb2⟩
    have Hb2 := hid (Hb.out.trans (hb2.mono Hb.out.size))
    clear hcon hb2 c0 c1 c2
    by_cases htn : t < 0
    · have fin := hid (HH.out.low Hs.out h2 Hf.out (Hneg.out.1 htn))
      have d1 : decide (t < 0) = true := decide_eq_true htn
      clear htn
      go_wp2
      go_roundw
      case rel => exact ⟨(p + q) / 2 + 1, q, by go_num, rfl, fin.out, Hb2.out⟩
      case measure => simp [intOf]; omega
    · have fin := hid (HH.out.high Hs.out h1 Hf.out (by
       rw [← Bool.not_eq_true]; exact fun h => htn (Hneg.out.2 h)))
      have d1 : decide (t < 0) = false := decide_eq_false htn
      clear htn
      go_wp2
      go_roundw
      case rel => exact ⟨p, (p + q) / 2, rfl, by go_num, fin.out, Hb2.out⟩
      case measure => simp [intOf]; omega
  · obtain rfl : q = p := by omega
    have hpos := HH.out.pos
    have his : isL NodeD.name xs s = match xs[q]? with | some a => decide (NodeD.name a = s) | none => false := by
     unfold isL; rw [hpos]
     cases xs[q]? <;> rfl
    have Hfin := hid (fun (t : Bool) (W : World) (ht : isL NodeD.name xs s = t) (hW : Below w.heap.size w W) => (show BsPost NodeD.name xs s w (.returned (.tuple #[.int .i64 q, .bool t])) W from ⟨by rw [hpos, ht], hW⟩))
    clear hpos
    by_cases hq : q < n
    · obtain ⟨x, hf⟩ : ∃ x, xs[q]? = some x := ⟨_, List.getElem?_eq_getElem (by rw [Hl.out]; omega)⟩
      obtain ⟨b, off, rfl, hbB, hc⟩ := (HX.out.below hb).rec_ nodeV_len Hl.out hf
      rw [hf] at his
      have hcon := hid (Hp.out wr hb x (List.mem_of_getElem? hf))
      obtain ⟨t, ht⟩ : ∃ t, cmpI (NodeD.name x) s = t := ⟨_, rfl⟩
      rw [ht] at hcon
      have hzero := cmpI_zero (a := NodeD.name x) (b := s)
      rw [ht] at hzero
      have Hzero := hid hzero
      have His := hid his
      obtain ⟨name, room, zone⟩ := x
      obtain ⟨c0, c1, c2⟩ := rc3 hc
      have hcon := hid (show Calls Tryz.prog F (#[.agg #[.string name, .int .i64 room, .string zone], .string s] ++ caps) wr fun e W' => e = .returned (.int .i64 t) ∧ Below wr.heap.size wr W' from hcon.out)
      clear hc hf hb ht hzero his hlt hpq
      have hlb : b < wr.heap.size := by omega
      go_wp2_with fail
      refine Calls.mono hcon.out ?_
      rintro e w2 ⟨rfl, hb2⟩
      have Hb2 := hid (Hb.out.trans (hb2.mono Hb.out.size))
      clear hcon hb2 c0 c1 c2
      have Hend := hid (Hfin.out (t == 0) w2 (by
       rw [His.out]
       by_cases h : t = 0
       · rw [beq_iff_eq.2 h]; exact decide_eq_true (Hzero.out.1 h)
       · rw [beq_eq_false_iff_ne.2 h]; exact decide_eq_false (fun e => h (Hzero.out.2 e))) Hb2.out)
      go_wp2
      go_ret2
      exact Hend.out
    · rw [List.getElem?_eq_none (by rw [Hl.out]; omega)] at his
      have Hend := hid (Hfin.out false wr his hb)
      clear his hb hlt hpq
      go_wp2
      go_ret2
      exact Hend.out
theorem plc_node (s : ByteArray) (xs : List NodeD) (kb : Nat) (w : World) (hk : w.cell? ⟨kb, 0, none⟩ = some (.func (.func 48) #[] #[])) : Compares NodeD.name s 257 #[.pointer (some ⟨kb, 0, none⟩)] nodeV xs w := by
 intro W hb x hx
 have hkl := block_lt_of_cell hk
 have hW := (hb.cell (p := ⟨kb, 0, none⟩) hkl).trans hk
 have hWl : kb < W.heap.size := Nat.lt_of_lt_of_le hkl hb.size
 have heg := enters_of Tryz.func48 (by kernel_rfl) rfl
 obtain ⟨t, ht⟩ : ∃ t, cmpI (NodeD.name x) s = t := ⟨_, rfl⟩
 have HC := hid (fun W => compare_any (NodeD.name x) s W)
 simp only [ht] at HC
 rw [ht]
 obtain ⟨name, room, zone⟩ := x
 show Calls Tryz.prog 257 #[.agg #[.string name, .int .i64 room, .string zone], .string s, .pointer (some ⟨kb, 0, none⟩)] W fun e W' => e = .returned (.int .i64 t) ∧ Below W.heap.size W W'
 clear hk hx ht hb hkl
 go_enter Tryz.func257, Tryz.ntmps257
 go_wp2_with fail
 refine Calls.mono (nodeKey_any name room zone _) ?_
 rintro e w1 ⟨rfl, hb1⟩
 have Hb1 := hid (((Below.refl W.heap.size W).alloc (Nat.le_refl _) _).trans (hb1.mono (by simp)))
 clear hb1 hW
 go_wp2_with fail
 refine Calls.mono (HC.out _) ?_
 rintro e w2 ⟨rfl, rfl⟩
 go_wp2
 go_ret
 exact ⟨rfl, Hb1.out⟩
theorem place_node (s : ByteArray) (xs : List NodeD) (A : Option Addr) (n c : Nat) (w : World) (hx : SlAt w w.heap.size 3 A n (rowsV nodeV xs)) (hl : xs.length = n) (hn : n ≤ 1000) (hs : KSorted NodeD.name xs) :
 Calls Tryz.prog 186 #[.slice A n c, .string s, .func (.func 48) #[] #[]] w (BsPost NodeD.name xs s w) := by
 have hb1 : Below w.heap.size w (w.alloc (.cells #[.func (.func 48) #[] #[]] 101)) := (Below.refl _ _).alloc (Nat.le_refl _) _
 have hk : (w.alloc (.cells #[.func (.func 48) #[] #[]] 101)).cell? ⟨w.heap.size, 0, none⟩ = some (.func (.func 48) #[] #[]) := by
  rw [cell_of_row _ _ 0 _ _ _ (heap_alloc_new w _)]; rfl
 have H := hid (bsf_node s 257 #[.pointer (some ⟨w.heap.size, 0, none⟩)] xs A n c _ (enters_of Tryz.func257 (by kernel_rfl) rfl) ((hx.below hb1).more hb1.size) hl hn hs (plc_node s xs _ _ hk))
 have Hf := hid (fun (t : Nat) (i : Bool) (W : World) (h1 : posL NodeD.name xs s = t) (h2 : isL NodeD.name xs s = i) (hW : Below w.heap.size w W) => (show BsPost NodeD.name xs s w (.returned (.tuple #[.int .i64 t, .bool i])) W from ⟨by rw [h1, h2], hW⟩))
 unfold BsPost at H
 obtain ⟨t, ht⟩ : ∃ t, posL NodeD.name xs s = t := ⟨_, rfl⟩
 obtain ⟨i, hi⟩ : ∃ i, isL NodeD.name xs s = i := ⟨_, rfl⟩
 rw [ht, hi] at H
 have Hfin := hid (fun W hW => Hf.out t i W ht hi hW)
 have Hb1 := hid hb1
 clear hb1 hk hx hl hs ht hi Hf
 go_enter Tryz.func186, Tryz.ntmps186
 go_wp2_with fail
 refine Calls.mono H.out ?_
 rintro e w2 ⟨rfl, hb2⟩
 have Hend := hid (Hfin.out w2 (Hb1.out.trans (hb2.mono Hb1.out.size)))
 clear hb2
 go_wp2
 go_ret2
 exact Hend.out
theorem bsf_lease (s : ByteArray) (F : FuncId) (caps : Array Value) (xs : List LeaseD) (A : Option Addr) (n c : Nat) (w : World) (hent : ∀ args w, (callFunc F args).run Tryz.prog w = .ok (.enter F args) w) (hx : SlAt w w.heap.size 3 A n (rowsV leaseV xs)) (hl : xs.length = n) (hn : n ≤ 1000) (hs : KSorted LeaseD.job xs) (hp : Compares LeaseD.job s F caps leaseV xs w) :
 Calls Tryz.prog 260 #[.slice A n c, .string s, .func (.func F) #[] caps] w (BsPost LeaseD.job xs s w) := by
 have Hl := hid hl
 have Hp := hid hp
 have Hs := hid hs
 have HX := hid hx
 have H0 := hid (show Halves LeaseD.job xs s 0 n from hl ▸ Halves.start xs s)
 clear hl hp hs hx
 go_enter Tryz.func260, Tryz.ntmps260
 go_wp2
 go_loopw [9, 10, 11] (fun i j _ wr => BsInv LeaseD.job xs s w i j wr) (fun i j _ _ => (intOf j).toNat - (intOf i).toNat)
 case atStart => exact ⟨0, n, rfl, rfl, H0.out, Below.refl _ _⟩
 case round =>
  obtain ⟨p, q, rfl, rfl, hH, hb⟩ := hrel
  have hpq := hH.1
  have hqn : q ≤ n := by have := hH.2.1; have := Hl.out; omega
  have HH := hid hH
  have Hb := hid hb
  have hsz := hb.size
  clear hH
  by_cases hlt : p < q
  · have h1 : p ≤ (p + q) / 2 := by omega
    have h2 : (p + q) / 2 < q := by omega
    obtain ⟨x, hf⟩ : ∃ x, xs[(p + q) / 2]? = some x := ⟨_, List.getElem?_eq_getElem (by rw [Hl.out]; omega)⟩
    obtain ⟨b, off, rfl, hbB, hc⟩ := (HX.out.below hb).rec_ leaseV_len Hl.out hf
    have Hf := hid hf
    have hcon := hid (Hp.out wr hb x (List.mem_of_getElem? hf))
    obtain ⟨t, ht⟩ : ∃ t, cmpI (LeaseD.job x) s = t := ⟨_, rfl⟩
    rw [ht] at hcon
    have hneg := cmpI_neg (a := LeaseD.job x) (b := s)
    rw [ht] at hneg
    have Hneg := hid hneg
    obtain ⟨job, node, till⟩ := x
    obtain ⟨c0, c1, c2⟩ := rc3 hc
    have hcon := hid (show Calls Tryz.prog F (#[.agg #[.string job, .string node, .int .i64 till], .string s] ++ caps) wr fun e W' => e = .returned (.int .i64 t) ∧ Below wr.heap.size wr W' from hcon.out)
    clear hc hf hb ht hneg
    have hlb : b < wr.heap.size := by omega
    go_wp2_with fail
    refine Calls.mono hcon.out ?_
    rintro e w2 ⟨rfl, hb2⟩
    have Hb2 := hid (Hb.out.trans (hb2.mono Hb.out.size))
    clear hcon hb2 c0 c1 c2
    by_cases htn : t < 0
    · have fin := hid (HH.out.low Hs.out h2 Hf.out (Hneg.out.1 htn))
      have d1 : decide (t < 0) = true := decide_eq_true htn
      clear htn
      go_wp2
      go_roundw
      case rel => exact ⟨(p + q) / 2 + 1, q, by go_num, rfl, fin.out, Hb2.out⟩
      case measure => simp [intOf]; omega
    · have fin := hid (HH.out.high Hs.out h1 Hf.out (by
       rw [← Bool.not_eq_true]; exact fun h => htn (Hneg.out.2 h)))
      have d1 : decide (t < 0) = false := decide_eq_false htn
      clear htn
      go_wp2
      go_roundw
      case rel => exact ⟨p, (p + q) / 2, rfl, by go_num, fin.out, Hb2.out⟩
      case measure => simp [intOf]; omega
  · obtain rfl : q = p := by omega
    have hpos := HH.out.pos
    have his : isL LeaseD.job xs s = match xs[q]? with | some a => decide (LeaseD.job a = s) | none => false := by
     unfold isL; rw [hpos]
     cases xs[q]? <;> rfl
    have Hfin := hid (fun (t : Bool) (W : World) (ht : isL LeaseD.job xs s = t) (hW : Below w.heap.size w W) => (show BsPost LeaseD.job xs s w (.returned (.tuple #[.int .i64 q, .bool t])) W from ⟨by rw [hpos, ht], hW⟩))
    clear hpos
    by_cases hq : q < n
    · obtain ⟨x, hf⟩ : ∃ x, xs[q]? = some x := ⟨_, List.getElem?_eq_getElem (by rw [Hl.out]; omega)⟩
      obtain ⟨b, off, rfl, hbB, hc⟩ := (HX.out.below hb).rec_ leaseV_len Hl.out hf
      rw [hf] at his
      have hcon := hid (Hp.out wr hb x (List.mem_of_getElem? hf))
      obtain ⟨t, ht⟩ : ∃ t, cmpI (LeaseD.job x) s = t := ⟨_, rfl⟩
      rw [ht] at hcon
      have hzero := cmpI_zero (a := LeaseD.job x) (b := s)
      rw [ht] at hzero
      have Hzero := hid hzero
      have His := hid his
      obtain ⟨job, node, till⟩ := x
      obtain ⟨c0, c1, c2⟩ := rc3 hc
      have hcon := hid (show Calls Tryz.prog F (#[.agg #[.string job, .string node, .int .i64 till], .string s] ++ caps) wr fun e W' => e = .returned (.int .i64 t) ∧ Below wr.heap.size wr W' from hcon.out)
      clear hc hf hb ht hzero his hlt hpq
      have hlb : b < wr.heap.size := by omega
      go_wp2_with fail
      refine Calls.mono hcon.out ?_
      rintro e w2 ⟨rfl, hb2⟩
      have Hb2 := hid (Hb.out.trans (hb2.mono Hb.out.size))
      clear hcon hb2 c0 c1 c2
      have Hend := hid (Hfin.out (t == 0) w2 (by
       rw [His.out]
       by_cases h : t = 0
       · rw [beq_iff_eq.2 h]; exact decide_eq_true (Hzero.out.1 h)
       · rw [beq_eq_false_iff_ne.2 h]; exact decide_eq_false (fun e => h (Hzero.out.2 e))) Hb2.out)
      go_wp2
      go_ret2
      exact Hend.out
    · rw [List.getElem?_eq_none (by rw [Hl.out]; omega)] at his
      have Hend := hid (Hfin.out false wr his hb)
      clear his hb hlt hpq
      go_wp2
      go_ret2
      exact Hend.out
theorem plc_lease (s : ByteArray) (xs : List LeaseD) (kb : Nat) (w : World) (hk : w.cell? ⟨kb, 0, none⟩ = some (.func (.func 50) #[] #[])) : Compares LeaseD.job s 261 #[.pointer (some ⟨kb, 0, none⟩)] leaseV xs w := by
 intro W hb x hx
 have hkl := block_lt_of_cell hk
 have hW := (hb.cell (p := ⟨kb, 0, none⟩) hkl).trans hk
 have hWl : kb < W.heap.size := Nat.lt_of_lt_of_le hkl hb.size
 have heg := enters_of Tryz.func50 (by kernel_rfl) rfl
 obtain ⟨t, ht⟩ : ∃ t, cmpI (LeaseD.job x) s = t := ⟨_, rfl⟩
 have HC := hid (fun W => compare_any (LeaseD.job x) s W)
 simp only [ht] at HC
 rw [ht]
 obtain ⟨job, node, till⟩ := x
 show Calls Tryz.prog 261 #[.agg #[.string job, .string node, .int .i64 till], .string s, .pointer (some ⟨kb, 0, none⟩)] W fun e W' => e = .returned (.int .i64 t) ∧ Below W.heap.size W W'
 clear hk hx ht hb hkl
 go_enter Tryz.func261, Tryz.ntmps261
 go_wp2_with fail
 refine Calls.mono (leaseKey_any job node till _) ?_
 rintro e w1 ⟨rfl, hb1⟩
 have Hb1 := hid (((Below.refl W.heap.size W).alloc (Nat.le_refl _) _).trans (hb1.mono (by simp)))
 clear hb1 hW
 go_wp2_with fail
 refine Calls.mono (HC.out _) ?_
 rintro e w2 ⟨rfl, rfl⟩
 go_wp2
 go_ret
 exact ⟨rfl, Hb1.out⟩
theorem place_lease (s : ByteArray) (xs : List LeaseD) (A : Option Addr) (n c : Nat) (w : World) (hx : SlAt w w.heap.size 3 A n (rowsV leaseV xs)) (hl : xs.length = n) (hn : n ≤ 1000) (hs : KSorted LeaseD.job xs) :
 Calls Tryz.prog 191 #[.slice A n c, .string s, .func (.func 50) #[] #[]] w (BsPost LeaseD.job xs s w) := by
 have hb1 : Below w.heap.size w (w.alloc (.cells #[.func (.func 50) #[] #[]] 104)) := (Below.refl _ _).alloc (Nat.le_refl _) _
 have hk : (w.alloc (.cells #[.func (.func 50) #[] #[]] 104)).cell? ⟨w.heap.size, 0, none⟩ = some (.func (.func 50) #[] #[]) := by
  rw [cell_of_row _ _ 0 _ _ _ (heap_alloc_new w _)]; rfl
 have H := hid (bsf_lease s 261 #[.pointer (some ⟨w.heap.size, 0, none⟩)] xs A n c _ (enters_of Tryz.func261 (by kernel_rfl) rfl) ((hx.below hb1).more hb1.size) hl hn hs (plc_lease s xs _ _ hk))
 have Hf := hid (fun (t : Nat) (i : Bool) (W : World) (h1 : posL LeaseD.job xs s = t) (h2 : isL LeaseD.job xs s = i) (hW : Below w.heap.size w W) => (show BsPost LeaseD.job xs s w (.returned (.tuple #[.int .i64 t, .bool i])) W from ⟨by rw [h1, h2], hW⟩))
 unfold BsPost at H
 obtain ⟨t, ht⟩ : ∃ t, posL LeaseD.job xs s = t := ⟨_, rfl⟩
 obtain ⟨i, hi⟩ : ∃ i, isL LeaseD.job xs s = i := ⟨_, rfl⟩
 rw [ht, hi] at H
 have Hfin := hid (fun W hW => Hf.out t i W ht hi hW)
 have Hb1 := hid hb1
 clear hb1 hk hx hl hs ht hi Hf
 go_enter Tryz.func191, Tryz.ntmps191
 go_wp2_with fail
 refine Calls.mono H.out ?_
 rintro e w2 ⟨rfl, hb2⟩
 have Hend := hid (Hfin.out w2 (Hb1.out.trans (hb2.mono Hb1.out.size)))
 clear hb2
 go_wp2
 go_ret2
 exact Hend.out
end Go.Proofs.YtjgnnobccecpeaaGreatDoor
