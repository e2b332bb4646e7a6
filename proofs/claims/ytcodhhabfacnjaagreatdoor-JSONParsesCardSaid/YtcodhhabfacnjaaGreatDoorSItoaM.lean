/- Of the proof of a statement: ItoaM. -/
import Derived.ArgAppend
import Derived.Test.YtcodhhabfacnjaaGreatDoorSJObj
set_option linter.unusedVariables false
set_option linter.unusedSimpArgs false
/- strconv.AppendInt at base 10, of a number that is not negative, onto a slice that has no room left. -/
namespace Go.Proofs.YtcodhhabfacnjaaGreatDoor
open Go.RowKit Go.Shelf Go.Sort Go.Lib
def FuPost (n : Nat) (xs : List Value) (u : Nat) (w : World) (e : Ending) (w' : World) : Prop :=
  ∃ v', e = .returned v' ∧ w'.ownsRow w.heap.size 5 1 v' (n + (Lib.decDigits u).length) (xs ++ Lib.byteCells (Lib.decDigits u)) ∧ RowKit.Below w.heap.size w w'
theorem cells_add {w : World} {g : Nat} {xs : List Value} (hr : RowAt w g 0 xs) : ∀ j u, xs[j]? = some u → w.cell? ((⟨g, 0, none⟩ : Addr).add j) = some u := fun j u hu => by
  have h := hr j u hu
  rw [Lib.add_plain]; exact h
/-- A text appended to a slice without room. -/
theorem full_string {w : World} {K : Act → World → Prop} {ops : Array Oper} {rest : List Oper} {o : Oper} {a : Act} {Q : Exit → Act → World → Prop} (hgd : o.guard = none) (s x : Operand) (ho : o.op = .call { callee := .builtin .append, args := #[s, x], argTypes := #[78, 9] })
    (g n : Nat) (xs : List Value) (hs : a.eval s = .slice (some ⟨g, 0, none⟩) n n) (hl : xs.length = n) (hr : RowAt w g 0 xs) (t : ByteArray) (hx : a.eval x = .string t) (ht : 0 < t.size) (hm : n + t.size ≤ 140737488355328)
    (h : ∀ v' w', w'.ownsRow w.heap.size 5 1 v' (n + t.size) (xs ++ strCells t) → w.grownBy w' none → wpList Tryz.prog ops Q rest (a.put o.dst v') w') :
    wpList Tryz.prog ops Q (o :: rest) a w := by
  refine wpList_plain hgd fun K hK' => ?_
  obtain ⟨i, hi, hz, hsize, hby⟩ := info_parts Tryz.infoU8
  have hrun := run_append_grow_string (P := Tryz.prog) w 78 9 o.type 5 i (.int .u8 0) Tryz.underlying78 Tryz.underlying9 hi hz ⟨g, 0, none⟩ n n xs (by rw [hsize]; simpa using hl) (cells_add hr) t (by omega) (by omega) (by rw [hby]; exact growslice_fits (by omega) (by omega))
  have hge := grownCap_ge w (n + t.size) n 5
  have hcm : grownCap w (n + t.size) n 5 ≤ maxLen := grownCap_le_maxLen w (n + t.size) n 5 (by unfold maxLen; omega)
  have hlen : (xs ++ strCells t).length = (n + t.size) * 1 := by rw [List.length_append, hl, strCells_length, Nat.mul_one]
  unfold Oper.wp
  simp [execOp, ho, resolve, invoke, builtin, hs, hx, hrun, Result.andThen]
  refine hK' _ _ (h _ _ ⟨hlen, .inr ⟨w.heap.size, _, _, rfl, Nat.le_refl _, heap_alloc_new w.drew _, hge, hcm, ?_, ?_⟩⟩ ⟨rfl, rfl, rfl, by simp, fun k hk _ => heap_alloc_old w.drew _ hk⟩)
  · have hz1 : (Value.int IntKind.u8 0).cells.size = 1 := rfl
    simp only [Array.size_append, List.size_toArray, size_zeroCells, hz1, hl, strCells_length]
    omega
  · simp only [Array.toList_append, List.append_assoc]
    rw [← List.append_assoc, ← hlen]
    exact List.take_left
set_option maxRecDepth 100000 in
set_option maxHeartbeats 4000000 in
theorem fullUint_small (g n u : Nat) (hu : u < 100) (xs : List Value) (w : World) (hl : xs.length = n) (hr : RowAt w g 0 xs) (hn : n ≤ 1000) :
    Calls Tryz.prog 78 #[.slice (some ⟨g, 0, none⟩) n n, .int .u64 u, .int .i64 10] w (FuPost n xs u w) := by
  have hlen : (Lib.decDigits u).length ≤ 20 ∧ 0 < (Lib.decDigits u).length := by
    rw [Lib.decDigits_length]
    by_cases h10 : u < 10
    · rw [Lib.nDigits_small h10]; omega
    · rw [Lib.nDigits_big h10, Lib.nDigits_small (show u / 10 < 10 by omega)]; omega
  have hsz : (⟨(Lib.decDigits u).toArray⟩ : ByteArray).size = (Lib.decDigits u).length := by simp [ByteArray.size]
  have Hl := Lib.hid hl
  have Hr := Lib.hid hr
  have Hsz := Lib.hid hsz
  have Hsm := Lib.hid (fun W => Any.internal_strconv_small { laysAI with } u hu W)
  clear hl hr hsz
  go_enter Tryz.func78, Tryz.ntmps78
  go_wp2_with (first
    | (go_at_call 89; refine (Hsm.out _).mono ?_; rintro e w' ⟨rfl, rfl⟩)
    | (at_builtin; refine full_string (K := fun _ _ => True) rfl _ _ rfl g n xs rfl Hl.out Hr.out ⟨(Lib.decDigits u).toArray⟩ rfl (by rw [Hsz.out]; omega) (by rw [Hsz.out]; omega) ?_; intro v' w1 hown' hgrow))
  go_ret
  refine ⟨v', rfl, ?_, (Below.refl _ _).grown hgrow (Nat.le_refl _) (fun k hk => by cases hk)⟩
  rw [Hsz.out] at hown'
  exact hown'
set_option maxRecDepth 100000 in
set_option maxHeartbeats 12800000 in
theorem fullUint_big (g n u : Nat) (hu : 100 ≤ u) (hu64 : u < 18446744073709551616) (xs : List Value) (w : World) (hg : g < w.heap.size) (hl : xs.length = n) (hr : RowAt w g 0 xs) (hn : n ≤ 1000) (htab : Lib.TabIs Tryz.prog w "internal/strconv.uint64pow10" .u64 Lib.pow10Tab) :
    Calls Tryz.prog 78 #[.slice (some ⟨g, 0, none⟩) n n, .int .u64 u, .int .i64 10] w (FuPost n xs u w) := by
  obtain ⟨i0, hi, hz0, hz1, hz2⟩ := info_parts Tryz.infoU8
  have hu1 : 1 ≤ u := by omega
  have hnd20 : Lib.nDigits u ≤ 20 := by have := Lib.numDigits_eq u hu1 hu64; split at this <;> omega
  have hnd0 : 0 < Lib.nDigits u := by rw [Lib.nDigits_big (by omega)]; omega
  have hal : Tryz.prog.arrayLen 138 = 24 := by simp [Program.arrayLen, Tryz.underlying138]
  have hsl : ∀ W, (Instr.sliceAt 138 (.pointer (some ⟨w.heap.size, 0, none⟩)) none (some (.int .i64 (Lib.nDigits u : Int))) none).run Tryz.prog W = .ok (.slice (some ⟨w.heap.size, 0, none⟩) (Lib.nDigits u) 24) W := fun W => by
    rw [run_sliceAt_array_h W 138 ⟨w.heap.size, 0, none⟩ (by simp [Program.arrayLen, Program.elem, Tryz.underlying138]) .i64 (Lib.nDigits u : Int) (by omega) (by rw [hal]; omega)]
    go_simp
  have hH0 := Lib.holds_zero0 w 138 (Lib.nDigits u) (by omega)
  have hfmt := Any.internal_strconv_formatBase10 { laysAI with } w.heap.size 0 24 u (Array.replicate (Lib.nDigits u) 0) (w.alloc (.cells Lib.zeros24 138)) hH0 (by rw [Array.size_replicate]; exact Lib.lt_pow_nDigits u) hu64 (by rw [Array.size_replicate]; omega)
  rw [Array.size_replicate] at hfmt
  have Hfmt := Lib.hid hfmt
  have HH0 := Lib.hid hH0
  have Hnum := Lib.hid (Any.internal_strconv_numDigits { laysAI with } u hu1 hu64 (w.alloc (.cells Lib.zeros24 138)) (Lib.tabIs_alloc htab _))
  have iu : (100 : Int) ≤ (u : Int) := by omega
  have Hl := Lib.hid hl
  have Hr := Lib.hid hr
  clear hH0 hal hfmt htab hl hr
  go_enter Tryz.func78, Tryz.ntmps78
  go_wp2_with fail
  refine Hnum.out.mono ?_
  rintro e w' ⟨rfl, rfl⟩
  go_wp2_with fail
  refine Hfmt.out.mono ?_
  rintro e w' ⟨rfl, k, v', dk, rfl, hF⟩
  have hcells : ∀ j u', (Lib.byteCells (Lib.decDigits u))[j]? = some u' → ((putRow (fun (b : UInt8) => Value.int .u8 (b.toNat : Int)) (w.alloc (.cells Lib.zeros24 138)) w.heap.size 0 dk).drewN k).cell? ((⟨w.heap.size, 0, none⟩ : Addr).add j) = some u' := by
    intro j u' hj
    have hjl : j < (Lib.decDigits u).length := by
      have h5 := (List.getElem?_eq_some_iff.1 hj).1
      rwa [Lib.byteCells_length] at h5
    have e5 : (Lib.byteCells (Lib.decDigits u))[j]? = some (Value.int .u8 ((Lib.decDigits u)[j].toNat : Int)) := by simp [Lib.byteCells, hjl]
    rw [e5] at hj
    cases hj
    rw [Lib.row_is_numeral hF j hjl, Lib.add_plain, World.cell?_drewN]
    exact cell?_putRow (fun (b : UInt8) => Value.int .u8 (b.toNat : Int)) _ w.heap.size 0 _ dk HH0.out (by rw [hF.size, Array.size_replicate]) j (by rw [hF.size]; rw [Lib.decDigits_length] at hjl; exact hjl)
  obtain ⟨os, eo⟩ := Lib.fin_at w (.cells Lib.zeros24 138) dk k 0
  have hb2 : RowKit.Below w.heap.size w ((putRow (fun (b : UInt8) => Value.int .u8 (b.toNat : Int)) (w.alloc (.cells Lib.zeros24 138)) w.heap.size 0 dk).drewN k) := by rw [eo]; exact Lib.below_grow w.heap.size w (Nat.le_refl _) k os
  generalize (putRow (fun (b : UInt8) => Value.int .u8 (b.toNat : Int)) (w.alloc (.cells Lib.zeros24 138)) w.heap.size 0 dk).drewN k = W2 at hcells hb2 ⊢
  clear eo HH0 Hfmt Hnum
  have Hc := Lib.hid hcells
  have Hr2 := Lib.hid (cells_add (Hr.out.below hb2 hg))
  have Hb2 := Lib.hid hb2
  clear hcells hb2 hF
  go_wp2_with (at_builtin; refine wpList_append_grows _ rfl _ _ 78 rfl 5 i0 (.int .u8 0) 1 1 Tryz.underlying78 hi hz0 hz1 hz2 rfl (by decide) (some ⟨g, 0, none⟩) n n xs rfl (fun h => by cases h) (by rw [Hl.out, Nat.mul_one]) (fun b hb => by cases hb; exact Hr2.out) ⟨w.heap.size, 0, none⟩ (Lib.nDigits u) 24 (Lib.byteCells (Lib.decDigits u)) rfl (by rw [Lib.byteCells_length, Lib.decDigits_length, Nat.mul_one]) Hc.out (fun u' hu' => by simp only [Lib.byteCells, List.mem_map] at hu'; obtain ⟨b, _, rfl⟩ := hu'; rfl) (by omega) (by unfold maxLen; omega) (by omega) ?_; intro v2 w3 hown' hgrow)
  go_ret
  refine ⟨v2, rfl, ?_, Hb2.out.trans ((Below.refl _ _).grown hgrow Hb2.out.size (fun k hk => by cases hk))⟩
  rw [Lib.decDigits_length]
  exact ownT_base hown' Hb2.out.size
set_option maxRecDepth 100000 in
theorem fullInt_in (g n u : Nat) (hu64 : u < 9223372036854775808) (xs : List Value) (w : World) (hg : g < w.heap.size) (hl : xs.length = n) (hr : RowAt w g 0 xs) (hn : n ≤ 1000) (htab : Lib.TabIs Tryz.prog w "internal/strconv.uint64pow10" .u64 Lib.pow10Tab) :
    Calls Tryz.prog 58 #[.slice (some ⟨g, 0, none⟩) n n, .int .i64 u, .int .i64 10] w (FuPost n xs u w) := by
  have H := Lib.hid (show Calls Tryz.prog 78 #[.slice (some ⟨g, 0, none⟩) n n, .int .u64 u, .int .i64 10] w (FuPost n xs u w) from by
    by_cases hu : u < 100
    · exact fullUint_small g n u hu xs w hl hr hn
    · exact fullUint_big g n u (by omega) (by omega) xs w hg hl hr hn htab)
  have hw : IntKind.u64.wrap (u : Int) = u := by rw [IntKind.wrap_u64]; omega
  have d0 : decide ((u : Int) < 0) = false := decide_eq_false (by omega)
  clear hl hr htab hu64 hg hn
  go_enter Tryz.func58, Tryz.ntmps58
  go_wp2_with fail
  refine Calls.mono H.out ?_
  rintro e w1 ⟨v', rfl, ho, hb⟩
  go_wp2
  go_ret
  exact ⟨v', rfl, ho, hb⟩
theorem fullInt_any (g n u : Nat) (hu64 : u < 9223372036854775808) (xs : List Value) (w : World) (hg : g < w.heap.size) (hl : xs.length = n) (hr : RowAt w g 0 xs) (hn : n ≤ 1000) (htab : Lib.TabIs Tryz.prog w "internal/strconv.uint64pow10" .u64 Lib.pow10Tab) :
    Calls Tryz.prog 33 #[.slice (some ⟨g, 0, none⟩) n n, .int .i64 u, .int .i64 10] w (FuPost n xs u w) := by
  have H := Lib.hid (fullInt_in g n u hu64 xs w hg hl hr hn htab)
  clear hl hr htab hu64 hg hn
  go_enter Tryz.func33, Tryz.ntmps33
  go_wp2_with fail
  refine Calls.mono H.out ?_
  rintro e w1 ⟨v', rfl, ho, hb⟩
  go_wp2
  go_ret
  exact ⟨v', rfl, ho, hb⟩
end Go.Proofs.YtcodhhabfacnjaaGreatDoor
