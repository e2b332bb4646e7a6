/- Of the proof of a statement: Tabs, Chk, RTab. -/
import Derived.Shelf.Unicode.ValidAny
import Derived.Lib.LaidU8T
import Derived.Orders
import Derived.Below
import Derived.Test.YtjgnnobccecpeaaGreatDoorPPush
set_option linter.unusedVariables false
set_option linter.unusedSimpArgs false
set_option maxRecDepth 100000
set_option maxHeartbeats 8000000
/- The contract of utf8.ValidString, laid at this program: numbers only. -/
namespace Go.Proofs.YtjgnnobccecpeaaGreatDoor
open Go.Lib (hid)
open Go.RowKit Go.Shelf Go.Lib
def ren : Ren := {
 f := fun x => match x with
  | 196 => 210
  | 259 => 273
  | n => n
 t := fun x => match x with
  | 0 => 0
  | 3 => 3
  | 4 => 4
  | 5 => 5
  | 9 => 9
  | 12 => 12
  | 46 => 324
  | 53 => 232
  | 119 => 330
  | 138 => 332
  | 139 => 333
  | n => n
 g := fun x => match x with
  | 3 => 0
  | 4 => 1
  | n => n }
theorem laysV : Lays.n196 Tryz.prog ren := {
 mixed := by kernel_rfl
 f196 := Tryz.func210.trans (congrArg some (by kernel_rfl))
 f259 := Tryz.func273.trans (congrArg some (by kernel_rfl))
 t0 := Tryz.underlying0
 a0 := Tryz.isAgg0
 z0 := Tryz.sizeOf0
 v0 := Tryz.zeroValue0
 t3 := Tryz.underlying3
 a3 := Tryz.isAgg3
 z3 := Tryz.sizeOf3
 v3 := Tryz.zeroValue3
 t4 := Tryz.underlying4
 a4 := Tryz.isAgg4
 z4 := Tryz.sizeOf4
 v4 := Tryz.zeroValue4
 t5 := Tryz.underlying5
 a5 := Tryz.isAgg5
 z5 := Tryz.sizeOf5
 v5 := Tryz.zeroValue5
 t9 := Tryz.underlying9
 a9 := Tryz.isAgg9
 z9 := Tryz.sizeOf9
 v9 := Tryz.zeroValue9
 t12 := Tryz.underlying12
 a12 := Tryz.isAgg12
 z12 := Tryz.sizeOf12
 v12 := Tryz.zeroValue12
 t46 := Tryz.underlying324
 a46 := Tryz.isAgg324
 z46 := Tryz.sizeOf324
 v46 := Tryz.zeroValue324
 t53 := Tryz.underlying232
 a53 := Tryz.isAgg232
 z53 := Tryz.sizeOf232
 v53 := Tryz.zeroValue232
 t119 := Tryz.underlying330
 a119 := Tryz.isAgg330
 z119 := Tryz.sizeOf330
 t138 := Tryz.underlying332
 a138 := Tryz.isAgg332
 z138 := Tryz.sizeOf332
 v138 := Tryz.zeroValue332
 t139 := Tryz.underlying333
 a139 := Tryz.isAgg333
 z139 := Tryz.sizeOf333
 v139 := Tryz.zeroValue333
 g3 := by kernel_rfl
 g4 := by kernel_rfl }
def Tabs (w : World) : Prop := Utf8Tabs (ren.g 3) (ren.g 4) w
theorem Tabs.below {w w' : World} (h : Tabs w) (hb : Below w.heap.size w w') : Tabs w' := Utf8Tabs_below h hb
theorem tabs_of {w : World} {l : List (String × DataW Unit)} (hL : laidMet Tryz.prog l w) (h1 : ("unicode/utf8.first", firstData) ∈ l) (h2 : ("unicode/utf8.acceptRanges", acceptData) ∈ l) : Tabs w :=
 utf8Tabs_of_readsT (U8Types.of196 laysV) ⟨by kernel_rfl, by kernel_rfl, by kernel_rfl, by kernel_rfl, by kernel_rfl, by kernel_rfl, by kernel_rfl⟩ (laidMet.reads hL h1) (laidMet.reads hL h2)
theorem valid_any (s : ByteArray) (w : World) (hs : s.size ≤ 9223372036854775807) (hT : Tabs w) :
 Calls Tryz.prog 210 #[.string s] w fun e w' => e = .returned (.bool (validD s.data.toList)) ∧ Below w.heap.size w w' :=
 Any.utf8_ValidString laysV s w hs hT
end Go.Proofs.YtjgnnobccecpeaaGreatDoor
/- The walks of the checks of one row, in the program. -/
namespace Go.Proofs.YtjgnnobccecpeaaGreatDoor
open Go.Lib (hid)
open Go.RowKit
open Go.Lib (validD)
theorem isText_any (s : ByteArray) (w : World) (hs : s.size ≤ 9223372036854775807) (hT : Tabs w) : Calls Tryz.prog 150 #[.string s] w fun e w' => e = .returned (.bool (txtOk s)) ∧ Below w.heap.size w w' := by
 by_cases h : s.size ≤ 16
 · rw [txtOk_short h]
   have hV := hid (valid_any s w hs hT)
   generalize validD s.data.toList = b at hV ⊢
   go_enter Tryz.func150, Tryz.ntmps150
   go_wp2_with fail
   refine Calls.mono hV.out ?_
   rintro e w1 ⟨rfl, hb⟩
   go_wp2
   go_ret
   exact ⟨rfl, hb⟩
 · rw [txtOk_long h]
   go_enter Tryz.func150, Tryz.ntmps150
   go_wp2
   go_ret
   exact ⟨rfl, Below.refl _ _⟩
theorem isName_any (s : ByteArray) (w : World) (hs : s.size ≤ 9223372036854775807) (hT : Tabs w) : Calls Tryz.prog 149 #[.string s] w fun e w' => e = .returned (.bool (nameOk s)) ∧ Below w.heap.size w w' := by
 by_cases h : s.size = 0
 · rw [nameOk_empty h]
   obtain rfl := empty_of h
   go_enter Tryz.func149, Tryz.ntmps149
   go_wp2
   go_ret
   exact ⟨rfl, Below.refl _ _⟩
 · rw [nameOk_more h]
   have hV := hid (isText_any s w hs hT)
   have e1 := beq_nil h
   have e2 := beq_empty h
   generalize txtOk s = b at hV ⊢
   go_enter Tryz.func149, Tryz.ntmps149
   go_wp2_with fail
   refine Calls.mono hV.out ?_
   rintro e w1 ⟨rfl, hb⟩
   go_wp2
   go_ret
   exact ⟨rfl, hb⟩
theorem swithin_yes (n lo hi : Int) (h1 : lo ≤ n) (h2 : n ≤ hi) (w : World) : Calls Tryz.prog 151 #[.int .i64 n, .int .i64 lo, .int .i64 hi] w fun e w' => e = .returned (.bool true) ∧ w = w' := by
 have e2 : decide (n ≤ hi) = true := decide_eq_true h2
 go_enter Tryz.func151, Tryz.ntmps151
 go_wp2
 go_ret
 exact ⟨rfl, rfl⟩
theorem swithin_no (n lo hi : Int) (h : n < lo ∨ hi < n) (w : World) : Calls Tryz.prog 151 #[.int .i64 n, .int .i64 lo, .int .i64 hi] w fun e w' => e = .returned (.bool false) ∧ w = w' := by
 by_cases h1 : lo ≤ n
 · have h2 : hi < n := by omega
   have e2 : decide (n ≤ hi) = false := decide_eq_false (by omega)
   clear h
   go_enter Tryz.func151, Tryz.ntmps151
   go_wp2
   go_ret
   exact ⟨rfl, rfl⟩
 · have e1 : decide (lo ≤ n) = false := decide_eq_false h1
   clear h
   go_enter Tryz.func151, Tryz.ntmps151
   go_wp2
   go_ret
   exact ⟨rfl, rfl⟩
theorem swithin_any (n lo hi : Int) (w : World) : Calls Tryz.prog 151 #[.int .i64 n, .int .i64 lo, .int .i64 hi] w fun e w' => e = .returned (.bool (ranged n lo hi)) ∧ w = w' := by
 cases h : ranged n lo hi
 · exact swithin_no n lo hi (ranged_not.1 h) w
 · exact swithin_yes n lo hi (ranged_iff.1 h).1 (ranged_iff.1 h).2 w
theorem checkJob_any (j : JobD) (w : World) (h1 : j.name.size ≤ 9223372036854775807) (h2 : j.tag.size ≤ 9223372036854775807) (hT : Tabs w) :
 Calls Tryz.prog 68 #[.agg (jobV j).toArray] w fun e w' => e = .returned (.int .i64 (jobE j)) ∧ Below w.heap.size w w' := by
 obtain ⟨E, hE⟩ : ∃ E, jobE j = E := ⟨_, rfl⟩
 rw [hE]
 have HE := hid hE
 clear hE
 obtain ⟨name, prio, need, tries, tag⟩ := j
 unfold jobV
 simp only at h1 h2 ⊢
 have hb0 : Below w.heap.size w (w.alloc (.cells #[.string name, .int .i64 prio, .int .i64 need, .int .i64 tries, .string tag] 38)) := (Below.refl _ _).alloc (Nat.le_refl _) _
 have hT0 := hT.below hb0
 have hN := hid (isName_any name _ h1 hT0)
 have HT := hid hT0
 have HB := hid hb0
 clear hT0 hb0 hT
 go_enter Tryz.func68, Tryz.ntmps68
 go_wp2_with fail
 refine Calls.mono hN.out ?_
 rintro e w1 ⟨rfl, hb1⟩
 have y1 : w1.cell? ⟨w.heap.size, 1, none⟩ = some (.int .i64 prio) := by rw [(bcell hb1).1 _ _ (by simp)]; simp [go_sem]
 have y2 : w1.cell? ⟨w.heap.size, 2, none⟩ = some (.int .i64 need) := by rw [(bcell hb1).1 _ _ (by simp)]; simp [go_sem]
 have y3 : w1.cell? ⟨w.heap.size, 3, none⟩ = some (.int .i64 tries) := by rw [(bcell hb1).1 _ _ (by simp)]; simp [go_sem]
 have y4 : w1.cell? ⟨w.heap.size, 4, none⟩ = some (.string tag) := by rw [(bcell hb1).1 _ _ (by simp)]; simp [go_sem]
 have HB1 := hid (HB.out.trans (hb1.mono HB.out.size))
 have HT1 := hid (HT.out.below hb1)
 have hsz : w.heap.size < w1.heap.size := by have := hb1.size; simp at this; omega
 clear hb1 HB HT hN
 cases hn : nameOk name
 · go_wp2
   go_ret
   exact ⟨ret_int (by rw [← HE.out]; simp [jobE, hn]), HB1.out⟩
 go_wp2_with fail
 refine Calls.mono (isText_any tag w1 h2 HT1.out) ?_
 rintro e w2 ⟨rfl, hb2⟩
 replace y1 := ((bcell hb2).1 _ _ hsz).trans y1
 replace y2 := ((bcell hb2).1 _ _ hsz).trans y2
 replace y3 := ((bcell hb2).1 _ _ hsz).trans y3
 have HB2 := hid (HB1.out.trans (hb2.mono HB1.out.size))
 clear y4 hb2 HB1 HT1 hsz
 cases ht : txtOk tag
 · go_wp2
   go_ret
   exact ⟨ret_int (by rw [← HE.out]; simp [jobE, hn, ht]), HB2.out⟩
 go_wp2_with fail
 refine Calls.mono (swithin_any _ _ _ _) ?_
 rintro e w3 ⟨rfl, rfl⟩
 cases hr1 : ranged prio (-1000) 1000
 · go_wp2
   go_ret
   exact ⟨ret_int (by rw [← HE.out]; simp [jobE, hn, ht, hr1]), HB2.out⟩
 go_wp2_with fail
 refine Calls.mono (swithin_any _ _ _ _) ?_
 rintro e w3 ⟨rfl, rfl⟩
 cases hr2 : ranged need 0 1000000
 · go_wp2
   go_ret
   exact ⟨ret_int (by rw [← HE.out]; simp [jobE, hn, ht, hr1, hr2]), HB2.out⟩
 go_wp2_with fail
 refine Calls.mono (swithin_any _ _ _ _) ?_
 rintro e w3 ⟨rfl, rfl⟩
 cases hr3 : ranged tries 0 100
 · go_wp2
   go_ret
   exact ⟨ret_int (by rw [← HE.out]; simp [jobE, hn, ht, hr1, hr2, hr3]), HB2.out⟩
 · go_wp2
   go_ret
   exact ⟨ret_int (by rw [← HE.out]; simp [jobE, hn, ht, hr1, hr2, hr3]), HB2.out⟩
theorem checkNode_any (n : NodeD) (w : World) (h1 : n.name.size ≤ 9223372036854775807) (h2 : n.zone.size ≤ 9223372036854775807) (hT : Tabs w) :
 Calls Tryz.prog 70 #[.agg (nodeV n).toArray] w fun e w' => e = .returned (.int .i64 (nodeE n)) ∧ Below w.heap.size w w' := by
 obtain ⟨E, hE⟩ : ∃ E, nodeE n = E := ⟨_, rfl⟩
 rw [hE]
 have HE := hid hE
 clear hE
 obtain ⟨name, room, zone⟩ := n
 unfold nodeV
 simp only at h1 h2 ⊢
 have hb0 : Below w.heap.size w (w.alloc (.cells #[.string name, .int .i64 room, .string zone] 40)) := (Below.refl _ _).alloc (Nat.le_refl _) _
 have hT0 := hT.below hb0
 have hN := hid (isName_any name _ h1 hT0)
 have HT := hid hT0
 have HB := hid hb0
 clear hT0 hb0 hT
 go_enter Tryz.func70, Tryz.ntmps70
 go_wp2_with fail
 refine Calls.mono hN.out ?_
 rintro e w1 ⟨rfl, hb1⟩
 have y1 : w1.cell? ⟨w.heap.size, 1, none⟩ = some (.int .i64 room) := by rw [(bcell hb1).1 _ _ (by simp)]; simp [go_sem]
 have y2 : w1.cell? ⟨w.heap.size, 2, none⟩ = some (.string zone) := by rw [(bcell hb1).1 _ _ (by simp)]; simp [go_sem]
 have HB1 := hid (HB.out.trans (hb1.mono HB.out.size))
 have HT1 := hid (HT.out.below hb1)
 have hsz : w.heap.size < w1.heap.size := by have := hb1.size; simp at this; omega
 clear hb1 HB HT hN
 cases hn : nameOk name
 · go_wp2
   go_ret
   exact ⟨ret_int (by rw [← HE.out]; simp [nodeE, hn]), HB1.out⟩
 go_wp2_with fail
 refine Calls.mono (isText_any zone w1 h2 HT1.out) ?_
 rintro e w2 ⟨rfl, hb2⟩
 replace y1 := ((bcell hb2).1 _ _ hsz).trans y1
 have HB2 := hid (HB1.out.trans (hb2.mono HB1.out.size))
 clear y2 hb2 HB1 HT1 hsz
 cases ht : txtOk zone
 · go_wp2
   go_ret
   exact ⟨ret_int (by rw [← HE.out]; simp [nodeE, hn, ht]), HB2.out⟩
 go_wp2_with fail
 refine Calls.mono (swithin_any _ _ _ _) ?_
 rintro e w3 ⟨rfl, rfl⟩
 cases hr1 : ranged room 0 1000000
 · go_wp2
   go_ret
   exact ⟨ret_int (by rw [← HE.out]; simp [nodeE, hn, ht, hr1]), HB2.out⟩
 · go_wp2
   go_ret
   exact ⟨ret_int (by rw [← HE.out]; simp [nodeE, hn, ht, hr1]), HB2.out⟩
end Go.Proofs.YtjgnnobccecpeaaGreatDoor
/- A region that draws its order, by a table: what each operation leaves is said of its value and the world, and stays true while blocks are laid behind. Whatever order the tape picks. -/
namespace Go.Proofs.YtjgnnobccecpeaaGreatDoor
open Go.Lib (hid)
open Go.RowKit
section
variable {P : Program} {ops : Array Oper} {V : Nat → Value → World → Prop} {a0 : Act} {w0 : World}
def tabB (ops : Array Oper) (n : Nat) : Bool :=
 (List.range ops.size).all fun i => match ops[i]? with
  | some o => (match o.dst with | some t => decide (t < n) && (List.range i).all (fun j => match ops[j]? with | some p => p.dst != some t | none => true) | none => true) && o.after.all (fun e => decide (e.on < i))
  | none => true
theorem tabB_spec {n : Nat} (h : tabB ops n = true) {i : Nat} {o : Oper} (ho : ops[i]? = some o) :
 (∀ t, o.dst = some t → t < n ∧ ∀ (j : Nat) (p : Oper), ops[j]? = some p → j < i → p.dst ≠ some t) ∧ ∀ e ∈ o.after, e.on < i := by
 unfold tabB at h
 rw [List.all_eq_true] at h
 have hi : i < ops.size := (Array.getElem?_eq_some_iff.1 ho).1
 have h1 := h i (List.mem_range.2 hi)
 rw [ho] at h1
 simp only [Bool.and_eq_true] at h1
 obtain ⟨h1, h2⟩ := h1
 refine ⟨fun t ht => ?_, fun e he => ?_⟩
 · rw [ht] at h1
   simp only [Bool.and_eq_true, decide_eq_true_eq] at h1
   refine ⟨h1.1, fun j p hp hj => ?_⟩
   have h3 := List.all_eq_true.1 h1.2 j (List.mem_range.2 hj)
   rw [hp] at h3
   simpa using h3
 · have := (Array.all_eq_true_iff_forall_mem.1 h2) e he
   simpa using this
theorem listed_of_ready_nil {n : Nat} (hB : tabB ops n = true) {listed : Array Bool} (hs : listed.size = ops.size) (hr : Region.ready .any ops listed = []) : ∀ i, i < ops.size → listed.getD i false = true := by
 intro i
 induction i using Nat.strongRecOn with
 | _ i ih =>
  intro hi
  have ho : ops[i]? = some ops[i] := Array.getElem?_eq_getElem hi
  by_cases hl : listed.getD i false = true
  · exact hl
  · exfalso
    have hm : i ∈ Region.ready .any ops listed := mem_ready.2 ⟨by
     have hx : listed[i]? = some listed[i] := Array.getElem?_eq_getElem (by omega)
     rw [Array.getD_eq_getD_getElem?, hx] at hl ⊢
     simpa using hl, _, ho, fun e he _ => ?_⟩
    · rw [hr] at hm; cases hm
    · have hlt := (tabB_spec hB ho).2 e he
      exact ih e.on hlt (by omega)
def waitsFor (o : Oper) (j : Nat) : Bool := o.after.any fun e => e.on == j && Region.binds .any e
theorem count_set : ∀ (l : List Bool) (i : Nat), l[i]? = some false → ((l.set i true).filter (! ·)).length + 1 = (l.filter (! ·)).length
 | [], i, h => by simp at h
 | x :: l, 0, h => by
  have hx : x = false := by simpa using h
  subst hx; simp
 | x :: l, i + 1, h => by
  have ih := count_set l i (by simpa using h)
  cases x <;> simp <;> omega
theorem fold_set (f : Nat → Value) : ∀ (ds : List Nat) (t0 : Array Value) (i : Nat), (ds.foldl (fun t d => t.setIfInBounds d (f d)) t0)[i]? = if i ∈ ds ∧ i < t0.size then some (f i) else t0[i]?
 | [], t0, i => by simp
 | d :: ds, t0, i => by
  rw [List.foldl_cons, fold_set f ds, Array.getElem?_setIfInBounds, Array.size_setIfInBounds]
  by_cases hi : i < t0.size
  · by_cases h1 : i ∈ ds
    · simp [h1, hi]
    · by_cases h2 : d = i
      · subst h2; simp [h1, hi]
      · have h3 : ¬ i = d := fun e => h2 e.symm
        simp [h1, h2, h3]
  · by_cases h2 : d = i
    · subst h2
      simp [hi]
    · simp [hi, h2]
end
end Go.Proofs.YtjgnnobccecpeaaGreatDoor
