/- Of the proof of a statement: LawBJSONParses, ChkR. -/
import Derived.Test.YtoeejfhdjmkpcaaGreatDoorCards
import Derived.Test.YtoeejfhdjmkpcaaGreatDoorTie
import Derived.Deep.DeepHandedRow
import Derived.Deep.DeepWitnessRowRef
import Derived.Lib.LaidIn
import Derived.Stop.LaidErr
import Derived.Test.YtoeejfhdjmkpcaaGreatDoorSRecs
import Derived.Test.YtoeejfhdjmkpcaaGreatDoorSUtf
set_option linter.unusedVariables false
set_option linter.unusedSimpArgs false
/- The closed facts of the statement JSONParses: what the listed variables hold, a world for the witness, the facts of the row. -/
namespace Go.Proofs.YtoeejfhdjmkpcaaGreatDoor.jSONParsesLaw
open Go.ChangeShapes Go.WideShapes Go.ChangeAt Go.RowKit Go.Lib
open Go.ChangeMaps (open_string shut_string)
set_option linter.unusedVariables false
def de32 : List Int := [0, 1, 28, 2, 29, 14, 24, 3, 30, 22, 20, 15, 25, 17, 4, 8, 31, 27, 13, 23, 21, 19, 16, 7, 26, 12, 18, 6, 11, 5, 10, 9]
def de64 : List Int := [0, 1, 56, 2, 57, 49, 28, 3, 61, 58, 42, 50, 38, 29, 17, 4, 62, 47, 59, 36, 45, 43, 51, 22, 53, 39, 33, 30, 24, 18, 12, 5, 63, 55, 48, 27, 60, 41, 37, 16, 46, 35, 44, 21, 52, 32, 23, 11, 54, 26, 40, 15, 34, 20, 31, 10, 25, 14, 19, 9, 13, 8, 7, 6]
theorem gER : Tryz.prog.globalNamed "strconv.ErrRange" = some 3 := by kernel_rfl
theorem gES : Tryz.prog.globalNamed "strconv.ErrSyntax" = some 2 := by kernel_rfl
theorem gERt : (Tryz.prog.globals[3]?).map (·.type) = some 282 := by kernel_rfl
theorem gESt : (Tryz.prog.globals[2]?).map (·.type) = some 282 := by kernel_rfl
theorem star : "*" ++ "errors.errorString" = "*errors.errorString" := by decide
theorem rowE (u : TypeId) (h : Tryz.prog.typeName? 3 u = some "*errors.errorString") : u = 478 :=
  typeName_ptr_named (nm := "errors.errorString") (by rw [star]; kernel_rfl) (by kernel_rfl) (by decide) u (by rw [star]; exact h)
theorem cE : Tryz.prog.cellsOf 480 = 1 := by kernel_rfl
theorem cS : Tryz.prog.cellsOf 9 = 1 := by kernel_rfl
theorem laid_eq : Rows.jSONParsesRow.laid = [("math/bits.deBruijn32tab", Lib.tabData .u8 de32), ("math/bits.deBruijn64tab", Lib.tabData .u8 de64), ("internal/strconv.uint64pow10", Lib.tabData .u64 Lib.pow10Tab), ("unicode/utf8.acceptRanges", Lib.acceptData), ("strconv.ErrRange", .iface "*errors.errorString" (.ptr (.agg [.lit (.string [118, 97, 108, 117, 101, 32, 111, 117, 116, 32, 111, 102, 32, 114, 97, 110, 103, 101])]))), ("strconv.ErrSyntax", .iface "*errors.errorString" (.ptr (.agg [.lit (.string [105, 110, 118, 97, 108, 105, 100, 32, 115, 121, 110, 116, 97, 120])]))), ("unicode/utf8.first", Lib.firstData)] := by kernel_rfl
/-- A world for the witness: the settled one, the two tables holding what their initialisers lay. -/
noncomputable def low : Nat := (World.holding Tryz.prog default ⟨#[], #[], []⟩).heap.size
def textR : ByteArray := ⟨#[118, 97, 108, 117, 101, 32, 111, 117, 116, 32, 111, 102, 32, 114, 97, 110, 103, 101]⟩
def textS : ByteArray := ⟨#[105, 110, 118, 97, 108, 105, 100, 32, 115, 121, 110, 116, 97, 120]⟩
noncomputable def laidWorld (os : Os) : World :=
  let w0 := World.holding Tryz.prog os ⟨#[.cells #[.string textR] 480, .cells #[.string textS] 480], #[], []⟩
  let put (h : Array Obj) (g : Nat) (cs : Array Value) : Array Obj := h.modify g fun
    | .cells _ t frozen => .cells cs t frozen
    | o => o
  let h1 := put w0.heap 0 (Lib.firstTab.map fun z => Value.int .u8 z).toArray
  let h2 := put h1 1 ((List.range 16).flatMap fun i => [Value.int .u8 (Lib.accLo i), Value.int .u8 (Lib.accHi i)]).toArray
  let h3 := put h2 6 (de32.map fun z => Value.int .u8 z).toArray
  let h4 := put h3 7 (de64.map fun z => Value.int .u8 z).toArray
  let h5 := put h4 4 (Lib.pow10Tab.map fun z => Value.int .u64 z).toArray
  let h6 := put h5 3 #[.iface 478 (.pointer (some ⟨low, 0, none⟩))]
  let h7 := put h6 2 #[.iface 478 (.pointer (some ⟨low + 1, 0, none⟩))]
  { w0 with heap := h7 }
theorem laid_met (os : Os) : laidMet Tryz.prog Rows.jSONParsesRow.laid ((laidWorld os).forCall (fun _ _ => 0) ⟨#[], #[.string ⟨#[]⟩], []⟩).memory := by
  rw [laid_eq]
  exact (LaidIn.of_run (l := [("math/bits.deBruijn32tab", Lib.tabData .u8 de32), ("math/bits.deBruijn64tab", Lib.tabData .u8 de64), ("internal/strconv.uint64pow10", Lib.tabData .u64 Lib.pow10Tab), ("unicode/utf8.acceptRanges", Lib.acceptData), ("strconv.ErrRange", .iface "*errors.errorString" (.ptr (.agg [.lit (.string [118, 97, 108, 117, 101, 32, 111, 117, 116, 32, 111, 102, 32, 114, 97, 110, 103, 101])]))), ("strconv.ErrSyntax", .iface "*errors.errorString" (.ptr (.agg [.lit (.string [105, 110, 118, 97, 108, 105, 100, 32, 115, 121, 110, 116, 97, 120])]))), ("unicode/utf8.first", Lib.firstData)]) [6, 7, 4, 1, 3, low, 2, low + 1, 0] 8 (by kernel_rfl) (by kernel_rfl) (by kernel_rfl) (by kernel_rfl)).met
theorem reads (os : Os) {H : Type} (enc : TypeId × Value → H) : ∃ places, DataW.whole enc Tryz.prog ((laidWorld os).forCall (fun _ _ => 0) ⟨#[], #[.string ⟨#[]⟩], []⟩).memory Tryz.f6.params.toList Rows.jSONParsesSpec.vars false #[.string ⟨#[]⟩].toList 8 = some ([.lit (.string [])], [], places) :=
  ⟨[], by kernel_rfl⟩
theorem and_mk {a b : Bool} (h : a = true) (k : b = true) : (a && b) = true := by rw [h, k]; rfl
/- The closed facts, each weighed in a declaration of its own: the program is great. -/
set_option maxHeartbeats 0 in
theorem closed : joinedFacts Tryz.prog 6 Tryz.f6 (OpenSpec.ofChange Rows.jSONParsesSpec).bare Rows.jSONParsesRow = true := by
  unfold joinedFacts
  with_reducible repeat' refine and_mk ?_ ?_
  all_goals as_aux_lemma => kernel_rfl
end Go.Proofs.YtoeejfhdjmkpcaaGreatDoor.jSONParsesLaw
/- The walks of the checks of one row, in the reference. -/
namespace Go.Proofs.YtoeejfhdjmkpcaaGreatDoor
open Go.RowKit
open Go.Lib (validD)
set_option maxRecDepth 100000 in
theorem isNote_any (s : ByteArray) (w : World) (hs : s.size ≤ 9223372036854775807) : Calls Tryz.prog 285 #[.string s] w fun e w' => e = .returned (.bool (txtOk s)) ∧ w = w' := by
  by_cases h : s.size ≤ 16
  · rw [txtOk_short h]
    have hV := Lib.hid (rutf_any s w (by omega))
    generalize validD s.data.toList = b at hV ⊢
    go_enter Tryz.func285, Tryz.ntmps285
    go_wp2_with fail
    refine Calls.mono hV.out ?_
    rintro e w1 ⟨rfl, rfl⟩
    go_wp2
    go_ret
    exact ⟨rfl, rfl⟩
  · rw [txtOk_long h]
    go_enter Tryz.func285, Tryz.ntmps285
    go_wp2
    go_ret
    exact ⟨rfl, rfl⟩
set_option maxRecDepth 100000 in
theorem rIsName_any (s : ByteArray) (w : World) (hs : s.size ≤ 9223372036854775807) : Calls Tryz.prog 284 #[.string s] w fun e w' => e = .returned (.bool (nameOk s)) ∧ w = w' := by
  by_cases h : s.size = 0
  · rw [nameOk_empty h]
    obtain rfl := empty_of h
    go_enter Tryz.func284, Tryz.ntmps284
    go_wp2
    go_ret
    exact ⟨rfl, rfl⟩
  · rw [nameOk_more h]
    have hV := Lib.hid (isNote_any s w hs)
    have e1 := beq_nil h
    have e2 := beq_empty h
    generalize txtOk s = b at hV ⊢
    go_enter Tryz.func284, Tryz.ntmps284
    go_wp2_with fail
    refine Calls.mono hV.out ?_
    rintro e w1 ⟨rfl, rfl⟩
    go_wp2
    go_ret
    exact ⟨rfl, rfl⟩
theorem outside_any (n lo hi : Int) (w : World) : Calls Tryz.prog 105 #[.int .i64 n, .int .i64 lo, .int .i64 hi] w fun e w' => e = .returned (.bool (!ranged n lo hi)) ∧ w = w' := by
  cases h : ranged n lo hi
  · exact outside_yes n lo hi (ranged_not.1 h) w
  · exact outside_no n lo hi (ranged_iff.1 h).1 (ranged_iff.1 h).2 w
set_option maxRecDepth 100000 in
set_option maxHeartbeats 2000000 in
theorem jobCheck_any (j : JobD) (w : World) (h1 : j.name.size ≤ 9223372036854775807) (h2 : j.tag.size ≤ 9223372036854775807) :
    Calls Tryz.prog 194 #[.agg (jobV j).toArray] w fun e w' => e = .returned (.int .i64 (jobE j)) ∧ Below w.heap.size w w' := by
  obtain ⟨E, hE⟩ : ∃ E, jobE j = E := ⟨_, rfl⟩
  rw [hE]
  have HE := Lib.hid hE
  clear hE
  obtain ⟨name, prio, need, tries, tag⟩ := j
  unfold jobV
  simp only at h1 h2 ⊢
  have HB := Lib.hid ((Below.refl w.heap.size w).alloc (Nat.le_refl _) (.cells #[.string name, .int .i64 prio, .int .i64 need, .int .i64 tries, .string tag] 34))
  go_enter Tryz.func194, Tryz.ntmps194
  go_wp2_with fail
  refine Calls.mono (rIsName_any _ _ h1) ?_
  rintro e w1 ⟨rfl, rfl⟩
  cases hn : nameOk name
  · go_wp2
    go_ret
    exact ⟨ret_int (by rw [← HE.out]; simp [jobE, hn]), HB.out⟩
  go_wp2_with fail
  refine Calls.mono (isNote_any _ _ h2) ?_
  rintro e w1 ⟨rfl, rfl⟩
  cases ht : txtOk tag
  · go_wp2
    go_ret
    exact ⟨ret_int (by rw [← HE.out]; simp [jobE, hn, ht]), HB.out⟩
  go_wp2_with fail
  refine Calls.mono (outside_any _ _ _ _) ?_
  rintro e w1 ⟨rfl, rfl⟩
  cases hr0 : ranged prio (-1000) 1000
  · go_wp2
    go_ret
    exact ⟨ret_int (by rw [← HE.out]; simp [jobE, hn, ht, hr0]), HB.out⟩
  go_wp2_with fail
  refine Calls.mono (outside_any _ _ _ _) ?_
  rintro e w1 ⟨rfl, rfl⟩
  cases hr1 : ranged need 0 1000000
  · go_wp2
    go_ret
    exact ⟨ret_int (by rw [← HE.out]; simp [jobE, hn, ht, hr0, hr1]), HB.out⟩
  go_wp2_with fail
  refine Calls.mono (outside_any _ _ _ _) ?_
  rintro e w1 ⟨rfl, rfl⟩
  cases hr2 : ranged tries 0 100
  · go_wp2
    go_ret
    exact ⟨ret_int (by rw [← HE.out]; simp [jobE, hn, ht, hr0, hr1, hr2]), HB.out⟩
  go_wp2
  go_ret
  exact ⟨ret_int (by rw [← HE.out]; simp [jobE, hn, ht, hr0, hr1, hr2]), HB.out⟩
set_option maxRecDepth 100000 in
set_option maxHeartbeats 2000000 in
theorem nodeCheck_any (n : NodeD) (w : World) (h1 : n.name.size ≤ 9223372036854775807) (h2 : n.zone.size ≤ 9223372036854775807) :
    Calls Tryz.prog 195 #[.agg (nodeV n).toArray] w fun e w' => e = .returned (.int .i64 (nodeE n)) ∧ Below w.heap.size w w' := by
  obtain ⟨E, hE⟩ : ∃ E, nodeE n = E := ⟨_, rfl⟩
  rw [hE]
  have HE := Lib.hid hE
  clear hE
  obtain ⟨name, room, zone⟩ := n
  unfold nodeV
  simp only at h1 h2 ⊢
  have HB := Lib.hid ((Below.refl w.heap.size w).alloc (Nat.le_refl _) (.cells #[.string name, .int .i64 room, .string zone] 36))
  go_enter Tryz.func195, Tryz.ntmps195
  go_wp2_with fail
  refine Calls.mono (rIsName_any _ _ h1) ?_
  rintro e w1 ⟨rfl, rfl⟩
  cases hn : nameOk name
  · go_wp2
    go_ret
    exact ⟨ret_int (by rw [← HE.out]; simp [nodeE, hn]), HB.out⟩
  go_wp2_with fail
  refine Calls.mono (isNote_any _ _ h2) ?_
  rintro e w1 ⟨rfl, rfl⟩
  cases ht : txtOk zone
  · go_wp2
    go_ret
    exact ⟨ret_int (by rw [← HE.out]; simp [nodeE, hn, ht]), HB.out⟩
  go_wp2_with fail
  refine Calls.mono (outside_any _ _ _ _) ?_
  rintro e w1 ⟨rfl, rfl⟩
  cases hr0 : ranged room 0 1000000
  · go_wp2
    go_ret
    exact ⟨ret_int (by rw [← HE.out]; simp [nodeE, hn, ht, hr0]), HB.out⟩
  go_wp2
  go_ret
  exact ⟨ret_int (by rw [← HE.out]; simp [nodeE, hn, ht, hr0]), HB.out⟩
end Go.Proofs.YtoeejfhdjmkpcaaGreatDoor
