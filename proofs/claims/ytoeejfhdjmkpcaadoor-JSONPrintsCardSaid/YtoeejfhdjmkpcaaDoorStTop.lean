/- The walks of state.Check and of the law's bad state. -/
import Derived.Test.YtoeejfhdjmkpcaaDoorStChk
import Derived.Test.YtoeejfhdjmkpcaaDoorStChkS
set_option linter.unusedVariables false
set_option linter.unusedSimpArgs false
namespace Go.Proofs.YtoeejfhdjmkpcaaDoor
open Go.RowKit
set_option maxRecDepth 100000 in
set_option maxHeartbeats 1000000 in
theorem scheck_any (st : StateD) (x : StA) (w : World) (hS : StAt w w.heap.size st x) (hT : Tabs w) :
    Calls Tryd.prog 7 #[.agg (stC st x)] w fun e w' => e = .returned (.int .i64 (checkE st)) ∧ Below w.heap.size w w' := by
  have hb1 : Below w.heap.size w (w.alloc (.cells (stC st x) 26)) := (Below.refl _ _).alloc (Nat.le_refl _) _
  have hC := Lib.hid (check_any st x _ ((hS.below hb1).more hb1.size) (hT.below hb1))
  have Hb1 := Lib.hid hb1
  clear hb1 hS hT
  obtain ⟨E, hE⟩ : ∃ E, checkE st = E := ⟨_, rfl⟩
  rw [hE]
  have HE := Lib.hid hE
  clear hE
  obtain ⟨rev, jobs, nodes, leases⟩ := st
  obtain ⟨aj, nj, cj, an, nn, cn, al, nl, cl⟩ := x
  simp only [stC] at *
  go_enter Tryd.func7, Tryd.ntmps7
  go_wp2_with fail
  refine Calls.mono hC.out ?_
  rintro e w1 ⟨hb, hcase⟩
  have Hb := Lib.hid (Hb1.out.trans (hb.mono Hb1.out.size))
  clear hb hC
  rw [HE.out] at hcase
  clear HE
  rcases hcase with ⟨hE, rfl⟩ | ⟨rfl, T, b1, b2, b3, n1, n2, n3, g3, rfl, -, -⟩
  · go_wp2
    refine bodyPost_ret (v := .int .i64 E) (by simp [results, Tryd.results7, go_sem]) rfl ⟨rfl, Hb.out⟩
  · go_wp2
    refine bodyPost_ret (v := .int .i64 0) (by simp [results, Tryd.results7, go_sem]) rfl ⟨rfl, Hb.out⟩
def badC : Array Value := #[.int .i64 (-1), .slice none 0 0, .slice none 0 0, .slice none 0 0]
set_option maxRecDepth 100000 in
theorem bad_any (w : World) : Calls Tryd.prog 6 #[] w fun e w' => e = .returned (.agg #[.int .i64 (-1), .slice none 0 0, .slice none 0 0, .slice none 0 0]) ∧ Below w.heap.size w w' := by
  go_enter Tryd.func6, Tryd.ntmps6
  go_wp2
  refine bodyPost_ret (v := .agg #[.int .i64 (-1), .slice none 0 0, .slice none 0 0, .slice none 0 0]) (by simp [results, Tryd.results6, go_sem]) rfl ⟨rfl, ?_⟩
  exact (Below.refl _ _).alloc (Nat.le_refl _) _
def badSt : StateD := ⟨-1, [], [], []⟩
def badA : StA := ⟨none, 0, 0, none, 0, 0, none, 0, 0⟩
theorem badAt (w : World) (B : Nat) : StAt w B badSt badA :=
  ⟨SlAt.nil, SlAt.nil, SlAt.nil, rfl, rfl, rfl, by decide, by decide, by decide, (fun _ h => by cases h), (fun _ h => by cases h), (fun _ h => by cases h)⟩
theorem bad_check : checkE badSt = 1 := ck_rev rfl
theorem scheck_bad (w : World) (hT : Tabs w) : Calls Tryd.prog 7 #[.agg #[.int .i64 (-1), .slice none 0 0, .slice none 0 0, .slice none 0 0]] w fun e w' => e = .returned (.int .i64 1) ∧ Below w.heap.size w w' := by
  have := scheck_any badSt badA w (badAt w _) hT
  rw [bad_check] at this
  exact this
end Go.Proofs.YtoeejfhdjmkpcaaDoor
