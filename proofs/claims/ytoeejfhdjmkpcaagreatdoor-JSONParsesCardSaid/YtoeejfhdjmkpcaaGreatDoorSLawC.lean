/- Of the proof of the statement JSONParses: the closed facts of its card. -/
import Derived.Test.YtoeejfhdjmkpcaaGreatDoorSLawBJSONParses
import Derived.Conc.Holds
import Derived.Leaving
set_option linter.unusedVariables false
set_option linter.unusedSimpArgs false
namespace Go.Proofs.YtoeejfhdjmkpcaaGreatDoor.jSONParsesLaw
open Go.ChangeShapes Go.WideShapes Go.ChangeAt Go.RowKit Go.Lib
open Go.ChangeMaps (open_string shut_string)
set_option linter.unusedVariables false
theorem leaving_of_handed {a : Assume} {C : Checked} {os : Os} {f : FuncId} {r : Reach} {Pre : World → Array Value → Prop} {Post : World → Array Value → Value → World → Prop} (h : ReturnsInHanded a C os f r Pre Post) : ReturnsInLeavingWide a C os f r Pre Post :=
  fun e => ReturnsInOpen.mono (fun _ _ _ x => ⟨x.2.1, onlyLeaving_of_quiet x.1, x.2.2⟩) (fun _ x => x) (h e)
/-- A tied card of a row whose call can start goroutines. -/
theorem tied_goes (Lk : Looks) {p : Pinned} {s : OpenSpec} {c : OpenClaim} (kinds : List LaidKind) (tests : Bool) (har : Bool × String) (lk : Bool)
    (hc : c.holds p s) (hw : c.wfByText s = true) (htie : c.laidByTextAt Lk p kinds tests)
    (hst : c.start = .entering) (hnb : c.noBlocks = false ∧ c.again = false) (hm : p.checked.prog.mainIs = some (har.1, har.2.toList)) (hn : (!har.1 && har.2.isEmpty && !lk) = false)
    (hl : ∀ f fn, p.checked.prog.funcNamed c.func = some f → p.checked.prog.funcs[f]? = some fn → lk = p.checked.prog.looks [] ∧ ∀ (j : Nat) t, fn.params[j]? = some t → p.checked.prog.wantsStandIn t = false)
    (hg : true = c.goesBy p.checked.prog) :
    Claim7.holds p (.plain s) { stood := { row := c, standIns := [], harness := har, looks := lk }, kinds := [], alts := [], goes := true, laidByText := true, laidKinds := kinds, laidTests := tests, laidLooks := Lk } := by
  have h6 : Claim7.isSixth { stood := { row := c, standIns := [], harness := har, looks := lk }, kinds := [] } = false := by simpa [Claim7.isSixth] using hn
  refine ⟨Claim7.tied_new_at Lk kinds tests (Claim7.new_of_sixth hc har lk hst hnb hm h6 hl) hw, fun D hD => ?_, htie, (fun h => by cases h), hg⟩
  have hD' : D ∈ ([] : List (List PathCond)) := hD
  cases hD'
set_option maxRecDepth 1000000 in
theorem hName : Tryz.pinned.checked.prog.funcNamed Rows.jSONParsesRow.func = some 6 := by kernel_rfl
set_option maxRecDepth 1000000 in
theorem hInst : Tryz.f6.isInstance Tryz.pinned.checked.prog Rows.jSONParsesRow.origin Rows.jSONParsesRow.targs := of_decide_eq_true (by kernel_rfl)
set_option maxRecDepth 1000000 in
theorem hWrap : Tryz.f6.isWrapper Tryz.pinned.checked.prog Rows.jSONParsesRow.wrapper Rows.jSONParsesRow.mainSum := by unfold Func.isWrapper; first | (rw [if_pos (by decide +kernel)]; kernel_rfl) | (rw [if_neg (by decide +kernel)]; exact ⟨rfl, rfl⟩)
theorem plain (f : FuncId) (fn : Func) (hf : Tryz.pinned.checked.prog.funcNamed "bracken/brackenlaw.JSONParses" = some f) (hfn : Tryz.pinned.checked.prog.funcs[f]? = some fn) :
    true = Tryz.pinned.checked.prog.looks [] ∧ ∀ (j : Nat) t, fn.params[j]? = some t → Tryz.pinned.checked.prog.wantsStandIn t = false := by
  obtain rfl : f = 6 := Option.some.inj ((show Tryz.prog.funcNamed "bracken/brackenlaw.JSONParses" = some 6 by kernel_rfl).symm.trans hf) |>.symm
  obtain rfl : fn = Tryz.f6 := (Option.some.inj (Tryz.func6.symm.trans hfn)).symm
  refine ⟨by kernel_rfl, fun j t ht => ?_⟩
  rw [Tryz.params6] at ht
  obtain rfl : t = 9 := by simpa using Array.mem_of_getElem? ht
  exact (show Tryz.prog.wantsStandIn 9 = false by kernel_rfl)
set_option maxRecDepth 1000000 in
theorem hWf : Rows.jSONParsesRow.wfByText (OpenSpec.ofChange Rows.jSONParsesSpec) = true := by kernel_rfl
set_option maxRecDepth 1000000 in
theorem hMain : Tryz.pinned.checked.prog.mainIs = some (true, "559b06e263d15863621590265984a57e0c515cb79d047c62b706781e1f0bc726".toList) := by kernel_rfl
set_option maxRecDepth 1000000 in
theorem hGoes : true = Rows.jSONParsesRow.goesBy Tryz.pinned.checked.prog := by kernel_rfl
end Go.Proofs.YtoeejfhdjmkpcaaGreatDoor.jSONParsesLaw
