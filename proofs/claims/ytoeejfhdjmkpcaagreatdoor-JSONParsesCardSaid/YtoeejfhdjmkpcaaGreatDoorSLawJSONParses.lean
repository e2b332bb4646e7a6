/- The statement JSONParses: the law returns true for every input, and each argument reads afterwards as it read before; no other goroutine is left. What the listed variables hold is tied to the program's own text by the given tie. -/
import Derived.Test.YtoeejfhdjmkpcaaGreatDoorSLawC
import Derived.Conc.Holds
import Derived.Leaving
import Derived.Test.YtoeejfhdjmkpcaaGreatDoorSRJ
set_option linter.unusedVariables false
set_option linter.unusedSimpArgs false
/- The statement JSONParses: the law returns true for every input, and each argument reads afterwards as it read before; no other goroutine is left. What the listed variables hold is tied to the program's own text by the given tie. -/
namespace Go.Proofs.YtoeejfhdjmkpcaaGreatDoor.jSONParsesLaw
open Go.ChangeShapes Go.WideShapes Go.ChangeAt Go.RowKit Go.Lib
open Go.ChangeMaps (open_string shut_string)
set_option linter.unusedVariables false
set_option maxRecDepth 100000 in
theorem contract (H : Type) (enc : TypeId × Value → H) (W : World) (base : Nat) (args : Array Value) (ds gs : List (DataW H)) (before : List MemPlace)
    (hval : ∀ (j : Nat) t v, Tryz.f6.params[j]? = some t → args[j]? = some v → Value.okWide Tryz.prog W .any base t v)
    (hW : DataW.Whole enc Tryz.prog Tryz.f6.params.toList Rows.jSONParsesSpec.vars false W args.toList ds gs before) (hL : laidMet Tryz.prog Rows.jSONParsesRow.laid W) :
    Calls Tryz.prog 6 args W fun e W' => ∃ v, e = .returned v ∧ Rows.jSONParsesSpec.post enc Tryz.prog Tryz.f6 false true false false W args v W' := by
  have hW' := hW
  obtain ⟨p, q, hA0, hV, rfl, hfz, hnd⟩ := hW
  have hA : DataW.TrodAll enc Tryz.prog W 0 (fun _ => true) true Tryz.f6.params.toList args.toList ds p := hA0
  rw [Tryz.params6] at hA hval
  obtain ⟨v0, vs0, d0, ds0, p0, q0, hargs, rfl, rfl, h0, r0⟩ := trodAll_cons hA
  obtain ⟨rfl, rfl, rfl⟩ := trodAll_nil r0
  obtain rfl : args = #[v0] := by cases args; simp_all
  obtain ⟨rfl, rfl⟩ := trodVars_none hV
  have k0 := h0
  have lt0 : ∀ x ∈ p0, x.block < W.heap.size := by obtain ⟨m, hm⟩ := k0; exact DataW.trod_lt m _ _ _ hm
  obtain ⟨a0, rfl, rfl, rfl, w0⟩ := open_string Tryz.underlying9 (hval 0 9 v0 rfl rfl) h0
  rw [laid_eq] at hL
  have htab : Tabs W := tabs_of hL (by simp) (by simp)
  have hpw : Lib.TabIs Tryz.prog W "internal/strconv.uint64pow10" .u64 Lib.pow10Tab := by
    have hf := hL.filter (fun x => x.1 == "internal/strconv.uint64pow10")
    exact Lib.tabIs_of_head (g := 4) (by kernel_rfl) (by kernel_rfl) Tryz.underlying483 Tryz.underlying121 (by kernel_rfl) (by kernel_rfl) hf
  have hE4 := hL.tail.tail.tail.tail
  obtain ⟨aR, sR, hvR, -, -, -⟩ := laid_sentinel hE4 gER gERt Tryz.underlying282 rowE Tryz.underlying478 Tryz.underlying480 rfl rfl Tryz.underlying9 cE cS
  obtain ⟨aS, sS, hvS, -, -, -⟩ := laid_sentinel hE4.tail gES gESt Tryz.underlying282 rowE Tryz.underlying478 Tryz.underlying480 rfl rfl Tryz.underlying9 cE cS
  have hER : ∃ t p, W.cell? ⟨3, 0, none⟩ = some (.iface t p) := ⟨_, _, by have h0 := World.var?_cell gER hvR 0; simpa using h0⟩
  have hES : ∃ t p, W.cell? ⟨2, 0, none⟩ = some (.iface t p) := ⟨_, _, by have h0 := World.var?_cell gES hvS 0; simpa using h0⟩
  clear hA0 hE4 hvR hvS
  refine (walkJSONParses a0 w0 W htab hpw hES hER).mono fun e W' ⟨he, bel⟩ => ?_
  subst he
  exact ⟨_, rfl, _, _, _, [], _, [], hW', trodAll_mk1 (shut_bool Tryz.underlying4 _), (trodAll_cons_mk (Below.trod laidOut (by kernel_rfl) (of_decide_eq_true (by kernel_rfl)) k0 bel lt0) trodAll_mk0), rfl, bel.frame _, fun h => by cases h⟩
set_option maxRecDepth 100000 in
theorem lifted (os : Os) (started : os.Started) (H : Type) (enc : TypeId × Value → H) (F : Stop.Interp) :
    ReturnsInHanded {} Tryz.checked os 6 .any ((OpenSpec.ofChange Rows.jSONParsesSpec).preRow enc Tryz.prog Tryz.f6 Rows.jSONParsesRow.domain false Rows.jSONParsesRow.laid) (((OpenSpec.ofChange Rows.jSONParsesSpec).at F).post enc Tryz.prog Tryz.f6 false true false false) := by
  obtain ⟨places, hx⟩ := reads os enc
  refine returnsInHanded_of_row (C := Tryz.checked) (s := OpenSpec.ofChange Rows.jSONParsesSpec) own started (by kernel_rfl) Tryz.func6
    (witness_row_at (enc := enc) (C := Tryz.checked) false (laidWorld os) #[.string ⟨#[]⟩] rfl (by kernel_rfl) (by kernel_rfl) (by kernel_rfl)
      (OpenSpec.preRow_of_cond 8 hx (by kernel_rfl) (fun k hk => by cases hk) (by kernel_rfl) (laid_met os))) ?_
  intro W base args ds gs before hval hW _ _ _ hL _ _
  exact contract H enc W base args ds gs before hval hW hL
set_option maxRecDepth 1000000 in
theorem said : Rows.JSONParsesSaid :=
  OpenClaim.holds_of_wide_leaving 6 Tryz.f6 rfl rfl rfl rfl rfl rfl rfl ⟨rfl, rfl, rfl, rfl, rfl⟩ rfl rfl rfl rfl rfl hName Tryz.func6 closed
    hInst hWrap
    (fun os started H enc _ => by rw [OpenClaim.pre_eq_preRow]; exact leaving_of_handed (lifted os started H enc fun _ _ _ => 0))
set_option maxRecDepth 1000000 in
theorem proved : Rows.JSONParsesCardSaid :=
  tied_goes .later _ _ (true, "559b06e263d15863621590265984a57e0c515cb79d047c62b706781e1f0bc726") _ said hWf jSONParses_row_tie rfl ⟨rfl, rfl⟩ hMain rfl plain hGoes
end Go.Proofs.YtoeejfhdjmkpcaaGreatDoor.jSONParsesLaw
