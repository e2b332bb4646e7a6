/- Of the proof of a statement: SrcJ. -/
import Derived.Test.YtcodhhabfacnjaaGreatDoorSPlJr
import Derived.Test.YtcodhhabfacnjaaGreatDoorSRdAll
set_option linter.unusedVariables false
set_option linter.unusedSimpArgs false
/- The walks of the reference's source, as JSON is read of it: skip, must, comma, digits. -/
namespace Go.Proofs.YtcodhhabfacnjaaGreatDoor
open Go.RowKit
open Go.Lib (hasPrefix)
set_option maxRecDepth 100000 in
set_option maxHeartbeats 2000000 in
theorem sskip (g : Nat) (s p : ByteArray) (w : World) (h : SxAt w g s) :
    Calls Tryz.prog 21 #[.pointer (some ⟨g, 0, none⟩), .string p] w fun e w' => e = .returned (.bool (hasR p s)) ∧ SxAt w' g (skipS p s) ∧ w.grownBy w' (some g) := by
  have y0 : w.cell? ⟨g, 0, none⟩ = some (.string s) := h.1.cell 0
  have z0 : w.frozen? ⟨g, 0, none⟩ = false := h.1.thaw 0
  have hgl := h.1.lt
  have hs := h.2
  have HA := Lib.hid h
  by_cases h1 : p.size ≤ s.size
  · cases h2 : ((s.extract 0 p.size).toList == p.toList) with
    | false =>
      have hh : hasR p s = false := by unfold hasR; rw [← Lib.hasPrefix_raw, h2]; simp
      have hk : skipS p s = s := by unfold skipS; rw [if_neg (by rw [hh]; simp)]
      rw [hh, hk]
      clear h hh hk
      go_enter Tryz.func21, Tryz.ntmps21
      go_wp2
      go_ret
      exact ⟨rfl, HA.out, grow_refl _ _⟩
    | true =>
      have hh : hasR p s = true := by unfold hasR; rw [← Lib.hasPrefix_raw, h2]; simp [h1]
      have hk : skipS p s = s.extract p.size s.size := by unfold skipS; rw [if_pos hh]
      have hz := Lib.hid (extract_small (k := p.size) hs)
      rw [hh, hk]
      clear h hh hk
      go_enter Tryz.func21, Tryz.ntmps21
      go_wp2
      go_ret
      exact ⟨rfl, HA.out.set _ hz.out, grow_set _ _ _ _⟩
  · have hh : hasR p s = false := by unfold hasR; rw [← Lib.hasPrefix_raw]; simp [h1]
    have hk : skipS p s = s := by unfold skipS; rw [if_neg (by rw [hh]; simp)]
    rw [hh, hk]
    clear h hh hk
    go_enter Tryz.func21, Tryz.ntmps21
    go_wp2
    go_ret
    exact ⟨rfl, HA.out, grow_refl _ _⟩
theorem skipS_yes {p s : ByteArray} (h : hasR p s = true) : skipS p s = s.extract p.size s.size := by unfold skipS; rw [if_pos h]
theorem skipS_no {p s : ByteArray} (h : hasR p s = false) : skipS p s = s := by unfold skipS; rw [if_neg (by rw [h]; simp)]
set_option maxRecDepth 100000 in
set_option maxHeartbeats 2000000 in
theorem smust (g : Nat) (s p : ByteArray) (w : World) (h : SxAt w g s) :
    Calls Tryz.prog 19 #[.pointer (some ⟨g, 0, none⟩), .string p] w (SxPost g (mustR p s) (fun _ => .tuple #[]) w) := by
  have HS := Lib.hid (sskip g s p w h)
  cases hh : hasR p s with
  | true =>
    have hm := Lib.hid (show mustR p s = .ok () (s.extract p.size s.size) by unfold mustR; rw [if_pos hh])
    rw [hh, skipS_yes hh] at HS
    clear h hh
    go_enter Tryz.func19, Tryz.ntmps19
    go_wp2_with fail
    refine Calls.mono HS.out ?_
    rintro e w1 ⟨rfl, h1, h2⟩
    have H1 := Lib.hid h1
    have H2 := Lib.hid h2
    clear h1 h2
    go_wp2
    go_end0
    exact SxPost.mkOk hm.out H1.out H2.out
  | false =>
    have hm := Lib.hid (show mustR p s = .bad 4 by unfold mustR; rw [if_neg (by rw [hh]; simp)])
    rw [hh, skipS_no hh] at HS
    clear h hh
    go_enter Tryz.func19, Tryz.ntmps19
    go_wp2_with fail
    refine Calls.mono HS.out ?_
    rintro e w1 ⟨rfl, h1, h2⟩
    have H2 := Lib.hid h2
    clear h1 h2
    go_wp2
    exact ⟨rfl, SxPost.mkBad hm.out H2.out⟩
set_option maxRecDepth 100000 in
theorem scomma (g : Nat) (s : ByteArray) (i : Nat) (w : World) (h : SxAt w g s) :
    Calls Tryz.prog 22 #[.pointer (some ⟨g, 0, none⟩), .int .i64 (i : Int)] w (SxPost g (commaR i s) (fun _ => .tuple #[]) w) := by
  by_cases hi : 0 < i
  · have hd : decide ((0 : Int) < (i : Int)) = true := decide_eq_true (by omega)
    have HM := Lib.hid (smust g s ⟨#[44]⟩ w h)
    have hc := Lib.hid (show commaR i s = mustR ⟨#[44]⟩ s by unfold commaR; rw [if_pos hi])
    clear h
    cases hm : mustR ⟨#[44]⟩ s with
    | ok a r =>
      have Hm := Lib.hid hm
      clear hm
      go_enter Tryz.func22, Tryz.ntmps22
      go_wp2_with fail
      refine Calls.mono HM.out ?_
      intro e w1 hp
      obtain ⟨rfl, h1, h2⟩ := hp.ok Hm.out
      have H1 := Lib.hid h1
      have H2 := Lib.hid h2
      clear h1 h2 hp
      go_wp2
      go_end0
      exact SxPost.mkOk (hc.out.trans Hm.out) H1.out H2.out
    | bad x =>
      have Hm := Lib.hid hm
      clear hm
      go_enter Tryz.func22, Tryz.ntmps22
      go_wp2_with fail
      refine Calls.mono HM.out ?_
      intro e w1 hp
      obtain ⟨rfl, h2⟩ := hp.bad Hm.out
      have H2 := Lib.hid h2
      clear h2 hp
      unfold thrown
      go_wp2
      exact ⟨rfl, SxPost.mkBad (hc.out.trans Hm.out) H2.out⟩
  · have hd : decide ((0 : Int) < (i : Int)) = false := decide_eq_false (by omega)
    have hc := Lib.hid (show commaR i s = .ok () s by unfold commaR; rw [if_neg hi])
    have HA := Lib.hid h
    clear h
    go_enter Tryz.func22, Tryz.ntmps22
    go_wp2
    go_end0
    exact SxPost.mkOk hc.out HA.out (grow_refl _ _)
/-! digits. -/
theorem digC_iff (c : UInt8) : digC? c = true ↔ 48 ≤ c.toNat ∧ c.toNat ≤ 57 := by
  unfold digC?
  simp only [Bool.and_eq_true, decide_eq_true_eq]
  rw [UInt8.le_iff_toNat_le, UInt8.le_iff_toNat_le]
  exact Iff.rfl
theorem at_data {s : ByteArray} {k : Nat} (h : k < s.size) : s.data.toList[k]? = some s[k] := by
  rw [List.getElem?_eq_getElem (by rw [data_len]; exact h)]
  simp [ByteArray.getElem_eq_getElem_data]
/-- The loop: k digits so far, their value. -/
def DgInv (s : ByteArray) (n i : Value) : Prop := ∃ (k v : Nat), k ≤ s.size ∧ k ≤ 18 ∧ i = .int .i64 k ∧ n = .int .i64 v ∧ v = valD (s.data.toList.take k) ∧ ∀ c ∈ s.data.toList.take k, digC? c = true
theorem take_snocJ {l : List UInt8} {k : Nat} {c : UInt8} (h : l[k]? = some c) : l.take (k + 1) = l.take k ++ [c] := by
  obtain ⟨hlt, rfl⟩ := List.getElem?_eq_some_iff.1 h
  exact (List.take_append_getElem hlt).symm
theorem digL_at {s : ByteArray} {k : Nat} (h18 : k ≤ 18) (hk : k ≤ s.size) (hd : ∀ c ∈ s.data.toList.take k, digC? c = true) (he : k = 18 ∨ ∀ c, s.data.toList[k]? = some c → digC? c = false) : digL s = s.data.toList.take k := by
  unfold digL
  have hl : k ≤ s.data.toList.length := by rw [data_len]; exact hk
  rcases he with rfl | he
  · have hp : s.data.toList.take 18 ++ (s.data.toList.drop 18).takeWhile digC? = s.data.toList.takeWhile digC? := by
      conv => rhs; rw [← List.take_append_drop 18 s.data.toList]
      rw [List.takeWhile_append_of_pos hd]
    rw [← hp, List.take_append_of_le_length (by rw [List.length_take]; omega), List.take_of_length_le (by rw [List.length_take]; omega)]
  · have := (takeWhile_at (p := digC?) s.data.toList k hl (fun i hi c hc => hd c (by
      refine List.mem_iff_getElem?.2 ⟨i, ?_⟩
      rw [List.getElem?_take, if_pos hi]; exact hc)) he).1
    rw [this, List.take_of_length_le (by rw [List.length_take]; omega)]
end Go.Proofs.YtcodhhabfacnjaaGreatDoor
