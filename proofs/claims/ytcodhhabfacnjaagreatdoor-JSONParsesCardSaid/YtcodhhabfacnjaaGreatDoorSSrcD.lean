/- Of the proof of a statement: SrcD. -/
import Derived.Test.YtcodhhabfacnjaaGreatDoorSJnum
import Derived.Test.YtcodhhabfacnjaaGreatDoorSSrcJ
set_option linter.unusedVariables false
set_option linter.unusedSimpArgs false
/- The walk of the reference's source, as JSON is read of it: digits. -/
namespace Go.Proofs.YtcodhhabfacnjaaGreatDoor
open Go.RowKit
theorem valD_bound {s : ByteArray} {k v : Nat} (hv : v = valD (s.data.toList.take k)) (hk : k ≤ s.size) (h18 : k ≤ 18) (hd : ∀ c ∈ s.data.toList.take k, digC? c = true) : v < 10 ^ k := by
  rw [hv]; exact valD_take _ k (by rw [data_len]; exact hk) h18 hd
theorem digR1_bad {sg : Int} {s : ByteArray} (h : digL s = []) : digR1 sg s = .bad 4 := by unfold digR1; rw [if_pos h]
theorem digR1_ok {sg : Int} {s : ByteArray} {k : Nat} (h : digL s = s.data.toList.take k) (hk : k ≤ s.size) (h0 : k ≠ 0) : digR1 sg s = .ok (sg * (valD (s.data.toList.take k) : Int)) (s.extract k s.size) := by
  have hl : (s.data.toList.take k).length = k := by rw [List.length_take, data_len]; omega
  unfold digR1
  rw [h, if_neg (fun e => by rw [e] at hl; exact h0 hl.symm), hl]
set_option maxRecDepth 100000 in
set_option maxHeartbeats 4000000 in
theorem sdigits (g : Nat) (s : ByteArray) (w : World) (h : SxAt w g s) :
    Calls Tryz.prog 20 #[.pointer (some ⟨g, 0, none⟩)] w (SxPost g (digR s) (fun n => .int .i64 n) w) := by
  have HS := Lib.hid (sskip g s ⟨#[45]⟩ w h)
  obtain ⟨H, s1, sg, hH, hs1, hD, hsg⟩ : ∃ (H : Bool) (s1 : ByteArray) (sg : Int), hasR ⟨#[45]⟩ s = H ∧ skipS ⟨#[45]⟩ s = s1 ∧ digR s = digR1 sg s1 ∧ ((H = true ∧ sg = -1) ∨ (H = false ∧ sg = 1)) := by
    cases hh : hasR ⟨#[45]⟩ s with
    | true => exact ⟨true, _, -1, rfl, rfl, by unfold digR; rw [if_pos hh, skipS_yes hh]; rfl, .inl ⟨rfl, rfl⟩⟩
    | false => exact ⟨false, _, 1, rfl, rfl, by unfold digR; rw [if_neg (by rw [hh]; simp), skipS_no hh], .inr ⟨rfl, rfl⟩⟩
  rw [hH, hs1] at HS
  have HD := Lib.hid hD
  clear hH hs1 hD h
  rcases hsg with ⟨rfl, rfl⟩ | ⟨rfl, rfl⟩
  all_goals
    go_enter Tryz.func20, Tryz.ntmps20
    go_wp2_with fail
    refine Calls.mono HS.out ?_
    rintro e w1 ⟨rfl, h1, h2⟩
    have H1 := Lib.hid h1
    have H2 := Lib.hid h2
    have y0 : w1.cell? ⟨g, 0, none⟩ = some (.string s1) := h1.1.cell 0
    have z0 : w1.frozen? ⟨g, 0, none⟩ = false := h1.1.thaw 0
    have hgl := h1.1.lt
    have hsz : s1.size ≤ 9223372036854775807 := h1.2
    clear h1 h2
    go_wp2_with fail
    go_loop [4, 5] (fun n i => DgInv s1 n i) (fun _ i => 18 - (intOf i).toNat)
    case atStart => exact ⟨0, 0, Nat.zero_le _, by omega, rfl, rfl, by simp [valD], fun c hc => by simp at hc⟩
    case round =>
      obtain ⟨k, v, hk, h18, rfl, rfl, hv, hd⟩ := hrel
      have hvb := valD_bound hv hk h18 hd
      have Hd := Lib.hid hd
      have Hv := Lib.hid hv
      by_cases hkn : k < s1.size ∧ k < 18 ∧ ∀ c, s1.data.toList[k]? = some c → digC? c = true
      · obtain ⟨hkl, hk18, hc⟩ := hkn
        have hdig := hc _ (at_data hkl)
        have hnum := (digC_iff _).1 hdig
        have Hnext := Lib.hid (show 10 * v + (s1[k].toNat - 48) = valD (s1.data.toList.take (k + 1)) ∧ ∀ c ∈ s1.data.toList.take (k + 1), digC? c = true from by
          rw [take_snocJ (at_data hkl)]
          refine ⟨by rw [valD_snoc, ← Hv.out], fun c hc => ?_⟩
          rcases List.mem_append.1 hc with hc | hc
          · exact Hd.out c hc
          · rw [List.mem_singleton] at hc; subst hc; exact hdig)
        have hv17 : v < 100000000000000000 := by
          have : (10 : Nat) ^ k ≤ 10 ^ 17 := Nat.pow_le_pow_right (by omega) (by omega)
          omega
        obtain ⟨c, hcc⟩ : ∃ c : Nat, s1[k].toNat = c := ⟨_, rfl⟩
        have Hi := idx_str hkl hcc
        rw [hcc] at hnum Hnext
        obtain ⟨e2, e3⟩ := hnum
        clear hc hdig hcc hv hd hvb
        go_wp2
        exact ⟨⟨k + 1, 10 * v + (c - 48), by omega, by omega, by go_num, by first | rfl | (congr 1; omega), Hnext.out.1, Hnext.out.2⟩, by simp only [intOf]; omega⟩
      · have hend : k = 18 ∨ ∀ c, s1.data.toList[k]? = some c → digC? c = false := by
          by_cases h18' : k = 18
          · exact .inl h18'
          · refine .inr fun c hc => ?_
            cases hn : digC? c with
            | false => rfl
            | true =>
              exfalso
              apply hkn
              obtain ⟨hkl, _⟩ := List.getElem?_eq_some_iff.1 hc
              rw [data_len] at hkl
              exact ⟨hkl, by omega, fun c' hc' => by rw [hc] at hc'; injection hc' with hc'; rw [← hc']; exact hn⟩
        have hL := Lib.hid (digL_at h18 hk hd hend)
        have hend3 : (s1.size ≤ k) ∨ (k < s1.size ∧ 18 ≤ k) ∨ (∃ c : Nat, k < s1.size ∧ k < 18 ∧ (∀ W, (Instr.index 9 (.string s1) (.int .i64 (k : Int))).run Tryz.prog W = .ok (.int .u8 (c : Int)) W) ∧ c < 48) ∨ (∃ c : Nat, k < s1.size ∧ k < 18 ∧ (∀ W, (Instr.index 9 (.string s1) (.int .i64 (k : Int))).run Tryz.prog W = .ok (.int .u8 (c : Int)) W) ∧ 48 ≤ c ∧ 57 < c) := by
          by_cases hkl : k < s1.size
          · by_cases h18' : k < 18
            · have hno : ¬ (48 ≤ s1[k].toNat ∧ s1[k].toNat ≤ 57) := fun hn => hkn ⟨hkl, h18', fun c hc => by
                rw [at_data hkl] at hc
                injection hc with hc
                rw [← hc]; exact (digC_iff _).2 hn⟩
              by_cases h48 : s1[k].toNat < 48
              · exact .inr (.inr (.inl ⟨_, hkl, h18', idx_str hkl rfl, h48⟩))
              · exact .inr (.inr (.inr ⟨_, hkl, h18', idx_str hkl rfl, by omega, by omega⟩))
            · exact .inr (.inl ⟨hkl, by omega⟩)
          · exact .inl (by omega)
        have hvv : v < 1000000000000000000 := by
          have : (10 : Nat) ^ k ≤ 10 ^ 18 := Nat.pow_le_pow_right (by omega) (by omega)
          omega
        have hz := Lib.hid (extract_small (k := k) hsz)
        have Hk := Lib.hid hk
        clear hkn hend hv hd hvb
        by_cases hk0 : k = 0
        · have hb := Lib.hid (HD.out.trans (digR1_bad (by rw [hL.out, hk0]; rfl)))
          have e0 : ((k : Int) == 0) = true := by simp; omega
          have Hk0 := Lib.hid hk0
          clear hk0
          rcases hend3 with q1 | ⟨q1, q2⟩ | ⟨c, q1, q2, Hi, q3⟩ | ⟨c, q1, q2, Hi, q3, q4⟩
          all_goals
            go_wp2
            first
            | exact ⟨rfl, SxPost.mkBad hb.out H2.out⟩
            | (exfalso; have := Hk0.out; omega)
        · have hb := Lib.hid (HD.out.trans (digR1_ok hL.out Hk.out hk0))
          have e0 : ((k : Int) == 0) = false := by simp; omega
          rw [← Hv.out] at hb
          clear hk0
          rcases hend3 with q1 | ⟨q1, q2⟩ | ⟨c, q1, q2, Hi, q3⟩ | ⟨c, q1, q2, Hi, q3, q4⟩
          all_goals
            go_wp2
            go_ret
            refine SxPost.mkOk (hb.out.trans ?_) (H1.out.set _ hz.out) (bes_set H2.out _ _)
            first | rfl | (congr 1; omega)
end Go.Proofs.YtcodhhabfacnjaaGreatDoor
