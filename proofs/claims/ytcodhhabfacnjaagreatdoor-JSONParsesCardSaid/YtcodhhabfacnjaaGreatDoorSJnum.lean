/- Of the proof of a statement: Jnum. -/
import Derived.BigRegion
import Derived.Test.YtcodhhabfacnjaaGreatDoorSJrd
import Derived.Test.YtcodhhabfacnjaaGreatDoorSPlJr
set_option linter.unusedVariables false
set_option linter.unusedSimpArgs false
/- The walk of the program's reader of JSON: number. -/
namespace Go.Proofs.YtcodhhabfacnjaaGreatDoor
open Go.RowKit
open Go.Lib (hasPrefix trimPrefix atoiAll atoiSat)
section
variable {l : List UInt8} {b : Bool} {k : Nat} {v : Int}
theorem numEnd_ok (h : l.takeWhile numC = l.take k ∧ l.dropWhile numC = l.drop k) (ha : atoiAll (l.take k) = .ok v) : numEnd (l, b) = (v, l.drop k, b) := by unfold numEnd; simp only [h.1, h.2, ha]
theorem numEnd_syntax (h : l.takeWhile numC = l.take k ∧ l.dropWhile numC = l.drop k) (ha : atoiAll (l.take k) = atoiAll []) : numEnd (l, b) = (0, l.drop k, true) := by unfold numEnd; simp only [h.1, h.2]; rw [ha]; rfl
theorem numEnd_range (h : l.takeWhile numC = l.take k ∧ l.dropWhile numC = l.drop k) (ha : atoiAll (l.take k) = .range) : numEnd (l, b) = (atoiSat (l.take k), l.drop k, true) := by unfold numEnd; simp only [h.1, h.2, ha]
end
theorem numC_iff (c : UInt8) : numC c = true ↔ c.toNat = 45 ∨ (48 ≤ c.toNat ∧ c.toNat ≤ 57) := by
  unfold numC
  simp only [Bool.or_eq_true, beq_iff_eq, Bool.and_eq_true, decide_eq_true_eq]
  rw [UInt8.le_iff_toNat_le, UInt8.le_iff_toNat_le, ← UInt8.toNat_inj]
  exact Iff.rfl
theorem ba_at {l : List UInt8} {k : Nat} (h : k < l.length) : ∃ (h' : k < (BA l).size), ((BA l)[k]'h').toNat = (l[k]'h).toNat := ⟨by rw [BA_size]; exact h, rfl⟩
def NumInv (l : List UInt8) (n : Value) : Prop := ∃ k : Nat, k ≤ l.length ∧ n = .int .i64 k ∧ ∀ i, i < k → ∀ c, l[i]? = some c → numC c = true
set_option maxRecDepth 100000 in
set_option maxHeartbeats 2000000 in
theorem jnumber_any (g : Nat) (σ : JS) (w : World) (h : JrOk w g σ) :
    Calls Tryz.prog 8 #[.pointer (some ⟨g, 0, none⟩)] w (JoPost g (numEnd σ).2 (.int .i64 (numEnd σ).1) w) := by
  obtain ⟨l, b⟩ := σ
  have y0 : w.cell? ⟨g, 0, none⟩ = some (.string (BA l)) := Blk.cell h.at_ 0
  have hsz : (BA l).size = l.length := BA_size l
  have hlen : l.length ≤ 60000 := h.len
  have Hh := Lib.hid h
  have HF := Lib.hid (fun (W : World) (σ' : JS) (v : Int) (hn : numEnd (l, b) = (v, σ')) (hj : JrAt W g σ') (hg : w.grownBy W (some g)) (hs : σ'.1.length ≤ 60000) => (show JoPost g (numEnd (l, b)).2 (.int .i64 (numEnd (l, b)).1) w (.returned (.int .i64 v)) W from by rw [hn]; exact ⟨rfl, ⟨hj, h.err.grow hg, hs⟩, hg⟩))
  clear h
  go_enter Tryz.func8, Tryz.ntmps8
  go_wp2
  go_loop [3] (fun n => NumInv l n) (fun n => l.length - (intOf n).toNat)
  case atStart => exact ⟨0, by omega, rfl, fun i hi => by omega⟩
  case round =>
    obtain ⟨k, hk, rfl, hpre⟩ := hrel
    have Hpre := Lib.hid hpre
    clear hpre
    by_cases hkn : k < l.length ∧ ∀ c, l[k]? = some c → numC c = true
    · obtain ⟨hkl, hc⟩ := hkn
      obtain ⟨h', hbe⟩ := ba_at hkl
      have hnum := (numC_iff _).1 (hc _ (List.getElem?_eq_getElem hkl))
      have Hnext := Lib.hid (show ∀ i, i < k + 1 → ∀ c, l[i]? = some c → numC c = true from fun i hi c hc' => by
        by_cases e : i = k
        · subst e; exact hc c hc'
        · exact Hpre.out i (by omega) c hc')
      obtain ⟨c, hcc⟩ : ∃ c : Nat, (BA l)[k].toNat = c := ⟨_, rfl⟩
      have Hi := idx_str h' hcc
      rw [← hbe, hcc] at hnum
      clear hc hbe hcc
      by_cases e45 : c = 45
      · subst e45
        clear hnum
        go_wp2
        exact ⟨⟨k + 1, by omega, by go_num, Hnext.out⟩, by simp only [intOf]; omega⟩
      · have e1 : ((c : Int) == 45) = false := by simp; omega
        have e2 : 48 ≤ c ∧ c ≤ 57 := by omega
        obtain ⟨e2, e3⟩ := e2
        clear hnum
        go_wp2
        exact ⟨⟨k + 1, by omega, by go_num, Hnext.out⟩, by simp only [intOf]; omega⟩
    · have hT := Lib.hid (takeWhile_at (p := numC) l k hk Hpre.out (fun c hc => by
        cases hn : numC c with
        | false => rfl
        | true =>
          exfalso
          apply hkn
          obtain ⟨hkl, hce⟩ := List.getElem?_eq_some_iff.1 hc
          exact ⟨hkl, fun c' hc' => by rw [hc] at hc'; injection hc' with hc'; rw [← hc']; exact hn⟩))
      have hx1 : (BA l).extract 0 k = BA (l.take k) := BA_take l k hk
      have hx2 : (BA l).extract k (BA l).size = BA (l.drop k) := cut_BA l k
      have htl : (l.take k).length ≤ 60000 := by rw [List.length_take]; omega
      have hdl : (l.drop k).length ≤ 60000 := by rw [List.length_drop]; omega
      have HA := Lib.hid (atoi_any (l.take k) htl w g Hh.out.err)
      have Hx1 := Lib.hid hx1
      have Hx2 := Lib.hid hx2
      clear hx1 hx2
      have fin : ∀ (v : Int) (E : Value) (w1 : World), Below w.heap.size w w1 → ((E = .nilIface ∧ atoiAll (l.take k) = .ok v) ∨ (∃ t p, E = .iface t p ∧ atoiAll (l.take k) = atoiAll [] ∧ v = 0) ∨ (∃ t p, E = .iface t p ∧ atoiAll (l.take k) = .range ∧ v = atoiSat (l.take k))) →
          ∃ W : Bool, numEnd (l, b) = (v, l.drop k, W) ∧ ((E = .nilIface ∧ W = b) ∨ (∃ t p, E = .iface t p) ∧ W = true) := by
        intro v E w1 _ hE
        rcases hE with ⟨rfl, ha⟩ | ⟨t, p, rfl, ha, rfl⟩ | ⟨t, p, rfl, ha, rfl⟩
        · exact ⟨b, numEnd_ok hT.out ha, .inl ⟨rfl, rfl⟩⟩
        · exact ⟨true, numEnd_syntax hT.out ha, .inr ⟨⟨t, p, rfl⟩, rfl⟩⟩
        · exact ⟨true, numEnd_range hT.out ha, .inr ⟨⟨t, p, rfl⟩, rfl⟩⟩
      have Fin_ := Lib.hid fin
      clear fin
      have hend : (k = l.length ∧ ((k : Int) < (l.length : Int)) = False) ∨ ∃ (h' : k < (BA l).size), ¬ ((BA l)[k].toNat = 45 ∨ (48 ≤ (BA l)[k].toNat ∧ (BA l)[k].toNat ≤ 57)) := by
        by_cases hkl : k < l.length
        · obtain ⟨h', hbe⟩ := ba_at hkl
          refine .inr ⟨h', fun hn => hkn ⟨hkl, fun c hc => ?_⟩⟩
          rw [List.getElem?_eq_getElem hkl] at hc
          injection hc with hc
          rw [hbe, hc] at hn
          exact (numC_iff c).2 hn
        · exact .inl ⟨by omega, by simp; omega⟩
      clear hkn
      have hend2 : (k = l.length) ∨ ∃ c : Nat, (k < l.length ∧ (∀ W, (Instr.index 9 (.string (BA l)) (.int .i64 (k : Int))).run Tryz.prog W = .ok (.int .u8 (c : Int)) W) ∧ ((c : Int) == 45) = false ∧ (c < 48 ∨ 57 < c)) := by
        rcases hend with ⟨rfl, _⟩ | ⟨h', hno⟩
        · exact .inl rfl
        · exact .inr ⟨(BA l)[k].toNat, by omega, idx_str h' rfl, by simp; omega, by omega⟩
      clear hend
      have hend3 : (l.length ≤ k) ∨ (∃ c : Nat, (k < l.length ∧ (∀ W, (Instr.index 9 (.string (BA l)) (.int .i64 (k : Int))).run Tryz.prog W = .ok (.int .u8 (c : Int)) W) ∧ ((c : Int) == 45) = false ∧ c < 48)) ∨ (∃ c : Nat, (k < l.length ∧ (∀ W, (Instr.index 9 (.string (BA l)) (.int .i64 (k : Int))).run Tryz.prog W = .ok (.int .u8 (c : Int)) W) ∧ ((c : Int) == 45) = false ∧ 48 ≤ c ∧ 57 < c)) := by
        rcases hend2 with h1 | ⟨c, h1, h2, h3, h4⟩
        · exact .inl (by omega)
        · by_cases h5 : c < 48
          · exact .inr (.inl ⟨c, h1, h2, h3, h5⟩)
          · exact .inr (.inr ⟨c, h1, h2, h3, by omega, by omega⟩)
      clear hend2
      rcases hend3 with hkl | ⟨c, hkl, Hi, e1, e2⟩ | ⟨c, hkl, Hi, e1, e2, e3⟩
      all_goals
        go_wp2_with fail
        rw [Hx1.out]
        refine Calls.mono HA.out ?_
        rintro e w1 ⟨v, E, rfl, hb, hE⟩
        obtain ⟨W, hn, hW⟩ := Fin_.out v E w1 hb hE
        have hJ1 : JrAt w1 g (l, b) := Blk.below Hh.out.at_ hb Hh.out.at_.lt
        have hJ2 : JrAt ((w1.setCell ⟨g, 0, none⟩ (.string (BA (l.drop k)))).setCell ⟨g, 1, none⟩ (.bool W)) g (l.drop k, W) := Blk.eq (Blk.set (Blk.set hJ1 0 _) 1 _) (by simp)
        have HE := Lib.hid (HF.out _ _ _ hn hJ2 (bes_set (bes_set (grow_below g hb) 0 (.string (BA (l.drop k)))) 1 (.bool W)) hdl)
        rw [← Hx2.out, hsz] at HE
        have x0 : w1.cell? ⟨g, 0, none⟩ = some (.string (BA l)) := Blk.cell hJ1 0
        have x1 : w1.cell? ⟨g, 1, none⟩ = some (.bool b) := Blk.cell hJ1 1
        have z0 : w1.frozen? ⟨g, 0, none⟩ = false := Blk.thaw hJ1 0
        have z1 : w1.frozen? ⟨g, 1, none⟩ = false := Blk.thaw hJ1 1
        have hgl := Blk.lt hJ1
        clear hJ1 hJ2 hn hb hE y0
        cases b <;> rcases hW with ⟨rfl, rfl⟩ | ⟨⟨t, p, rfl⟩, rfl⟩
        all_goals
          go_wp2_with fail
          go_region
          go_wp2
          go_ret
          exact HE.out.drew
end Go.Proofs.YtcodhhabfacnjaaGreatDoor
