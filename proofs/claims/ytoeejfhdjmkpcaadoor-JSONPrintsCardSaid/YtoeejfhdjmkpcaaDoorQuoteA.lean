/- The walks of Quote, in the program and in the reference. -/
import Derived.Test.YtoeejfhdjmkpcaaDoorReads
import Derived.Test.YtoeejfhdjmkpcaaDoorPlQuote
import Derived.Deep.RegionLaw
set_option linter.unusedVariables false
set_option linter.unusedSimpArgs false
namespace Go.Proofs.YtoeejfhdjmkpcaaDoor
open Go.RowKit
set_option maxRecDepth 100000 in
theorem hex_idx (n : Int) (h0 : 0 ≤ n) (h1 : n < 16) (W : World) : (Instr.index 9 (.string ⟨#[48, 49, 50, 51, 52, 53, 54, 55, 56, 57, 97, 98, 99, 100, 101, 102]⟩) (.int .u8 n)).run Tryd.prog W = .ok (.int .u8 ((hexB n.toNat).toNat : Int)) W := by
  have hsz : hexS.size = 16 := rfl
  have hlt : n.toNat < hexS.size := by omega
  have e := run_index_string (P := Tryd.prog) W 9 hexS .u8 n Tryd.underlying9
  rw [dif_pos ⟨h0, by omega⟩] at e
  refine e.trans ?_
  have h2 := hexS_at ⟨n.toNat, by omega⟩
  have h3 : hexS.data.toList[n.toNat]? = some (hexS[n.toNat]'hlt) := by rw [List.getElem?_eq_getElem (by simpa using hlt)]; rfl
  simp only at h2
  rw [h3] at h2
  injection h2 with h2
  have h4 : (hexS[n.toNat]'hlt).toNat = (hexB n.toNat).toNat := h2
  rw [h4]
def QInv (base : Nat) (A : Option Addr) (m c : Nat) (l : List UInt8) (s : ByteArray) (w : World) (v i : Value) (wr : World) : Prop :=
  ∃ (A' : Option Addr) (m' c' k : Nat), v = .slice A' m' c' ∧ i = .int .i64 k ∧ k ≤ s.size ∧ wr.ownsRow base 5 1 (.slice A' m' c') m' (bytesV (l ++ quoteP (s.data.toList.take k))) ∧ Grew w wr (.slice A m c) (.slice A' m' c')
set_option maxRecDepth 100000 in
set_option maxHeartbeats 1000000 in
theorem quote_any (base : Nat) (A : Option Addr) (m c : Nat) (l : List UInt8) (s : ByteArray) (w : World) (hown : w.ownsRow base 5 1 (.slice A m c) m (bytesV l)) (hm : m + 6 * s.size + 8 ≤ 140737488355328) (hb : base ≤ w.heap.size) :
    Calls Tryd.prog 42 #[.slice A m c, .string s] w (PutPost base A m c (l ++ quoteL s.data.toList) w) := by
  have hs : s.size ≤ 140737488355328 := by omega
  have hl : l.length = m := by have := hown.1; simpa [bytesV] using this
  have Hl := Lib.hid hl
  have Hm := Lib.hid hm
  have Ho := Lib.hid hown
  clear hm hl hown
  go_enter Tryd.func42, Tryd.ntmps42
  go_wp2_with (at_builtin; refine push_u8 rfl _ _ rfl base _ _ _ _ rfl Ho.out _ 34 rfl rfl (by have := Hm.out; omega) hb ?_; intro A1 c1 w1 ho1 hg1)
  go_loopw [0, 5, 6, 12, 22, 33] (fun v _ _ i _ _ wr => QInv base A m c l s w v i wr) (fun _ _ _ i _ _ _ => s.size - (intOf i).toNat)
  case atStart => exact ⟨A1, m + 1, c1, 0, rfl, rfl, by omega, by simpa [quoteP] using ho1, hg1⟩
  case round =>
    clear ho1 hg1
    obtain ⟨A', m', c', k, rfl, rfl, hk, ho, hg⟩ := hrel
    have hlen : m' ≤ m + 6 * s.size + 1 := by
      have e2 := ho.1
      have e3 := quoteP_len (s.data.toList.take k)
      simp only [bytesV_length, List.length_append, List.length_take] at e2 e3
      have := Hl.out
      omega
    have Hm' := Lib.hid (show m' + 6 ≤ 140737488355328 from by have := Hm.out; omega)
    have hbr : base ≤ wr.heap.size := Nat.le_trans hb hg.grown.size
    clear hlen
    by_cases hsz : k < s.size
    · obtain ⟨c, hc⟩ : ∃ c : UInt8, s[k] = c := ⟨_, rfl⟩
      have hc2 : c.toNat < 256 := c.toNat_lt
      have Hi := idx_str hsz (congrArg UInt8.toNat hc)
      have Hst := Lib.hid (show quoteP (s.data.toList.take (k + 1)) = quoteP (s.data.toList.take k) ++ quoteB c from by rw [toList_take_succ hsz, hc, quoteP_snoc])
      clear hc
      by_cases h34 : c.toNat = 34 ∨ c.toNat = 92
      · have Hesc := Lib.hid (quoteB_esc h34)
        rcases Nat.lt_or_ge c.toNat 35 with h | h
        · have e1 : ((c.toNat : Int) == 34) = true := by rw [beq_iff_eq]; omega
          clear h34 h
          go_wp2_with (at_builtin; refine push_bytes rfl _ _ rfl base _ _ _ _ rfl ho _ 2 (by decide) [92, c] rfl rfl rfl (by have := Hm'.out; omega) hbr ?_; intro A2 c2 w2 ho2 hg2)
          go_roundw
          case rel => exact ⟨A2, m' + 2, c2, k + 1, rfl, by go_num, by omega, by rw [Hst.out, Hesc.out, ← List.append_assoc]; exact ho2, hg.trans hg2⟩
          case measure => simp [intOf]; omega
        · have e1 : ((c.toNat : Int) == 34) = false := by rw [beq_eq_false_iff_ne]; omega
          have e2 : ((c.toNat : Int) == 92) = true := by rw [beq_iff_eq]; omega
          clear h34 h
          go_wp2_with (at_builtin; refine push_bytes rfl _ _ rfl base _ _ _ _ rfl ho _ 2 (by decide) [92, c] rfl rfl rfl (by have := Hm'.out; omega) hbr ?_; intro A2 c2 w2 ho2 hg2)
          go_roundw
          case rel => exact ⟨A2, m' + 2, c2, k + 1, rfl, by go_num, by omega, by rw [Hst.out, Hesc.out, ← List.append_assoc]; exact ho2, hg.trans hg2⟩
          case measure => simp [intOf]; omega
      · have e1 : ((c.toNat : Int) == 34) = false := by rw [beq_eq_false_iff_ne]; omega
        have e2 : ((c.toNat : Int) == 92) = false := by rw [beq_eq_false_iff_ne]; omega
        by_cases h32 : c.toNat < 32
        · have Hlow := Lib.hid (quoteB_low h32)
          have hx1 := hex_idx ((c.toNat : Int) / 16) (by omega) (by omega)
          have hx2 := hex_idx (bits .and .u8 (c.toNat : Int) 15) (by rw [hex_lo _ hc2]; omega) (by rw [hex_lo _ hc2]; omega)
          have Hlo := Lib.hid (show (bits .and .u8 (c.toNat : Int) 15).toNat = c.toNat % 16 from by rw [hex_lo _ hc2]; omega)
          have Hhi := Lib.hid (show ((c.toNat : Int) / 16).toNat = c.toNat / 16 from by omega)
          clear h34
          go_wp2
          go_region_law (refine step_bytes rfl _ _ rfl base _ _ _ _ rfl ho _ 6 _ [92, 117, 48, 48, hexB ((c.toNat : Int) / 16).toNat, hexB (bits .and .u8 (c.toNat : Int) 15).toNat] rfl (by decide) rfl rfl Hm'.out hbr ?_; intro A2 c2 w2 ho2 hg2)
          all_goals go_wp2
          all_goals exact ⟨⟨A2, m' + 6, c2, k + 1, rfl, by go_num, by omega, by rw [Hst.out, Hlow.out, ← Hlo.out, ← Hhi.out, ← List.append_assoc]; exact ho2, hg.trans hg2⟩, by simp only [intOf]; omega⟩
        · have Hpl := Lib.hid (quoteB_plain (c := c) (by omega) (by omega) h32)
          clear h34
          go_wp2_with (at_builtin; refine push_u8 rfl _ _ rfl base _ _ _ _ rfl ho _ c rfl rfl (by have := Hm'.out; omega) hbr ?_; intro A2 c2 w2 ho2 hg2)
          go_roundw
          case rel => exact ⟨A2, m' + 1, c2, k + 1, rfl, by go_num, by omega, by rw [Hst.out, Hpl.out, ← List.append_assoc]; exact ho2, hg.trans hg2⟩
          case measure => simp [intOf]; omega
    · have Hall := Lib.hid (show s.data.toList.take k = s.data.toList from List.take_of_length_le (by simp; omega))
      go_wp2_with (at_builtin; refine push_u8 rfl _ _ rfl base _ _ _ _ rfl ho _ 34 rfl rfl (by have := Hm'.out; omega) hbr ?_; intro A2 c2 w2 ho2 hg2)
      go_ret
      exact ⟨A2, m' + 1, c2, rfl, by rw [Hall.out, List.append_assoc] at ho2; exact ho2, hg.trans hg2⟩
end Go.Proofs.YtoeejfhdjmkpcaaDoor
