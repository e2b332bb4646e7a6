/- The walk of the reference's Quote. -/
import Derived.Test.YtoeejfhdjmkpcaaDoorQuoteA
import Derived.Deep.QuietTactic
import Derived.BigQuiet
set_option linter.unusedVariables false
set_option linter.unusedSimpArgs false
namespace Go.Proofs.YtoeejfhdjmkpcaaDoor
open Go.RowKit
theorem hexcut : ∀ n : Fin 16, (hexS.extract n.val 16).extract 0 1 = ⟨#[hexB n.val]⟩ := by decide +kernel
theorem hexcut_size : ∀ n : Fin 16, 1 ≤ (hexS.extract n.val 16).size := by decide +kernel
theorem hex_cut (n : Int) (h0 : 0 ≤ n) (h1 : n < 16) : ∃ X : ByteArray, (∀ W : World, (Instr.slice 9 (.string ⟨#[48, 49, 50, 51, 52, 53, 54, 55, 56, 57, 97, 98, 99, 100, 101, 102]⟩) (some (.int .u8 n)) none none).run Tryd.prog W = .ok (.string X) W) ∧
    (∀ W : World, (Instr.slice 9 (.string X) none (some (.int .i64 1)) none).run Tryd.prog W = .ok (.string ⟨#[hexB n.toNat]⟩) W) := by
  have hf := hexcut ⟨n.toNat, by omega⟩
  have hz := hexcut_size ⟨n.toNat, by omega⟩
  refine ⟨hexS.extract n.toNat 16, fun W => ?_, fun W => ?_⟩
  · have h := run_slice_string_from_if (P := Tryd.prog) W 9 hexS .u8 n Tryd.underlying9
    rw [if_pos ⟨h0, by have : hexS.size = 16 := rfl; omega⟩] at h
    exact h
  · have h := run_slice_string_to_if (P := Tryd.prog) W 9 (hexS.extract n.toNat 16) .i64 1 Tryd.underlying9
    rw [if_pos ⟨by omega, by simp only at hz; omega⟩] at h
    rw [h]
    exact congrArg (fun x => Result.ok (Value.string x) W) hf
/-- s[k:k+1] of a string. -/
theorem cut_one {s : ByteArray} {k : Nat} {c : UInt8} (h : k < s.size) (hc : s[k] = c) (W : World) : (Instr.slice 9 (.string s) (some (.int .i64 (k : Int))) (some (.int .i64 ((k : Int) + 1))) none).run Tryd.prog W = .ok (.string ⟨#[c]⟩) W := by
  rw [run_slice_string W 9 s .i64 .i64 (k : Int) ((k : Int) + 1) Tryd.underlying9 (by omega) (by omega) (by omega)]
  have e1 : ((k : Int) + 1).toNat = k + 1 := by omega
  rw [Int.toNat_natCast, e1]
  congr 2
  apply ByteArray.ext
  rw [ByteArray.data_extract]
  apply Array.toList_inj.1
  subst hc
  have hk : k < s.data.toList.length := by simpa using h
  rw [Array.toList_extract]
  show List.take (k + 1 - k) (List.drop k s.data.toList) = [s.data.toList[k]]
  rw [List.drop_eq_getElem_cons hk]
  simp
theorem take_snocQ {O : ByteArray} {l : List UInt8} (h : O.data.toList = l) (x : ByteArray) : (O ++ x).data.toList = l ++ x.data.toList := by rw [ByteArray.toList_data_append, h]
def RQInv (s : ByteArray) (v i : Value) : Prop :=
  ∃ (k : Nat) (O : ByteArray), v = .string O ∧ i = .int .i64 k ∧ k ≤ s.size ∧ O.data.toList = quoteP (s.data.toList.take k)
theorem RQInv.size {O : ByteArray} {l : List UInt8} (h : O.data.toList = quoteP l) : O.size ≤ 6 * l.length + 1 := by
  have := quoteP_len l
  rw [← h] at this
  simpa using this
set_option maxRecDepth 100000 in
set_option maxHeartbeats 1000000 in
theorem rQuote_any (s : ByteArray) (w : World) (hs : 6 * s.size + 8 ≤ 140737488355328) :
    Calls Tryd.prog 10 #[.string s] w fun e w' => e = .returned (.string ⟨(quoteL s.data.toList).toArray⟩) ∧ Below w.heap.size w w' := by
  have hs2 : s.size ≤ 140737488355328 := by omega
  have Hs := Lib.hid hs
  clear hs
  go_enter Tryd.func10, Tryd.ntmps10
  go_wp2
  go_loopw [3, 4, 5, 8, 16, 25] (fun v _ _ i _ _ wr => RQInv s v i ∧ ∃ n, wr = w.drewN n) (fun _ _ _ i _ _ _ => s.size - (intOf i).toNat)
  case atStart => exact ⟨⟨0, _, rfl, rfl, by omega, rfl⟩, 0, rfl⟩
  case round =>
    obtain ⟨⟨k, O, rfl, rfl, hk, hO⟩, n, rfl⟩ := hrel
    have hsz : O.size ≤ 140737488355328 := by
      have h1 := RQInv.size hO
      rw [List.length_take] at h1
      have := Hs.out
      omega
    have HO := Lib.hid hO
    clear hO
    by_cases hlt : k < s.size
    · obtain ⟨c, hc⟩ : ∃ c : UInt8, s[k] = c := ⟨_, rfl⟩
      have hc2 : c.toNat < 256 := c.toNat_lt
      have Hi := idx_str hlt (congrArg UInt8.toNat hc)
      have Hsl := cut_one hlt hc
      have Hst := Lib.hid (show quoteP (s.data.toList.take (k + 1)) = quoteP (s.data.toList.take k) ++ quoteB c from by rw [toList_take_succ hlt, hc, quoteP_snoc])
      clear hc
      by_cases h34 : c = 34
      · subst h34
        go_wp2
        exact ⟨⟨⟨k + 1, _, rfl, by go_num, by omega, by rw [Hst.out, take_snocQ HO.out]; rfl⟩, n, rfl⟩, by simp only [intOf]; omega⟩
      have e1 : (c == 34) = false := by rw [beq_eq_false_iff_ne]; exact h34
      by_cases h92 : c = 92
      · subst h92
        clear h34
        go_wp2
        exact ⟨⟨⟨k + 1, _, rfl, by go_num, by omega, by rw [Hst.out, take_snocQ HO.out]; rfl⟩, n, rfl⟩, by simp only [intOf]; omega⟩
      have e2 : (c == 92) = false := by rw [beq_eq_false_iff_ne]; exact h92
      by_cases h32 : c.toNat < 32
      · have Hlow := Lib.hid (quoteB_low h32)
        obtain ⟨X, hX1, hX2⟩ := hex_cut ((c.toNat : Int) / 16) (by omega) (by omega)
        obtain ⟨Y, hY1, hY2⟩ := hex_cut ((c.toNat : Int) % 16) (by omega) (by omega)
        have Hlo := Lib.hid (show ((c.toNat : Int) % 16).toNat = c.toNat % 16 from by omega)
        have Hhi := Lib.hid (show ((c.toNat : Int) / 16).toNat = c.toNat / 16 from by omega)
        clear h34 h92
        go_wp2
        go_quiet (fail)
        go_wp2
        exact ⟨⟨⟨k + 1, _, rfl, by go_num, by omega, by rw [Hst.out, Hlow.out, take_snocQ HO.out, ByteArray.toList_data_append, ByteArray.toList_data_append]; rfl⟩, _, rfl⟩, by simp only [intOf]; omega⟩
      · have Hpl := Lib.hid (quoteB_plain (c := c) (fun h => h34 (UInt8.toNat_inj.1 h)) (fun h => h92 (UInt8.toNat_inj.1 h)) h32)
        clear h34 h92
        go_wp2
        exact ⟨⟨⟨k + 1, _, rfl, by go_num, by omega, by rw [Hst.out, Hpl.out, take_snocQ HO.out]⟩, n, rfl⟩, by simp only [intOf]; omega⟩
    · have Hall := Lib.hid (show s.data.toList.take k = s.data.toList from List.take_of_length_le (by simp; omega))
      go_wp2
      go_ret
      refine ⟨ret_str ?_, below_drewN (Below.refl _ _) n⟩
      apply ByteArray.ext
      apply Array.toList_inj.1
      rw [take_snocQ HO.out, Hall.out]
      simp [quoteL]
end Go.Proofs.YtoeejfhdjmkpcaaDoor
