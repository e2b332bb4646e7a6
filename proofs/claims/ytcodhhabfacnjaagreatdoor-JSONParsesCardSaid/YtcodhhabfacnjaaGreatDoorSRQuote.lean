/- Of the proof of a statement: RQuote, ChkR. -/
import Derived.Deep.QuietTactic
import Derived.BigQuiet
import Derived.Test.YtcodhhabfacnjaaGreatDoorSQuoteA
import Derived.Test.YtcodhhabfacnjaaGreatDoorSUtf
set_option linter.unusedVariables false
set_option linter.unusedSimpArgs false
/- The walk of the reference's Quote. -/
namespace Go.Proofs.YtcodhhabfacnjaaGreatDoor
open Go.RowKit
theorem hexcut : ∀ n : Fin 16, (hexS.extract n.val 16).extract 0 1 = ⟨#[hexB n.val]⟩ := by decide +kernel
theorem hexcut_size : ∀ n : Fin 16, 1 ≤ (hexS.extract n.val 16).size := by decide +kernel
theorem hex_cut (n : Int) (h0 : 0 ≤ n) (h1 : n < 16) : ∃ X : ByteArray, (∀ W : World, (Instr.slice 9 (.string ⟨#[48, 49, 50, 51, 52, 53, 54, 55, 56, 57, 97, 98, 99, 100, 101, 102]⟩) (some (.int .u8 n)) none none).run Tryz.prog W = .ok (.string X) W) ∧
    (∀ W : World, (Instr.slice 9 (.string X) none (some (.int .i64 1)) none).run Tryz.prog W = .ok (.string ⟨#[hexB n.toNat]⟩) W) := by
  have hf := hexcut ⟨n.toNat, by omega⟩
  have hz := hexcut_size ⟨n.toNat, by omega⟩
  refine ⟨hexS.extract n.toNat 16, fun W => ?_, fun W => ?_⟩
  · have h := run_slice_string_from_if (P := Tryz.prog) W 9 hexS .u8 n Tryz.underlying9
    rw [if_pos ⟨h0, by have : hexS.size = 16 := rfl; omega⟩] at h
    exact h
  · have h := run_slice_string_to_if (P := Tryz.prog) W 9 (hexS.extract n.toNat 16) .i64 1 Tryz.underlying9
    rw [if_pos ⟨by omega, by simp only at hz; omega⟩] at h
    rw [h]
    exact congrArg (fun x => Result.ok (Value.string x) W) hf
/-- s[k:k+1] of a string. -/
theorem cut_one {s : ByteArray} {k : Nat} {c : UInt8} (h : k < s.size) (hc : s[k] = c) (W : World) : (Instr.slice 9 (.string s) (some (.int .i64 (k : Int))) (some (.int .i64 ((k : Int) + 1))) none).run Tryz.prog W = .ok (.string ⟨#[c]⟩) W := by
  rw [run_slice_string W 9 s .i64 .i64 (k : Int) ((k : Int) + 1) Tryz.underlying9 (by omega) (by omega) (by omega)]
  have e1 : ((k : Int) + 1).toNat = k + 1 := by omega
  rw [Int.toNat_natCast, e1]
  congr 2
  apply ByteArray.ext
  rw [ByteArray.data_extract]
  apply Array.toList_inj.1
  subst hc
  have hk : k < s.data.toList.length := by simpa using h
  rw [Array.toList_extract]
  show List.take (k + 1 - k) (List.drop k s.data.toList) = [s.data.toList[k]]
  rw [List.drop_eq_getElem_cons hk]
  simp
theorem take_snocQ {O : ByteArray} {l : List UInt8} (h : O.data.toList = l) (x : ByteArray) : (O ++ x).data.toList = l ++ x.data.toList := by rw [ByteArray.toList_data_append, h]
def RQInv (s : ByteArray) (v i : Value) : Prop :=
  ∃ (k : Nat) (O : ByteArray), v = .string O ∧ i = .int .i64 k ∧ k ≤ s.size ∧ O.data.toList = quoteP (s.data.toList.take k)
theorem RQInv.size {O : ByteArray} {l : List UInt8} (h : O.data.toList = quoteP l) : O.size ≤ 6 * l.length + 1 := by
  have := quoteP_len l
  rw [← h] at this
  simpa using this
set_option maxRecDepth 100000 in
set_option maxHeartbeats 1000000 in
theorem rQuote_any (s : ByteArray) (w : World) (hs : 6 * s.size + 8 ≤ 140737488355328) :
    Calls Tryz.prog 38 #[.string s] w fun e w' => e = .returned (.string ⟨(quoteL s.data.toList).toArray⟩) ∧ Below w.heap.size w w' := by
  have hs2 : s.size ≤ 140737488355328 := by omega
  have Hs := Lib.hid hs
  clear hs
  go_enter Tryz.func38, Tryz.ntmps38
  go_wp2
  go_loopw [3, 4, 5, 8, 16, 25] (fun v _ _ i _ _ wr => RQInv s v i ∧ ∃ n, wr = w.drewN n) (fun _ _ _ i _ _ _ => s.size - (intOf i).toNat)
  case atStart => exact ⟨⟨0, _, rfl, rfl, by omega, rfl⟩, 0, rfl⟩
  case round =>
    obtain ⟨⟨k, O, rfl, rfl, hk, hO⟩, n, rfl⟩ := hrel
    have hsz : O.size ≤ 140737488355328 := by
      have h1 := RQInv.size hO
      rw [List.length_take] at h1
      have := Hs.out
      omega
    have HO := Lib.hid hO
    clear hO
    by_cases hlt : k < s.size
    · obtain ⟨c, hc⟩ : ∃ c : UInt8, s[k] = c := ⟨_, rfl⟩
      have hc2 : c.toNat < 256 := c.toNat_lt
      have Hi := idx_str hlt (congrArg UInt8.toNat hc)
      have Hsl := cut_one hlt hc
      have Hst := Lib.hid (show quoteP (s.data.toList.take (k + 1)) = quoteP (s.data.toList.take k) ++ quoteB c from by rw [toList_take_succ hlt, hc, quoteP_snoc])
      clear hc
      by_cases h34 : c = 34
      · subst h34
        go_wp2
        exact ⟨⟨⟨k + 1, _, rfl, by go_num, by omega, by rw [Hst.out, take_snocQ HO.out]; rfl⟩, n, rfl⟩, by simp only [intOf]; omega⟩
      have e1 : (c == 34) = false := by rw [beq_eq_false_iff_ne]; exact h34
      by_cases h92 : c = 92
      · subst h92
        clear h34
        go_wp2
        exact ⟨⟨⟨k + 1, _, rfl, by go_num, by omega, by rw [Hst.out, take_snocQ HO.out]; rfl⟩, n, rfl⟩, by simp only [intOf]; omega⟩
      have e2 : (c == 92) = false := by rw [beq_eq_false_iff_ne]; exact h92
      by_cases h32 : c.toNat < 32
      · have Hlow := Lib.hid (quoteB_low h32)
        obtain ⟨X, hX1, hX2⟩ := hex_cut ((c.toNat : Int) / 16) (by omega) (by omega)
        obtain ⟨Y, hY1, hY2⟩ := hex_cut ((c.toNat : Int) % 16) (by omega) (by omega)
        have Hlo := Lib.hid (show ((c.toNat : Int) % 16).toNat = c.toNat % 16 from by omega)
        have Hhi := Lib.hid (show ((c.toNat : Int) / 16).toNat = c.toNat / 16 from by omega)
        clear h34 h92
        go_wp2
        go_quiet (fail)
        go_wp2
        exact ⟨⟨⟨k + 1, _, rfl, by go_num, by omega, by rw [Hst.out, Hlow.out, take_snocQ HO.out, ByteArray.toList_data_append, ByteArray.toList_data_append]; rfl⟩, _, rfl⟩, by simp only [intOf]; omega⟩
      · have Hpl := Lib.hid (quoteB_plain (c := c) (fun h => h34 (UInt8.toNat_inj.1 h)) (fun h => h92 (UInt8.toNat_inj.1 h)) h32)
        clear h34 h92
        go_wp2
        exact ⟨⟨⟨k + 1, _, rfl, by go_num, by omega, by rw [Hst.out, Hpl.out, take_snocQ HO.out]⟩, n, rfl⟩, by simp only [intOf]; omega⟩
    · have Hall := Lib.hid (show s.data.toList.take k = s.data.toList from List.take_of_length_le (by simp; omega))
      go_wp2
      go_ret
      refine ⟨ret_str ?_, ⟨rfl, rfl, rfl, Nat.le_refl _, fun _ _ => rfl⟩⟩
      apply ByteArray.ext
      apply Array.toList_inj.1
      rw [take_snocQ HO.out, Hall.out]
      simp [quoteL]
end Go.Proofs.YtcodhhabfacnjaaGreatDoor
/- The walks of the checks of one row, in the reference. -/
namespace Go.Proofs.YtcodhhabfacnjaaGreatDoor
open Go.RowKit
open Go.Lib (validD)
set_option maxRecDepth 100000 in
theorem isNote_any (s : ByteArray) (w : World) (hs : s.size ≤ 9223372036854775807) : Calls Tryz.prog 94 #[.string s] w fun e w' => e = .returned (.bool (txtOk s)) ∧ w = w' := by
  by_cases h : s.size ≤ 16
  · rw [txtOk_short h]
    have hV := Lib.hid (rutf_any s w (by omega))
    generalize validD s.data.toList = b at hV ⊢
    go_enter Tryz.func94, Tryz.ntmps94
    go_wp2_with fail
    refine Calls.mono hV.out ?_
    rintro e w1 ⟨rfl, rfl⟩
    go_wp2
    go_ret
    exact ⟨rfl, rfl⟩
  · rw [txtOk_long h]
    go_enter Tryz.func94, Tryz.ntmps94
    go_wp2
    go_ret
    exact ⟨rfl, rfl⟩
set_option maxRecDepth 100000 in
theorem rIsName_any (s : ByteArray) (w : World) (hs : s.size ≤ 9223372036854775807) : Calls Tryz.prog 93 #[.string s] w fun e w' => e = .returned (.bool (nameOk s)) ∧ w = w' := by
  by_cases h : s.size = 0
  · rw [nameOk_empty h]
    obtain rfl := empty_of h
    go_enter Tryz.func93, Tryz.ntmps93
    go_wp2
    go_ret
    exact ⟨rfl, rfl⟩
  · rw [nameOk_more h]
    have hV := Lib.hid (isNote_any s w hs)
    have e1 := beq_nil h
    have e2 := beq_empty h
    generalize txtOk s = b at hV ⊢
    go_enter Tryz.func93, Tryz.ntmps93
    go_wp2_with fail
    refine Calls.mono hV.out ?_
    rintro e w1 ⟨rfl, rfl⟩
    go_wp2
    go_ret
    exact ⟨rfl, rfl⟩
theorem outside_any (n lo hi : Int) (w : World) : Calls Tryz.prog 60 #[.int .i64 n, .int .i64 lo, .int .i64 hi] w fun e w' => e = .returned (.bool (!ranged n lo hi)) ∧ w = w' := by
  cases h : ranged n lo hi
  · exact outside_yes n lo hi (ranged_not.1 h) w
  · exact outside_no n lo hi (ranged_iff.1 h).1 (ranged_iff.1 h).2 w
set_option maxRecDepth 100000 in
set_option maxHeartbeats 2000000 in
theorem jobCheck_any (j : JobD) (w : World) (h1 : j.name.size ≤ 9223372036854775807) (h2 : j.tag.size ≤ 9223372036854775807) :
    Calls Tryz.prog 79 #[.agg (jobV j).toArray] w fun e w' => e = .returned (.int .i64 (jobE j)) ∧ Below w.heap.size w w' := by
  obtain ⟨E, hE⟩ : ∃ E, jobE j = E := ⟨_, rfl⟩
  rw [hE]
  have HE := Lib.hid hE
  clear hE
  obtain ⟨name, prio, need, tries, tag⟩ := j
  unfold jobV
  simp only at h1 h2 ⊢
  have HB := Lib.hid ((Below.refl w.heap.size w).alloc (Nat.le_refl _) (.cells #[.string name, .int .i64 prio, .int .i64 need, .int .i64 tries, .string tag] 39))
  go_enter Tryz.func79, Tryz.ntmps79
  go_wp2_with fail
  refine Calls.mono (rIsName_any _ _ h1) ?_
  rintro e w1 ⟨rfl, rfl⟩
  cases hn : nameOk name
  · go_wp2
    go_ret
    exact ⟨ret_int (by rw [← HE.out]; simp [jobE, hn]), HB.out⟩
  go_wp2_with fail
  refine Calls.mono (isNote_any _ _ h2) ?_
  rintro e w1 ⟨rfl, rfl⟩
  cases ht : txtOk tag
  · go_wp2
    go_ret
    exact ⟨ret_int (by rw [← HE.out]; simp [jobE, hn, ht]), HB.out⟩
  go_wp2_with fail
  refine Calls.mono (outside_any _ _ _ _) ?_
  rintro e w1 ⟨rfl, rfl⟩
  cases hr0 : ranged prio (-1000) 1000
  · go_wp2
    go_ret
    exact ⟨ret_int (by rw [← HE.out]; simp [jobE, hn, ht, hr0]), HB.out⟩
  go_wp2_with fail
  refine Calls.mono (outside_any _ _ _ _) ?_
  rintro e w1 ⟨rfl, rfl⟩
  cases hr1 : ranged need 0 1000000
  · go_wp2
    go_ret
    exact ⟨ret_int (by rw [← HE.out]; simp [jobE, hn, ht, hr0, hr1]), HB.out⟩
  go_wp2_with fail
  refine Calls.mono (outside_any _ _ _ _) ?_
  rintro e w1 ⟨rfl, rfl⟩
  cases hr2 : ranged tries 0 100
  · go_wp2
    go_ret
    exact ⟨ret_int (by rw [← HE.out]; simp [jobE, hn, ht, hr0, hr1, hr2]), HB.out⟩
  go_wp2
  go_ret
  exact ⟨ret_int (by rw [← HE.out]; simp [jobE, hn, ht, hr0, hr1, hr2]), HB.out⟩
set_option maxRecDepth 100000 in
set_option maxHeartbeats 2000000 in
theorem nodeCheck_any (n : NodeD) (w : World) (h1 : n.name.size ≤ 9223372036854775807) (h2 : n.zone.size ≤ 9223372036854775807) :
    Calls Tryz.prog 80 #[.agg (nodeV n).toArray] w fun e w' => e = .returned (.int .i64 (nodeE n)) ∧ Below w.heap.size w w' := by
  obtain ⟨E, hE⟩ : ∃ E, nodeE n = E := ⟨_, rfl⟩
  rw [hE]
  have HE := Lib.hid hE
  clear hE
  obtain ⟨name, room, zone⟩ := n
  unfold nodeV
  simp only at h1 h2 ⊢
  have HB := Lib.hid ((Below.refl w.heap.size w).alloc (Nat.le_refl _) (.cells #[.string name, .int .i64 room, .string zone] 43))
  go_enter Tryz.func80, Tryz.ntmps80
  go_wp2_with fail
  refine Calls.mono (rIsName_any _ _ h1) ?_
  rintro e w1 ⟨rfl, rfl⟩
  cases hn : nameOk name
  · go_wp2
    go_ret
    exact ⟨ret_int (by rw [← HE.out]; simp [nodeE, hn]), HB.out⟩
  go_wp2_with fail
  refine Calls.mono (isNote_any _ _ h2) ?_
  rintro e w1 ⟨rfl, rfl⟩
  cases ht : txtOk zone
  · go_wp2
    go_ret
    exact ⟨ret_int (by rw [← HE.out]; simp [nodeE, hn, ht]), HB.out⟩
  go_wp2_with fail
  refine Calls.mono (outside_any _ _ _ _) ?_
  rintro e w1 ⟨rfl, rfl⟩
  cases hr0 : ranged room 0 1000000
  · go_wp2
    go_ret
    exact ⟨ret_int (by rw [← HE.out]; simp [nodeE, hn, ht, hr0]), HB.out⟩
  go_wp2
  go_ret
  exact ⟨ret_int (by rw [← HE.out]; simp [nodeE, hn, ht, hr0]), HB.out⟩
end Go.Proofs.YtcodhhabfacnjaaGreatDoor
