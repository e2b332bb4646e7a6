/- Of the proof of a statement: Utf. -/
import Derived.Test.YtcodhhabfacnjaaGreatDoorSPlUtf
import Derived.Test.YtcodhhabfacnjaaGreatDoorSTabM
import Derived.Test.YtcodhhabfacnjaaGreatDoorSTabs
set_option linter.unusedVariables false
set_option linter.unusedSimpArgs false
/- The walk of the reference's isUTF8: it says what the library's decoder says. -/
namespace Go.Proofs.YtcodhhabfacnjaaGreatDoor
open Go.RowKit
open Go.Lib (validD)
def UtfInv (s : ByteArray) (i : Value) : Prop := ∃ k : Nat, k ≤ s.size ∧ i = .int .i64 k ∧ validD (s.data.toList.drop k) = validD s.data.toList
def RuneInv (l : List UInt8) (m lo hi : Nat) (v6 v7 v8 : Value) : Prop := ∃ j : Nat, 1 ≤ j ∧ j ≤ m + 1 ∧ v8 = .int .i64 j ∧ v6 = .int .i64 (lowAt lo j) ∧ v7 = .int .i64 (highAt hi j) ∧ ∀ t, 1 ≤ t → t < j → okAt l lo hi t
theorem drop_ne {s : ByteArray} {k : Nat} (h : k < s.size) : s.data.toList.drop k ≠ [] := by
  intro e
  have := congrArg List.length e
  rw [List.length_drop, Array.length_toList, List.length_nil] at this
  have e2 : s.data.size = s.size := rfl
  omega
theorem drop_at {s : ByteArray} {k j c : Nat} (h : k + j < s.size) (hc : s[k + j].toNat = c) : ((s.data.toList.drop k).getD j 0).toNat = c := by
  rw [List.getD_eq_getElem?_getD, List.getElem?_drop, Array.getElem?_toList, Array.getElem?_eq_getElem (show k + j < s.data.size from h)]
  exact hc
theorem drop_len (s : ByteArray) (k : Nat) : (s.data.toList.drop k).length = s.size - k := by
  rw [List.length_drop, Array.length_toList]; rfl
theorem lowAt_le {lo j : Nat} (h : lo ≤ 255) : lowAt lo j ≤ 255 := by unfold lowAt; split <;> omega
theorem highAt_le {hi j : Nat} (h : hi ≤ 255) : highAt hi j ≤ 255 := by unfold highAt; split <;> omega
set_option maxRecDepth 100000 in
set_option maxHeartbeats 4000000 in
theorem rutf_any (s : ByteArray) (w : World) (hs : s.size ≤ 1048576) : Calls Tryz.prog 106 #[.string s] w fun e w' => e = .returned (.bool (validD s.data.toList)) ∧ w = w' := by
  go_enter Tryz.func106, Tryz.ntmps106
  go_wp2
  go_loop [2, 3, 4, 5, 6, 7, 8, 17, 20, 27, 38, 68] (fun _ i _ _ _ _ _ _ _ _ _ _ => UtfInv s i) (fun _ i _ _ _ _ _ _ _ _ _ _ => s.size - (intOf i).toNat)
  case atStart => exact ⟨0, by omega, rfl, by simp⟩
  case round =>
    obtain ⟨k, hk, rfl, hv⟩ := hrel
    by_cases hsz : k < s.size
    · obtain ⟨c, hc⟩ : ∃ c : Nat, s[k].toNat = c := ⟨_, rfl⟩
      have hc2 : c < 256 := by rw [← hc]; exact s[k].toNat_lt
      have Hi := idx_str hsz hc
      have hne := drop_ne hsz
      have hc0 : ((s.data.toList.drop k).getD 0 0).toNat = c := drop_at (j := 0) hsz hc
      have hln := drop_len s k
      clear hc
      generalize hl : s.data.toList.drop k = l at hne hc0 hln hv
      have HL := Lib.hid hl
      have HV := Lib.hid hv
      clear hl hv
      by_cases klt : c < 128
      · have HC := Lib.hid (Cls.ascii hne hc0 klt)
        have _ : decide ((c : Int) < 128) = true := decide_eq_true (by omega)
        clear hne hc0
        go_wp2
        go_loop [2, 6, 7, 8, 68] (fun _ v6 v7 v8 _ => v8 = .int .i64 1 ∧ v6 = .int .i64 128 ∧ v7 = .int .i64 191) (fun _ _ _ v8 _ => 1 - (intOf v8).toNat)
        case atStart => exact ⟨rfl, rfl, rfl⟩
        case round =>
          obtain ⟨rfl, rfl, rfl⟩ := hrel
          have hans := Lib.hid (HC.out.ok (by omega) (fun t h1 h2 => absurd h1 (by omega)))
          clear HC
          go_wp2
          go_round
          case rel => exact ⟨k + 1, by omega, by go_num, by rw [← HV.out, ← List.drop_drop, HL.out]; exact hans.out.symm⟩
          case measure => simp [intOf]; omega
      by_cases ka : 194 ≤ c ∧ c ≤ 223
      · have HC := Lib.hid (Cls.of (m := 1) (lo := 128) (hi := 191) hne hc0 (by omega) (by unfold leadOf; rw [if_neg (by omega), if_pos (by omega)]))
        have _ : decide ((c : Int) < 128) = false := decide_eq_false (by omega)
        have _ : decide ((194 : Int) ≤ c) = true := decide_eq_true (by omega)
        have _ : decide ((c : Int) ≤ 223) = true := decide_eq_true (by omega)
        clear hne hc0
        have hlo2 := lowAt_le (lo := 128) (j := 1) (by omega)
        by_cases hsh : s.size < k + 1 + 1
        · have hans := Lib.hid (HC.out.short (by omega))
          clear HC
          go_wp2
          go_ret
          exact ⟨ret_bool (by rw [← HV.out, hans.out]), rfl⟩
        · go_wp2
          go_loop [2, 6, 7, 8, 68] (fun _ v6 v7 v8 _ => RuneInv l 1 128 191 v6 v7 v8) (fun _ _ _ v8 _ => 1 + 1 - (intOf v8).toNat)
          case atStart => exact ⟨1, by omega, by omega, rfl, rfl, rfl, fun t h1 h2 => by omega⟩
          case round =>
            obtain ⟨j, hj1, hj2, rfl, rfl, rfl, hall⟩ := hrel
            have hA := Lib.hid hall
            clear hall
            by_cases hj : j ≤ 1
            · have hkj : k + j < s.size := by omega
              obtain ⟨d, hd⟩ : ∃ d : Nat, s[k + j].toNat = d := ⟨_, rfl⟩
              have hd2 : d < 256 := by rw [← hd]; exact s[k + j].toNat_lt
              have hij : ∀ W, (Instr.index 9 (.string s) (.int .i64 ((k : Int) + (j : Int)))).run Tryz.prog W = .ok (.int .u8 (d : Int)) W := fun W => by
                have := idx_str hkj hd W
                rw [Int.natCast_add] at this
                exact this
              have hd0 := drop_at hkj hd
              rw [HL.out] at hd0
              have hst := Lib.hid (okAt_at (lo := 128) (hi := 191) hd0)
              have hl1 := lowAt_le (lo := 128) (j := j) (by omega)
              have hh1 := highAt_le (hi := 191) (j := j) (by omega)
              obtain ⟨x, hx⟩ : ∃ x, lowAt 128 j = x := ⟨_, rfl⟩
              obtain ⟨y, hy⟩ : ∃ y, highAt 191 j = y := ⟨_, rfl⟩
              rw [hx] at hst hl1 ⊢
              rw [hy] at hst hh1 ⊢
              clear hd hd0 hx hy
              by_cases hok : x ≤ d ∧ d ≤ y
              · have hnew := Lib.hid (hst.out.2 hok)
                have h1 := Lib.hid hok.1
                have h2 := Lib.hid hok.2
                clear hst hok HC HL
                go_wp2_with fail
                refine Calls.mono (outside_no _ _ _ (by have := h1.out; omega) (by have := h2.out; omega) _) ?_
                rintro e w' ⟨rfl, rfl⟩
                go_wp2
                go_round
                case rel => exact ⟨j + 1, by omega, by omega, by go_num, by unfold lowAt; rw [if_neg (by omega)]; rfl, by unfold highAt; rw [if_neg (by omega)]; rfl, fun t h1 h2 => by
                  by_cases ht : t < j
                  · exact hA.out t h1 ht
                  · obtain rfl : t = j := by omega
                    exact hnew.out⟩
                case measure => simp [intOf]; omega
              · have hans := Lib.hid (HC.out.bad j hj1 hj (fun h => hok (hst.out.1 h)))
                have h1 := Lib.hid (show (d : Int) < (x : Int) ∨ (y : Int) < (d : Int) by omega)
                clear hst hok HC HL
                go_wp2_with fail
                refine Calls.mono (outside_yes _ _ _ h1.out _) ?_
                rintro e w' ⟨rfl, rfl⟩
                go_wp2
                go_ret
                exact ⟨ret_bool (by rw [← HV.out, hans.out]), rfl⟩
            · obtain rfl : j = 1 + 1 := by omega
              have hans := Lib.hid (HC.out.ok (by omega) (fun t h1 h2 => hA.out t h1 (by omega)))
              clear HC
              go_wp2
              go_round
              case rel => exact ⟨k + 2, by omega, by go_num, by rw [← HV.out, ← List.drop_drop, HL.out]; exact hans.out.symm⟩
              case measure => simp [intOf]; omega
      by_cases kb : c = 224
      · have HC := Lib.hid (Cls.of (m := 2) (lo := 160) (hi := 191) hne hc0 (by omega) (by unfold leadOf; subst kb; rfl))
        have _ : decide ((c : Int) < 128) = false := decide_eq_false (by omega)
        have _ : decide ((194 : Int) ≤ c) = true := decide_eq_true (by omega)
        have _ : decide ((c : Int) ≤ 223) = false := decide_eq_false (by omega)
        have _ : decide ((224 : Int) ≤ c) = true := decide_eq_true (by omega)
        have _ : decide ((c : Int) ≤ 239) = true := decide_eq_true (by omega)
        have _ : ((c : Int) == 224) = true := beq_iff_eq.2 (by omega)
        have _ : ((c : Int) == 237) = false := by rw [beq_eq_false_iff_ne]; omega
        clear hne hc0
        have hlo2 := lowAt_le (lo := 160) (j := 1) (by omega)
        by_cases hsh : s.size < k + 2 + 1
        · have hans := Lib.hid (HC.out.short (by omega))
          clear HC
          go_wp2
          go_ret
          exact ⟨ret_bool (by rw [← HV.out, hans.out]), rfl⟩
        · go_wp2
          go_loop [2, 6, 7, 8, 68] (fun _ v6 v7 v8 _ => RuneInv l 2 160 191 v6 v7 v8) (fun _ _ _ v8 _ => 2 + 1 - (intOf v8).toNat)
          case atStart => exact ⟨1, by omega, by omega, rfl, rfl, rfl, fun t h1 h2 => by omega⟩
          case round =>
            obtain ⟨j, hj1, hj2, rfl, rfl, rfl, hall⟩ := hrel
            have hA := Lib.hid hall
            clear hall
            by_cases hj : j ≤ 2
            · have hkj : k + j < s.size := by omega
              obtain ⟨d, hd⟩ : ∃ d : Nat, s[k + j].toNat = d := ⟨_, rfl⟩
              have hd2 : d < 256 := by rw [← hd]; exact s[k + j].toNat_lt
              have hij : ∀ W, (Instr.index 9 (.string s) (.int .i64 ((k : Int) + (j : Int)))).run Tryz.prog W = .ok (.int .u8 (d : Int)) W := fun W => by
                have := idx_str hkj hd W
                rw [Int.natCast_add] at this
                exact this
              have hd0 := drop_at hkj hd
              rw [HL.out] at hd0
              have hst := Lib.hid (okAt_at (lo := 160) (hi := 191) hd0)
              have hl1 := lowAt_le (lo := 160) (j := j) (by omega)
              have hh1 := highAt_le (hi := 191) (j := j) (by omega)
              obtain ⟨x, hx⟩ : ∃ x, lowAt 160 j = x := ⟨_, rfl⟩
              obtain ⟨y, hy⟩ : ∃ y, highAt 191 j = y := ⟨_, rfl⟩
              rw [hx] at hst hl1 ⊢
              rw [hy] at hst hh1 ⊢
              clear hd hd0 hx hy
              by_cases hok : x ≤ d ∧ d ≤ y
              · have hnew := Lib.hid (hst.out.2 hok)
                have h1 := Lib.hid hok.1
                have h2 := Lib.hid hok.2
                clear hst hok HC HL
                go_wp2_with fail
                refine Calls.mono (outside_no _ _ _ (by have := h1.out; omega) (by have := h2.out; omega) _) ?_
                rintro e w' ⟨rfl, rfl⟩
                go_wp2
                go_round
                case rel => exact ⟨j + 1, by omega, by omega, by go_num, by unfold lowAt; rw [if_neg (by omega)]; rfl, by unfold highAt; rw [if_neg (by omega)]; rfl, fun t h1 h2 => by
                  by_cases ht : t < j
                  · exact hA.out t h1 ht
                  · obtain rfl : t = j := by omega
                    exact hnew.out⟩
                case measure => simp [intOf]; omega
              · have hans := Lib.hid (HC.out.bad j hj1 hj (fun h => hok (hst.out.1 h)))
                have h1 := Lib.hid (show (d : Int) < (x : Int) ∨ (y : Int) < (d : Int) by omega)
                clear hst hok HC HL
                go_wp2_with fail
                refine Calls.mono (outside_yes _ _ _ h1.out _) ?_
                rintro e w' ⟨rfl, rfl⟩
                go_wp2
                go_ret
                exact ⟨ret_bool (by rw [← HV.out, hans.out]), rfl⟩
            · obtain rfl : j = 2 + 1 := by omega
              have hans := Lib.hid (HC.out.ok (by omega) (fun t h1 h2 => hA.out t h1 (by omega)))
              clear HC
              go_wp2
              go_round
              case rel => exact ⟨k + 3, by omega, by go_num, by rw [← HV.out, ← List.drop_drop, HL.out]; exact hans.out.symm⟩
              case measure => simp [intOf]; omega
      by_cases kd : c = 237
      · have HC := Lib.hid (Cls.of (m := 2) (lo := 128) (hi := 159) hne hc0 (by omega) (by unfold leadOf; subst kd; rfl))
        have _ : decide ((c : Int) < 128) = false := decide_eq_false (by omega)
        have _ : decide ((194 : Int) ≤ c) = true := decide_eq_true (by omega)
        have _ : decide ((c : Int) ≤ 223) = false := decide_eq_false (by omega)
        have _ : decide ((224 : Int) ≤ c) = true := decide_eq_true (by omega)
        have _ : decide ((c : Int) ≤ 239) = true := decide_eq_true (by omega)
        have _ : ((c : Int) == 224) = false := by rw [beq_eq_false_iff_ne]; omega
        have _ : ((c : Int) == 237) = true := beq_iff_eq.2 (by omega)
        clear hne hc0
        have hlo2 := lowAt_le (lo := 128) (j := 1) (by omega)
        by_cases hsh : s.size < k + 2 + 1
        · have hans := Lib.hid (HC.out.short (by omega))
          clear HC
          go_wp2
          go_ret
          exact ⟨ret_bool (by rw [← HV.out, hans.out]), rfl⟩
        · go_wp2
          go_loop [2, 6, 7, 8, 68] (fun _ v6 v7 v8 _ => RuneInv l 2 128 159 v6 v7 v8) (fun _ _ _ v8 _ => 2 + 1 - (intOf v8).toNat)
          case atStart => exact ⟨1, by omega, by omega, rfl, rfl, rfl, fun t h1 h2 => by omega⟩
          case round =>
            obtain ⟨j, hj1, hj2, rfl, rfl, rfl, hall⟩ := hrel
            have hA := Lib.hid hall
            clear hall
            by_cases hj : j ≤ 2
            · have hkj : k + j < s.size := by omega
              obtain ⟨d, hd⟩ : ∃ d : Nat, s[k + j].toNat = d := ⟨_, rfl⟩
              have hd2 : d < 256 := by rw [← hd]; exact s[k + j].toNat_lt
              have hij : ∀ W, (Instr.index 9 (.string s) (.int .i64 ((k : Int) + (j : Int)))).run Tryz.prog W = .ok (.int .u8 (d : Int)) W := fun W => by
                have := idx_str hkj hd W
                rw [Int.natCast_add] at this
                exact this
              have hd0 := drop_at hkj hd
              rw [HL.out] at hd0
              have hst := Lib.hid (okAt_at (lo := 128) (hi := 159) hd0)
              have hl1 := lowAt_le (lo := 128) (j := j) (by omega)
              have hh1 := highAt_le (hi := 159) (j := j) (by omega)
              obtain ⟨x, hx⟩ : ∃ x, lowAt 128 j = x := ⟨_, rfl⟩
              obtain ⟨y, hy⟩ : ∃ y, highAt 159 j = y := ⟨_, rfl⟩
              rw [hx] at hst hl1 ⊢
              rw [hy] at hst hh1 ⊢
              clear hd hd0 hx hy
              by_cases hok : x ≤ d ∧ d ≤ y
              · have hnew := Lib.hid (hst.out.2 hok)
                have h1 := Lib.hid hok.1
                have h2 := Lib.hid hok.2
                clear hst hok HC HL
                go_wp2_with fail
                refine Calls.mono (outside_no _ _ _ (by have := h1.out; omega) (by have := h2.out; omega) _) ?_
                rintro e w' ⟨rfl, rfl⟩
                go_wp2
                go_round
                case rel => exact ⟨j + 1, by omega, by omega, by go_num, by unfold lowAt; rw [if_neg (by omega)]; rfl, by unfold highAt; rw [if_neg (by omega)]; rfl, fun t h1 h2 => by
                  by_cases ht : t < j
                  · exact hA.out t h1 ht
                  · obtain rfl : t = j := by omega
                    exact hnew.out⟩
                case measure => simp [intOf]; omega
              · have hans := Lib.hid (HC.out.bad j hj1 hj (fun h => hok (hst.out.1 h)))
                have h1 := Lib.hid (show (d : Int) < (x : Int) ∨ (y : Int) < (d : Int) by omega)
                clear hst hok HC HL
                go_wp2_with fail
                refine Calls.mono (outside_yes _ _ _ h1.out _) ?_
                rintro e w' ⟨rfl, rfl⟩
                go_wp2
                go_ret
                exact ⟨ret_bool (by rw [← HV.out, hans.out]), rfl⟩
            · obtain rfl : j = 2 + 1 := by omega
              have hans := Lib.hid (HC.out.ok (by omega) (fun t h1 h2 => hA.out t h1 (by omega)))
              clear HC
              go_wp2
              go_round
              case rel => exact ⟨k + 3, by omega, by go_num, by rw [← HV.out, ← List.drop_drop, HL.out]; exact hans.out.symm⟩
              case measure => simp [intOf]; omega
      by_cases ke : 224 ≤ c ∧ c ≤ 239
      · have HC := Lib.hid (Cls.of (m := 2) (lo := 128) (hi := 191) hne hc0 (by omega) (by unfold leadOf; rw [if_neg (by omega), if_neg (by omega), if_pos (by omega), if_neg (by omega), if_neg (by omega)]))
        have _ : decide ((c : Int) < 128) = false := decide_eq_false (by omega)
        have _ : decide ((194 : Int) ≤ c) = true := decide_eq_true (by omega)
        have _ : decide ((c : Int) ≤ 223) = false := decide_eq_false (by omega)
        have _ : decide ((224 : Int) ≤ c) = true := decide_eq_true (by omega)
        have _ : decide ((c : Int) ≤ 239) = true := decide_eq_true (by omega)
        have _ : ((c : Int) == 224) = false := by rw [beq_eq_false_iff_ne]; omega
        have _ : ((c : Int) == 237) = false := by rw [beq_eq_false_iff_ne]; omega
        clear hne hc0
        have hlo2 := lowAt_le (lo := 128) (j := 1) (by omega)
        by_cases hsh : s.size < k + 2 + 1
        · have hans := Lib.hid (HC.out.short (by omega))
          clear HC
          go_wp2
          go_ret
          exact ⟨ret_bool (by rw [← HV.out, hans.out]), rfl⟩
        · go_wp2
          go_loop [2, 6, 7, 8, 68] (fun _ v6 v7 v8 _ => RuneInv l 2 128 191 v6 v7 v8) (fun _ _ _ v8 _ => 2 + 1 - (intOf v8).toNat)
          case atStart => exact ⟨1, by omega, by omega, rfl, rfl, rfl, fun t h1 h2 => by omega⟩
          case round =>
            obtain ⟨j, hj1, hj2, rfl, rfl, rfl, hall⟩ := hrel
            have hA := Lib.hid hall
            clear hall
            by_cases hj : j ≤ 2
            · have hkj : k + j < s.size := by omega
              obtain ⟨d, hd⟩ : ∃ d : Nat, s[k + j].toNat = d := ⟨_, rfl⟩
              have hd2 : d < 256 := by rw [← hd]; exact s[k + j].toNat_lt
              have hij : ∀ W, (Instr.index 9 (.string s) (.int .i64 ((k : Int) + (j : Int)))).run Tryz.prog W = .ok (.int .u8 (d : Int)) W := fun W => by
                have := idx_str hkj hd W
                rw [Int.natCast_add] at this
                exact this
              have hd0 := drop_at hkj hd
              rw [HL.out] at hd0
              have hst := Lib.hid (okAt_at (lo := 128) (hi := 191) hd0)
              have hl1 := lowAt_le (lo := 128) (j := j) (by omega)
              have hh1 := highAt_le (hi := 191) (j := j) (by omega)
              obtain ⟨x, hx⟩ : ∃ x, lowAt 128 j = x := ⟨_, rfl⟩
              obtain ⟨y, hy⟩ : ∃ y, highAt 191 j = y := ⟨_, rfl⟩
              rw [hx] at hst hl1 ⊢
              rw [hy] at hst hh1 ⊢
              clear hd hd0 hx hy
              by_cases hok : x ≤ d ∧ d ≤ y
              · have hnew := Lib.hid (hst.out.2 hok)
                have h1 := Lib.hid hok.1
                have h2 := Lib.hid hok.2
                clear hst hok HC HL
                go_wp2_with fail
                refine Calls.mono (outside_no _ _ _ (by have := h1.out; omega) (by have := h2.out; omega) _) ?_
                rintro e w' ⟨rfl, rfl⟩
                go_wp2
                go_round
                case rel => exact ⟨j + 1, by omega, by omega, by go_num, by unfold lowAt; rw [if_neg (by omega)]; rfl, by unfold highAt; rw [if_neg (by omega)]; rfl, fun t h1 h2 => by
                  by_cases ht : t < j
                  · exact hA.out t h1 ht
                  · obtain rfl : t = j := by omega
                    exact hnew.out⟩
                case measure => simp [intOf]; omega
              · have hans := Lib.hid (HC.out.bad j hj1 hj (fun h => hok (hst.out.1 h)))
                have h1 := Lib.hid (show (d : Int) < (x : Int) ∨ (y : Int) < (d : Int) by omega)
                clear hst hok HC HL
                go_wp2_with fail
                refine Calls.mono (outside_yes _ _ _ h1.out _) ?_
                rintro e w' ⟨rfl, rfl⟩
                go_wp2
                go_ret
                exact ⟨ret_bool (by rw [← HV.out, hans.out]), rfl⟩
            · obtain rfl : j = 2 + 1 := by omega
              have hans := Lib.hid (HC.out.ok (by omega) (fun t h1 h2 => hA.out t h1 (by omega)))
              clear HC
              go_wp2
              go_round
              case rel => exact ⟨k + 3, by omega, by go_num, by rw [← HV.out, ← List.drop_drop, HL.out]; exact hans.out.symm⟩
              case measure => simp [intOf]; omega
      by_cases kf : c = 240
      · have HC := Lib.hid (Cls.of (m := 3) (lo := 144) (hi := 191) hne hc0 (by omega) (by unfold leadOf; subst kf; rfl))
        have _ : decide ((c : Int) < 128) = false := decide_eq_false (by omega)
        have _ : decide ((194 : Int) ≤ c) = true := decide_eq_true (by omega)
        have _ : decide ((c : Int) ≤ 223) = false := decide_eq_false (by omega)
        have _ : decide ((224 : Int) ≤ c) = true := decide_eq_true (by omega)
        have _ : decide ((c : Int) ≤ 239) = false := decide_eq_false (by omega)
        have _ : decide ((240 : Int) ≤ c) = true := decide_eq_true (by omega)
        have _ : decide ((c : Int) ≤ 244) = true := decide_eq_true (by omega)
        have _ : ((c : Int) == 240) = true := beq_iff_eq.2 (by omega)
        have _ : ((c : Int) == 244) = false := by rw [beq_eq_false_iff_ne]; omega
        clear hne hc0
        have hlo2 := lowAt_le (lo := 144) (j := 1) (by omega)
        by_cases hsh : s.size < k + 3 + 1
        · have hans := Lib.hid (HC.out.short (by omega))
          clear HC
          go_wp2
          go_ret
          exact ⟨ret_bool (by rw [← HV.out, hans.out]), rfl⟩
        · go_wp2
          go_loop [2, 6, 7, 8, 68] (fun _ v6 v7 v8 _ => RuneInv l 3 144 191 v6 v7 v8) (fun _ _ _ v8 _ => 3 + 1 - (intOf v8).toNat)
          case atStart => exact ⟨1, by omega, by omega, rfl, rfl, rfl, fun t h1 h2 => by omega⟩
          case round =>
            obtain ⟨j, hj1, hj2, rfl, rfl, rfl, hall⟩ := hrel
            have hA := Lib.hid hall
            clear hall
            by_cases hj : j ≤ 3
            · have hkj : k + j < s.size := by omega
              obtain ⟨d, hd⟩ : ∃ d : Nat, s[k + j].toNat = d := ⟨_, rfl⟩
              have hd2 : d < 256 := by rw [← hd]; exact s[k + j].toNat_lt
              have hij : ∀ W, (Instr.index 9 (.string s) (.int .i64 ((k : Int) + (j : Int)))).run Tryz.prog W = .ok (.int .u8 (d : Int)) W := fun W => by
                have := idx_str hkj hd W
                rw [Int.natCast_add] at this
                exact this
              have hd0 := drop_at hkj hd
              rw [HL.out] at hd0
              have hst := Lib.hid (okAt_at (lo := 144) (hi := 191) hd0)
              have hl1 := lowAt_le (lo := 144) (j := j) (by omega)
              have hh1 := highAt_le (hi := 191) (j := j) (by omega)
              obtain ⟨x, hx⟩ : ∃ x, lowAt 144 j = x := ⟨_, rfl⟩
              obtain ⟨y, hy⟩ : ∃ y, highAt 191 j = y := ⟨_, rfl⟩
              rw [hx] at hst hl1 ⊢
              rw [hy] at hst hh1 ⊢
              clear hd hd0 hx hy
              by_cases hok : x ≤ d ∧ d ≤ y
              · have hnew := Lib.hid (hst.out.2 hok)
                have h1 := Lib.hid hok.1
                have h2 := Lib.hid hok.2
                clear hst hok HC HL
                go_wp2_with fail
                refine Calls.mono (outside_no _ _ _ (by have := h1.out; omega) (by have := h2.out; omega) _) ?_
                rintro e w' ⟨rfl, rfl⟩
                go_wp2
                go_round
                case rel => exact ⟨j + 1, by omega, by omega, by go_num, by unfold lowAt; rw [if_neg (by omega)]; rfl, by unfold highAt; rw [if_neg (by omega)]; rfl, fun t h1 h2 => by
                  by_cases ht : t < j
                  · exact hA.out t h1 ht
                  · obtain rfl : t = j := by omega
                    exact hnew.out⟩
                case measure => simp [intOf]; omega
              · have hans := Lib.hid (HC.out.bad j hj1 hj (fun h => hok (hst.out.1 h)))
                have h1 := Lib.hid (show (d : Int) < (x : Int) ∨ (y : Int) < (d : Int) by omega)
                clear hst hok HC HL
                go_wp2_with fail
                refine Calls.mono (outside_yes _ _ _ h1.out _) ?_
                rintro e w' ⟨rfl, rfl⟩
                go_wp2
                go_ret
                exact ⟨ret_bool (by rw [← HV.out, hans.out]), rfl⟩
            · obtain rfl : j = 3 + 1 := by omega
              have hans := Lib.hid (HC.out.ok (by omega) (fun t h1 h2 => hA.out t h1 (by omega)))
              clear HC
              go_wp2
              go_round
              case rel => exact ⟨k + 4, by omega, by go_num, by rw [← HV.out, ← List.drop_drop, HL.out]; exact hans.out.symm⟩
              case measure => simp [intOf]; omega
      by_cases kh : c = 244
      · have HC := Lib.hid (Cls.of (m := 3) (lo := 128) (hi := 143) hne hc0 (by omega) (by unfold leadOf; subst kh; rfl))
        have _ : decide ((c : Int) < 128) = false := decide_eq_false (by omega)
        have _ : decide ((194 : Int) ≤ c) = true := decide_eq_true (by omega)
        have _ : decide ((c : Int) ≤ 223) = false := decide_eq_false (by omega)
        have _ : decide ((224 : Int) ≤ c) = true := decide_eq_true (by omega)
        have _ : decide ((c : Int) ≤ 239) = false := decide_eq_false (by omega)
        have _ : decide ((240 : Int) ≤ c) = true := decide_eq_true (by omega)
        have _ : decide ((c : Int) ≤ 244) = true := decide_eq_true (by omega)
        have _ : ((c : Int) == 240) = false := by rw [beq_eq_false_iff_ne]; omega
        have _ : ((c : Int) == 244) = true := beq_iff_eq.2 (by omega)
        clear hne hc0
        have hlo2 := lowAt_le (lo := 128) (j := 1) (by omega)
        by_cases hsh : s.size < k + 3 + 1
        · have hans := Lib.hid (HC.out.short (by omega))
          clear HC
          go_wp2
          go_ret
          exact ⟨ret_bool (by rw [← HV.out, hans.out]), rfl⟩
        · go_wp2
          go_loop [2, 6, 7, 8, 68] (fun _ v6 v7 v8 _ => RuneInv l 3 128 143 v6 v7 v8) (fun _ _ _ v8 _ => 3 + 1 - (intOf v8).toNat)
          case atStart => exact ⟨1, by omega, by omega, rfl, rfl, rfl, fun t h1 h2 => by omega⟩
          case round =>
            obtain ⟨j, hj1, hj2, rfl, rfl, rfl, hall⟩ := hrel
            have hA := Lib.hid hall
            clear hall
            by_cases hj : j ≤ 3
            · have hkj : k + j < s.size := by omega
              obtain ⟨d, hd⟩ : ∃ d : Nat, s[k + j].toNat = d := ⟨_, rfl⟩
              have hd2 : d < 256 := by rw [← hd]; exact s[k + j].toNat_lt
              have hij : ∀ W, (Instr.index 9 (.string s) (.int .i64 ((k : Int) + (j : Int)))).run Tryz.prog W = .ok (.int .u8 (d : Int)) W := fun W => by
                have := idx_str hkj hd W
                rw [Int.natCast_add] at this
                exact this
              have hd0 := drop_at hkj hd
              rw [HL.out] at hd0
              have hst := Lib.hid (okAt_at (lo := 128) (hi := 143) hd0)
              have hl1 := lowAt_le (lo := 128) (j := j) (by omega)
              have hh1 := highAt_le (hi := 143) (j := j) (by omega)
              obtain ⟨x, hx⟩ : ∃ x, lowAt 128 j = x := ⟨_, rfl⟩
              obtain ⟨y, hy⟩ : ∃ y, highAt 143 j = y := ⟨_, rfl⟩
              rw [hx] at hst hl1 ⊢
              rw [hy] at hst hh1 ⊢
              clear hd hd0 hx hy
              by_cases hok : x ≤ d ∧ d ≤ y
              · have hnew := Lib.hid (hst.out.2 hok)
                have h1 := Lib.hid hok.1
                have h2 := Lib.hid hok.2
                clear hst hok HC HL
                go_wp2_with fail
                refine Calls.mono (outside_no _ _ _ (by have := h1.out; omega) (by have := h2.out; omega) _) ?_
                rintro e w' ⟨rfl, rfl⟩
                go_wp2
                go_round
                case rel => exact ⟨j + 1, by omega, by omega, by go_num, by unfold lowAt; rw [if_neg (by omega)]; rfl, by unfold highAt; rw [if_neg (by omega)]; rfl, fun t h1 h2 => by
                  by_cases ht : t < j
                  · exact hA.out t h1 ht
                  · obtain rfl : t = j := by omega
                    exact hnew.out⟩
                case measure => simp [intOf]; omega
              · have hans := Lib.hid (HC.out.bad j hj1 hj (fun h => hok (hst.out.1 h)))
                have h1 := Lib.hid (show (d : Int) < (x : Int) ∨ (y : Int) < (d : Int) by omega)
                clear hst hok HC HL
                go_wp2_with fail
                refine Calls.mono (outside_yes _ _ _ h1.out _) ?_
                rintro e w' ⟨rfl, rfl⟩
                go_wp2
                go_ret
                exact ⟨ret_bool (by rw [← HV.out, hans.out]), rfl⟩
            · obtain rfl : j = 3 + 1 := by omega
              have hans := Lib.hid (HC.out.ok (by omega) (fun t h1 h2 => hA.out t h1 (by omega)))
              clear HC
              go_wp2
              go_round
              case rel => exact ⟨k + 4, by omega, by go_num, by rw [← HV.out, ← List.drop_drop, HL.out]; exact hans.out.symm⟩
              case measure => simp [intOf]; omega
      by_cases kg : 240 ≤ c ∧ c ≤ 244
      · have HC := Lib.hid (Cls.of (m := 3) (lo := 128) (hi := 191) hne hc0 (by omega) (by unfold leadOf; rw [if_neg (by omega), if_neg (by omega), if_neg (by omega), if_pos (by omega), if_neg (by omega), if_neg (by omega)]))
        have _ : decide ((c : Int) < 128) = false := decide_eq_false (by omega)
        have _ : decide ((194 : Int) ≤ c) = true := decide_eq_true (by omega)
        have _ : decide ((c : Int) ≤ 223) = false := decide_eq_false (by omega)
        have _ : decide ((224 : Int) ≤ c) = true := decide_eq_true (by omega)
        have _ : decide ((c : Int) ≤ 239) = false := decide_eq_false (by omega)
        have _ : decide ((240 : Int) ≤ c) = true := decide_eq_true (by omega)
        have _ : decide ((c : Int) ≤ 244) = true := decide_eq_true (by omega)
        have _ : ((c : Int) == 240) = false := by rw [beq_eq_false_iff_ne]; omega
        have _ : ((c : Int) == 244) = false := by rw [beq_eq_false_iff_ne]; omega
        clear hne hc0
        have hlo2 := lowAt_le (lo := 128) (j := 1) (by omega)
        by_cases hsh : s.size < k + 3 + 1
        · have hans := Lib.hid (HC.out.short (by omega))
          clear HC
          go_wp2
          go_ret
          exact ⟨ret_bool (by rw [← HV.out, hans.out]), rfl⟩
        · go_wp2
          go_loop [2, 6, 7, 8, 68] (fun _ v6 v7 v8 _ => RuneInv l 3 128 191 v6 v7 v8) (fun _ _ _ v8 _ => 3 + 1 - (intOf v8).toNat)
          case atStart => exact ⟨1, by omega, by omega, rfl, rfl, rfl, fun t h1 h2 => by omega⟩
          case round =>
            obtain ⟨j, hj1, hj2, rfl, rfl, rfl, hall⟩ := hrel
            have hA := Lib.hid hall
            clear hall
            by_cases hj : j ≤ 3
            · have hkj : k + j < s.size := by omega
              obtain ⟨d, hd⟩ : ∃ d : Nat, s[k + j].toNat = d := ⟨_, rfl⟩
              have hd2 : d < 256 := by rw [← hd]; exact s[k + j].toNat_lt
              have hij : ∀ W, (Instr.index 9 (.string s) (.int .i64 ((k : Int) + (j : Int)))).run Tryz.prog W = .ok (.int .u8 (d : Int)) W := fun W => by
                have := idx_str hkj hd W
                rw [Int.natCast_add] at this
                exact this
              have hd0 := drop_at hkj hd
              rw [HL.out] at hd0
              have hst := Lib.hid (okAt_at (lo := 128) (hi := 191) hd0)
              have hl1 := lowAt_le (lo := 128) (j := j) (by omega)
              have hh1 := highAt_le (hi := 191) (j := j) (by omega)
              obtain ⟨x, hx⟩ : ∃ x, lowAt 128 j = x := ⟨_, rfl⟩
              obtain ⟨y, hy⟩ : ∃ y, highAt 191 j = y := ⟨_, rfl⟩
              rw [hx] at hst hl1 ⊢
              rw [hy] at hst hh1 ⊢
              clear hd hd0 hx hy
              by_cases hok : x ≤ d ∧ d ≤ y
              · have hnew := Lib.hid (hst.out.2 hok)
                have h1 := Lib.hid hok.1
                have h2 := Lib.hid hok.2
                clear hst hok HC HL
                go_wp2_with fail
                refine Calls.mono (outside_no _ _ _ (by have := h1.out; omega) (by have := h2.out; omega) _) ?_
                rintro e w' ⟨rfl, rfl⟩
                go_wp2
                go_round
                case rel => exact ⟨j + 1, by omega, by omega, by go_num, by unfold lowAt; rw [if_neg (by omega)]; rfl, by unfold highAt; rw [if_neg (by omega)]; rfl, fun t h1 h2 => by
                  by_cases ht : t < j
                  · exact hA.out t h1 ht
                  · obtain rfl : t = j := by omega
                    exact hnew.out⟩
                case measure => simp [intOf]; omega
              · have hans := Lib.hid (HC.out.bad j hj1 hj (fun h => hok (hst.out.1 h)))
                have h1 := Lib.hid (show (d : Int) < (x : Int) ∨ (y : Int) < (d : Int) by omega)
                clear hst hok HC HL
                go_wp2_with fail
                refine Calls.mono (outside_yes _ _ _ h1.out _) ?_
                rintro e w' ⟨rfl, rfl⟩
                go_wp2
                go_ret
                exact ⟨ret_bool (by rw [← HV.out, hans.out]), rfl⟩
            · obtain rfl : j = 3 + 1 := by omega
              have hans := Lib.hid (HC.out.ok (by omega) (fun t h1 h2 => hA.out t h1 (by omega)))
              clear HC
              go_wp2
              go_round
              case rel => exact ⟨k + 4, by omega, by go_num, by rw [← HV.out, ← List.drop_drop, HL.out]; exact hans.out.symm⟩
              case measure => simp [intOf]; omega
      have hans := Lib.hid (validD_wrong hne hc0 (by omega) (by
        unfold leadOf
        by_cases h1 : c < 194
        · rw [if_pos h1]
        · rw [if_neg h1, if_neg (by omega), if_neg (by omega), if_neg (by omega)]))
      have e0 : decide ((c : Int) < 128) = false := decide_eq_false (by omega)
      by_cases kq : c < 194
      · have e1 : decide ((194 : Int) ≤ c) = false := decide_eq_false (by omega)
        have e2 : decide ((224 : Int) ≤ c) = false := decide_eq_false (by omega)
        have e3 : decide ((240 : Int) ≤ c) = false := decide_eq_false (by omega)
        clear hne hc0 HL
        go_wp2
        go_ret
        exact ⟨ret_bool (by rw [← HV.out, hans.out]), rfl⟩
      · have e1 : decide ((194 : Int) ≤ c) = true := decide_eq_true (by omega)
        have e2 : decide ((224 : Int) ≤ c) = true := decide_eq_true (by omega)
        have e3 : decide ((240 : Int) ≤ c) = true := decide_eq_true (by omega)
        have e4 : decide ((c : Int) ≤ 223) = false := decide_eq_false (by omega)
        have e5 : decide ((c : Int) ≤ 239) = false := decide_eq_false (by omega)
        have e6 : decide ((c : Int) ≤ 244) = false := decide_eq_false (by omega)
        clear hne hc0 HL
        go_wp2
        go_ret
        exact ⟨ret_bool (by rw [← HV.out, hans.out]), rfl⟩
    · obtain rfl : k = s.size := by omega
      have hans := Lib.hid (show validD s.data.toList = true by rw [← hv, List.drop_of_length_le (by rw [Array.length_toList]; exact Nat.le_refl _)]; rfl)
      clear hv
      go_wp2
      go_ret
      exact ⟨ret_bool (by rw [hans.out]), rfl⟩
end Go.Proofs.YtcodhhabfacnjaaGreatDoor
