/- Of the proof of a statement: Pu16. -/
import Derived.Shelf.LaysM
import Derived.Shelf.Strconv.Lower
import Derived.Lib.Strings
import Derived.Lib.Walk
import Derived.Lib.ConvBytes
import Derived.Lib.AtoiAllMem
import Derived.Lib.Hide
import Derived.Laws.Strings3
import Derived.Laws.Closers25
import Derived.Laws.Closers25b
import Derived.WalkKit
import Derived.BigCall
import Derived.BigGuard
import Derived.Laws.BitsAllLaws
import Derived.Below
import Derived.Test.YtcodhhabfacnjaaGreatDoorSPlJp
set_option linter.unusedVariables false
set_option linter.unusedSimpArgs false
/- Two hexadecimal digits, as internal/strconv.ParseUint reads them: over any program that bears the function. -/
namespace Go.Proofs.YtcodhhabfacnjaaGreatDoor
open Go.Shelf Go.RowKit
variable {P : Program} {ρ : Ren}
/-- What the digits come to, behind acc. -/
def hxN (acc : Nat) : List UInt8 → Option Nat
  | [] => some acc
  | c :: r => match hexV c with
    | some d => hxN (16 * acc + d) r
    | none => none
def hxV (T : TypeId) : Option Nat → Value
  | some n => .tuple #[.int .u64 (n : Int), .nilIface]
  | none => .tuple #[.int .u64 0, .iface T (.int .i64 2)]
theorem hexV_lt {c : UInt8} {d : Nat} (h : hexV c = some d) : d < 16 := by
  unfold hexV at h
  repeat' split at h
  all_goals first | (injection h with h; omega) | cases h
theorem or32_fin : ∀ c : Fin 256, (c.val < 48 ∨ 57 < c.val) → ((97 ≤ (c.val ||| 32) ∧ (c.val ||| 32) ≤ 102) ∧ hexV (UInt8.ofNat c.val) = some ((c.val ||| 32) - 87)) ∨ (((c.val ||| 32) < 97 ∨ 102 < (c.val ||| 32)) ∧ hexV (UInt8.ofNat c.val) = none) := by decide +kernel
theorem or32 (c : UInt8) (h : c.toNat < 48 ∨ 57 < c.toNat) : ∃ v : Nat, bits .or .u8 (c.toNat : Int) 32 = (v : Int) ∧ v < 256 ∧ (((97 ≤ v ∧ v ≤ 102) ∧ hexV c = some (v - 87)) ∨ ((v < 97 ∨ 102 < v) ∧ hexV c = none)) := by
  have hc : c.toNat < 256 := c.toNat_lt
  refine ⟨c.toNat ||| 32, ?_, ?_, ?_⟩
  · rw [u8_or _ _ (by omega) (by omega) (by omega) (by omega)]
    simp
  · exact Nat.or_lt_two_pow (n := 8) hc (by decide)
  · have := or32_fin ⟨c.toNat, hc⟩ h
    simpa using this
set_option maxHeartbeats 32000000 in
set_option maxRecDepth 100000 in
/-- internal/strconv.ParseUint(s, 16, 8), of two bytes. -/
theorem pu16_in (L : Lays.n287 P ρ) (t : ByteArray) (h2 : t.size = 2) (w : World) :
    Calls P (ρ.f 287) #[.string t, .int .i64 16, .int .i64 8] w fun e w' => e = .returned (hxV (ρ.t 167) (hxN 0 t.data.toList)) ∧ w' = Lib.bytesWorld w (ρ.t 5) t := by
  have mixed := L.mixed
  have t9 := L.t9; have a9 := L.a9; have z9 := L.z9; have v9 := L.v9
  have t3 := L.t3; have a3 := L.a3; have z3 := L.z3; have v3 := L.v3
  have t53 := L.t53; have a53 := L.a53; have z53 := L.z53; have v53 := L.v53
  have t75 := L.t75; have a75 := L.a75; have z75 := L.z75; have v75 := L.v75
  have t4 := L.t4; have a4 := L.a4; have z4 := L.z4; have v4 := L.v4
  have t167 := L.t167; have a167 := L.a167; have z167 := L.z167; have v167 := L.v167
  have t5 := L.t5; have a5 := L.a5; have z5 := L.z5; have v5 := L.v5
  have t46 := L.t46; have a46 := L.a46; have z46 := L.z46; have v46 := L.v46
  have t37 := L.t37; have a37 := L.a37; have z37 := L.z37; have v37 := L.v37
  have t0 := L.t0; have a0 := L.a0; have z0 := L.z0; have v0 := L.v0
  have e321 : ∀ args w, (callFunc (ρ.f 321) args).run P w = .ok (.enter (ρ.f 321) args) w := enters_of L.f321 (by kernel_rfl) rfl
  have hemp : t.toList.isEmpty = false := by
    rw [← decide_eq_emptyBytes]
    exact decide_eq_false (fun h => by rw [h] at h2; cases h2)
  have hcv := Lib.run_convert_string_bytes (P := P) w (ρ.t 9) (ρ.t 37) (ρ.t 5) t (u := .string) L.t9 L.t37 L.t5
  have hB : ∀ j, j < t.size → (Lib.bytesWorld w (ρ.t 5) t).cell? ⟨w.heap.size, j, none⟩ = some (.int .u8 (t.data.toList.getD j 0).toNat) := fun j hj => Lib.bytesWorld_cell w (ρ.t 5) t j hj
  obtain ⟨W1, hW1⟩ : ∃ W1, W1 = Lib.bytesWorld w (ρ.t 5) t := ⟨_, rfl⟩
  rw [← hW1] at hcv hB ⊢
  clear hW1
  obtain ⟨bs, hL⟩ : ∃ bs, bs = t.data.toList := ⟨_, rfl⟩
  have hLn : bs.length = t.size := by rw [hL, Lib.size_eq]
  rw [← hL] at hB ⊢
  clear hL
  have hmv : IntKind.u64.wrap (IntKind.u64.wrap 256 - 1) = 255 := by
    rw [IntKind.wrap_u64, IntKind.wrap_u64]
    decide
  go_enter L.f287, Body.n287_ntmps ρ
  go_wp2
  go_loop [12, 13, 101] (fun vu vn vi => ∃ (k acc : Nat) (a : Int), vu = .bool false ∧ vn = .int .u64 a ∧ vi = .int .i64 k ∧ k ≤ t.size ∧ Hid (a = (acc : Int) ∧ acc < 16 ^ k ∧ hxN 0 bs = hxN acc (bs.drop k)))
    (fun _ _ vi => t.size - (intOf vi).toNat)
  case atStart => exact ⟨0, 0, 0, rfl, rfl, rfl, by omega, rfl, by decide, rfl⟩
  case round =>
    obtain ⟨k, acc, a, rfl, rfl, rfl, hk, hh⟩ := hrel
    obtain ⟨ha, hacc, hdec⟩ := hh.out
    clear hh
    by_cases hkn : k < t.size
    · have hc := hB k hkn
      have hdrop : bs.drop k = bs[k]'(by omega) :: bs.drop (k + 1) := List.drop_eq_getElem_cons (by omega)
      have hget : bs.getD k 0 = bs[k]'(by omega) := by simp [List.getD, List.getElem?_eq_getElem (show k < bs.length by omega)]
      rw [hdrop] at hdec
      rw [hget] at hc
      generalize bs[k]'(by omega) = c at hc hdec
      have hc256 : c.toNat < 256 := c.toNat_lt
      have hacc' : acc ≤ 15 := by
        have : k = 0 ∨ k = 1 := by omega
        rcases this with rfl | rfl
        · simp at hacc; omega
        · simp at hacc; omega
      have hpow : ∀ d, d < 16 → 16 * acc + d < 16 ^ (k + 1) := fun d hd => by rw [Nat.pow_succ]; omega
      have a0 : 0 ≤ a := by omega
      have a1 : a ≤ 15 := by omega
      clear hB hdrop hget hacc
      by_cases hdig : 48 ≤ c.toNat ∧ c.toNat ≤ 57
      · have hv : hexV c = some (c.toNat - 48) := by unfold hexV; rw [if_pos hdig]
        obtain ⟨hd0, hd1⟩ := hdig
        have hF : hxN acc (c :: bs.drop (k + 1)) = hxN (16 * acc + (c.toNat - 48)) (bs.drop (k + 1)) := by rw [hxN, hv]
        have HN : Hid (a * 16 + ((c.toNat : Int) - 48) = ((16 * acc + (c.toNat - 48) : Nat) : Int) ∧ 16 * acc + (c.toNat - 48) < 16 ^ (k + 1) ∧ hxN 0 bs = hxN (16 * acc + (c.toNat - 48)) (bs.drop (k + 1))) := Lib.hid ⟨by omega, hpow _ (by omega), hdec.trans hF⟩
        have iov : a * 16 + ((c.toNat : Int) - 48) ≤ 255 := by omega
        clear hacc' hF hdec ha hv hpow
        go_wp2
        refine ⟨⟨k + 1, 16 * acc + (c.toNat - 48), a * 16 + ((c.toNat : Int) - 48), rfl, (by first | rfl | (congr 1; omega)), (by first | rfl | (congr 1; omega)), by omega, HN⟩, by simp [intOf]; omega⟩
      · obtain ⟨v, hv0, hv1, hvc⟩ := or32 c (by omega)
        rcases hvc with ⟨⟨g0, g1⟩, hv⟩ | ⟨hg, hv⟩
        · have hF : hxN acc (c :: bs.drop (k + 1)) = hxN (16 * acc + (v - 87)) (bs.drop (k + 1)) := by rw [hxN, hv]
          have HN : Hid (a * 16 + ((v : Int) - 97 + 10) = ((16 * acc + (v - 87) : Nat) : Int) ∧ 16 * acc + (v - 87) < 16 ^ (k + 1) ∧ hxN 0 bs = hxN (16 * acc + (v - 87)) (bs.drop (k + 1))) := Lib.hid ⟨by omega, hpow _ (by omega), hdec.trans hF⟩
          have iov : a * 16 + ((v : Int) - 97 + 10) ≤ 255 := by omega
          have hne : ¬ (c.toNat : Int) = 95 := fun e => by
            have : c = 95 := UInt8.toNat_inj.1 (by have : (95 : UInt8).toNat = 95 := rfl; omega)
            subst this
            have h95 : hexV 95 = none := by decide
            rw [h95] at hv; cases hv
          clear hacc' hF hdec ha hv hpow
          go_wp2_with (go_at_fn (ρ.f 321); refine (Any.internal_strconv_lower { L with } _ _).mono ?_; rintro e w' ⟨rfl, rfl⟩; try rw [hv0])
          all_goals refine ⟨⟨k + 1, 16 * acc + (v - 87), a * 16 + ((v : Int) - 97 + 10), rfl, (by first | rfl | (congr 1; omega)), (by first | rfl | (congr 1; omega)), by omega, HN⟩, by simp [intOf]; omega⟩
        · have hF : hxN acc (c :: bs.drop (k + 1)) = none := by rw [hxN, hv]
          rw [hF] at hdec
          clear hacc' hF ha hv hpow
          go_wp2_with (go_at_fn (ρ.f 321); refine (Any.internal_strconv_lower { L with } _ _).mono ?_; rintro e w' ⟨rfl, rfl⟩; try rw [hv0])
          all_goals go_ret2
          all_goals first | exact ⟨rfl, rfl⟩ | exact ⟨by rw [hdec]; rfl, rfl⟩
    · have hkk : k = t.size := by omega
      subst hkk
      have hF : hxN acc (bs.drop t.size) = some acc := by rw [List.drop_eq_nil_of_le (by omega)]; rfl
      rw [hF] at hdec
      subst ha
      go_wp2
      go_ret2
      first | exact ⟨rfl, rfl⟩ | exact ⟨by rw [hdec]; rfl, rfl⟩
end Go.Proofs.YtcodhhabfacnjaaGreatDoor
