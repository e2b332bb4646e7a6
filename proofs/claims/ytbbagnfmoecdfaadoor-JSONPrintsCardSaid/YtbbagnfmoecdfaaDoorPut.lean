/- The walks of Put and Number, in the program and in the reference. -/
import Derived.Test.YtbbagnfmoecdfaaDoorBase
set_option linter.unusedVariables false
set_option linter.unusedSimpArgs false
namespace Go.Proofs.YtbbagnfmoecdfaaDoor
open Go.RowKit

/-- What Put leaves: a row of the call's own with the number's bytes behind. -/
def PutPost (base : Nat) (A : Option Addr) (m c : Nat) (l : List UInt8) (w : World) (e : Ending) (w' : World) : Prop :=
  ∃ A' m' c', e = .returned (.slice A' m' c') ∧ w'.ownsRow base 5 1 (.slice A' m' c') m' (bytesV l) ∧ Grew w w' (.slice A m c) (.slice A' m' c')
def PutInv (base : Nat) (A : Option Addr) (m c : Nat) (l : List UInt8) (w : World) (v i : Value) (wr : World) : Prop :=
  ∃ (A' : Option Addr) (m' c' : Nat) (k : Int) (l' : List UInt8), v = .slice A' m' c' ∧ i = .int .u64 k ∧ 0 ≤ k ∧ k < 18446744073709551616 ∧ l = l' ++ numL k.toNat ∧ wr.ownsRow base 5 1 (.slice A' m' c') m' (bytesV l') ∧ Grew w wr (.slice A m c) (.slice A' m' c')
theorem put_any (base : Nat) (A : Option Addr) (m c : Nat) (l : List UInt8) (n : Int) (w : World) (h0 : 0 ≤ n) (h1 : n < 18446744073709551616) (hown : w.ownsRow base 5 1 (.slice A m c) m (bytesV l)) (hm : m ≤ 140737488355000) (hb : base ≤ w.heap.size) :
    Calls Tryd.prog 61 #[.slice A m c, .int .u64 n] w (PutPost base A m c (l ++ numL n.toNat) w) := by
  go_enter Tryd.func61, Tryd.ntmps61
  go_wp2
  go_loopw [0, 1] (fun v i wr => PutInv base A m c (l ++ numL n.toNat) w v i wr) (fun _ i _ => (intOf i).toNat)
  case atStart => exact ⟨A, m, c, n, l, rfl, rfl, h0, h1, rfl, hown, Grew.refl _ _⟩
  case round =>
    obtain ⟨A', m', c', k, l', rfl, rfl, hk0, hk, hl, ho, hg⟩ := hrel
    have hlen : m' ≤ m + 11 := by
      have e1 := congrArg List.length hl
      have e2 : l'.length = m' := by have := ho.1; simpa [bytesV] using this
      have e3 : l.length = m := by have := hown.1; simpa [bytesV] using this
      have := numL_length n.toNat
      have := numL_length k.toNat
      simp at e1; omega
    have Hl := Lib.hid hl
    have Hm := Lib.hid (show m' + 1 ≤ 140737488355328 from by omega)
    have hbr : base ≤ wr.heap.size := Nat.le_trans hb hg.grown.size
    clear hl hown hm hlen h0 h1
    by_cases hlt : 128 ≤ k
    · have hbt := Lib.hid (byte_low k (by omega) (by omega))
      have hst := Lib.hid (show numL k.toNat = UInt8.ofNat (k.toNat % 128 + 128) :: numL (k / 128).toNat from by
        rw [numL_step (by omega) (by omega), show k.toNat / 128 = (k / 128).toNat from by omega])
      go_wp2_with (at_builtin; refine push_u8 rfl _ _ rfl base _ _ _ _ rfl ho _ (UInt8.ofNat (k.toNat % 128 + 128)) hbt.out rfl Hm.out hbr ?_; intro A2 c2 w2 ho2 hg2)
      go_roundw
      case rel => exact ⟨A2, m' + 1, c2, k / 128, l' ++ [UInt8.ofNat (k.toNat % 128 + 128)], rfl, rfl, by omega, by omega, by rw [Hl.out, hst.out]; simp, ho2, hg.trans hg2⟩
      case measure => simp [intOf]; omega
    · have hbt := Lib.hid (show k = (((UInt8.ofNat k.toNat).toNat : Nat) : Int) from by rw [UInt8.toNat_ofNat']; omega)
      have hst := Lib.hid (show numL k.toNat = [UInt8.ofNat k.toNat] from numL_small (by omega))
      go_wp2_with (at_builtin; refine push_u8 rfl _ _ rfl base _ _ _ _ rfl ho _ (UInt8.ofNat k.toNat) hbt.out rfl Hm.out hbr ?_; intro A2 c2 w2 ho2 hg2)
      go_ret
      exact ⟨A2, m' + 1, c2, rfl, by rw [Hl.out, hst.out]; exact ho2, hg.trans hg2⟩

def NumPost (n : Nat) (w : World) (e : Ending) (w' : World) : Prop := e = .returned (.string ⟨(numL n).toArray⟩) ∧ Below w.heap.size w w'
theorem number_any (n : Int) (w : World) (h0 : 0 ≤ n) (h1 : n < 18446744073709551616) :
    Calls Tryd.prog 78 #[.int .u64 n] w (NumPost n.toNat w) := by
  go_enter Tryd.func78, Tryd.ntmps78
  go_wp2_with fail
  refine Calls.mono (put_any w.heap.size none 0 0 [] n w h0 h1 (World.ownsRow_nil _ _ _ _) (by omega) (Nat.le_refl _)) ?_
  rintro e w' ⟨A', m', c', rfl, ho, hg⟩
  have hb : Below w.heap.size w w' := hg.below (Nat.le_refl _) (fun g h => by simp [Value.ownBlock] at h)
  have hrun := run_string_own Tryd.underlying43 Tryd.underlying5 Tryd.underlying9 ho
  clear ho hg
  go_wp2
  go_ret
  exact ⟨rfl, hb⟩

/-- chr: one byte. -/
theorem chr_any (n : Int) (w : World) (h0 : 0 ≤ n) (h1 : n < 18446744073709551616) :
    Calls Tryd.prog 80 #[.int .u64 n] w fun e w' => e = .returned (.string ⟨#[UInt8.ofNat n.toNat]⟩) ∧ Below w.heap.size w w' := by
  have hb : n % 256 = (((UInt8.ofNat n.toNat).toNat : Nat) : Int) := by rw [UInt8.toNat_ofNat']; omega
  have hrun := run_string_new (P := Tryd.prog) (w := w) (n := 1) (c := 1) (cs := #[.int .u8 (n % 256)]) (l := [UInt8.ofNat n.toNat]) Tryd.underlying43 Tryd.underlying5 Tryd.underlying9 (by simp [bytesV, hb]) rfl
  clear hb
  go_enter Tryd.func80, Tryd.ntmps80
  go_wp2
  go_ret
  exact ⟨rfl, (Below.refl _ _).alloc (Nat.le_refl _) _⟩
end Go.Proofs.YtbbagnfmoecdfaaDoor
