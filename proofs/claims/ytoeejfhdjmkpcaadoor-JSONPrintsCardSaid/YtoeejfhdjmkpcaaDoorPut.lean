/- The walks of Put and Number, in the program and in the reference. -/
import Derived.Test.YtoeejfhdjmkpcaaDoorBase
set_option linter.unusedVariables false
set_option linter.unusedSimpArgs false
namespace Go.Proofs.YtoeejfhdjmkpcaaDoor
open Go.RowKit

/-- What Put leaves: a row of the call's own with the number's bytes behind. -/
def PutPost (base : Nat) (A : Option Addr) (m c : Nat) (l : List UInt8) (w : World) (e : Ending) (w' : World) : Prop :=
  ∃ A' m' c', e = .returned (.slice A' m' c') ∧ w'.ownsRow base 5 1 (.slice A' m' c') m' (bytesV l) ∧ Grew w w' (.slice A m c) (.slice A' m' c')
def PutInv (base : Nat) (A : Option Addr) (m c : Nat) (l : List UInt8) (w : World) (v i : Value) (wr : World) : Prop :=
  ∃ (A' : Option Addr) (m' c' : Nat) (k : Int) (l' : List UInt8), v = .slice A' m' c' ∧ i = .int .u64 k ∧ 0 ≤ k ∧ k < 18446744073709551616 ∧ l = l' ++ numL k.toNat ∧ wr.ownsRow base 5 1 (.slice A' m' c') m' (bytesV l') ∧ Grew w wr (.slice A m c) (.slice A' m' c')
def NumPost (n : Nat) (w : World) (e : Ending) (w' : World) : Prop := e = .returned (.string ⟨(numL n).toArray⟩) ∧ Below w.heap.size w w'
/-- chr: one byte. -/
theorem chr_any (n : Int) (w : World) (h0 : 0 ≤ n) (h1 : n < 18446744073709551616) :
    Calls Tryd.prog 27 #[.int .u64 n] w fun e w' => e = .returned (.string ⟨#[UInt8.ofNat n.toNat]⟩) ∧ Below w.heap.size w w' := by
  have hb : n % 256 = (((UInt8.ofNat n.toNat).toNat : Nat) : Int) := by rw [UInt8.toNat_ofNat']; omega
  have hrun := run_string_new (P := Tryd.prog) (w := w) (n := 1) (c := 1) (cs := #[.int .u8 (n % 256)]) (l := [UInt8.ofNat n.toNat]) Tryd.underlying47 Tryd.underlying5 Tryd.underlying9 (by simp [bytesV, hb]) rfl
  clear hb
  go_enter Tryd.func27, Tryd.ntmps27
  go_wp2
  go_ret
  exact ⟨rfl, (Below.refl _ _).alloc (Nat.le_refl _) _⟩
end Go.Proofs.YtoeejfhdjmkpcaaDoor
