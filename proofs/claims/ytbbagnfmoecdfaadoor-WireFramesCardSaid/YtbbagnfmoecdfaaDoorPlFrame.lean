/- Frames: plain. -/
import Derived.Test.YtbbagnfmoecdfaaDoorPlSum
set_option linter.unusedVariables false
set_option linter.unusedSimpArgs false
namespace Go.Proofs.YtbbagnfmoecdfaaDoor
/-- Four bytes of a sum. -/
def sum4 (l : List UInt8) : List UInt8 := [UInt8.ofNat (crcSum l / 16777216), UInt8.ofNat (crcSum l / 65536), UInt8.ofNat (crcSum l / 256), UInt8.ofNat (crcSum l)]
theorem crcSum_lt (l : List UInt8) : crcSum l < 4294967296 := by unfold crcSum; omega
/-- A frame's bytes but for the sum. -/
def frmB (v k : Nat) (p : List UInt8) : List UInt8 := [66, 75, UInt8.ofNat v, UInt8.ofNat k] ++ numL p.length ++ p
def frmL (v k : Nat) (p : List UInt8) : List UInt8 := frmB v k p ++ sum4 (frmB v k p)
theorem frmB_len (v k : Nat) (p : List UInt8) : (frmB v k p).length ≤ p.length + 15 := by
  have := numL_length p.length
  simp [frmB]; omega
end Go.Proofs.YtbbagnfmoecdfaaDoor
