/- frame.Encode and FrameEncode, ready for callers. -/
import Derived.Test.YtdogdhlpkbcneaaFrmEncP
import Derived.Test.YtdogdhlpkbcneaaFrmEncR
namespace Go.Proofs.Ytdogdhlpkbcneaa
open Go.RowKit
theorem enc_eq {v k : Int} {p s : ByteArray} {x : Int} (h : encF v k p = (s, x)) (w : World) :
    Calls Try.prog 25 #[.agg #[.int .i64 v, .int .i64 k, .string p]] w fun e w' => e = .returned (.tuple #[.string s, .int .i64 x]) ∧ Below w.heap.size w w' :=
  (enc_any v k p w).mono fun e w' ⟨h1, h2⟩ => ⟨by rw [h1, h], h2⟩
theorem renc_eq {v k : Int} {p s : ByteArray} {x : Int} (h : encF v k p = (s, x)) (w : World) :
    Calls Try.prog 26 #[.agg #[.int .i64 v, .int .i64 k, .string p]] w fun e w' => e = .returned (.tuple #[.string s, .int .i64 x]) ∧ Below w.heap.size w w' :=
  (renc_any v k p w).mono fun e w' ⟨h1, h2⟩ => ⟨by rw [h1, h], h2⟩
theorem encF_none : encF 0 0 ⟨#[]⟩ = (⟨#[]⟩, 1) := rfl
end Go.Proofs.Ytdogdhlpkbcneaa
