/- The walk of the law UpBytes. -/
import Derived.Test.YtbbagnfmoecdfaaGreatDoorUpBytesP
import Derived.Test.YtbbagnfmoecdfaaGreatDoorUpBytesR
set_option linter.unusedVariables false
set_option linter.unusedSimpArgs false
namespace Go.Proofs.YtbbagnfmoecdfaaGreatDoor
open Go.RowKit
set_option maxRecDepth 100000 in
set_option maxHeartbeats 1000000 in
theorem walkUpBytes (b : ByteArray) (a c : Int) (hb : b.size ≤ 9223372036854775807) (ha1 : -9223372036854775808 ≤ a) (ha2 : a ≤ 9223372036854775807) (hc1 : -9223372036854775808 ≤ c) (hc2 : c ≤ 9223372036854775807) (w : World) (hT : Tabs w) :
    Calls Tryz.prog 3 #[.string b, .int .i64 a, .int .i64 c] w fun e w'' => e = .returned (.bool true) ∧ Below w.heap.size w w'' := by
  have h1 := upbytes_any b a c w hb hT
  have h2 := fun W => rupbytes_any b a c W hb
  have h3 := fun W (hw : Below w.heap.size w W) => upbytes_any b 2 1 W hb (hT.below hw)
  unfold UBPost at h1 h2 h3
  rw [upbF_way (b := b) (a := 2) (c := 1) (by decide)] at h3
  obtain ⟨T, hT2⟩ : ∃ T, (upbF b a c).1 = T := ⟨_, rfl⟩
  obtain ⟨E, hE2⟩ : ∃ E, (upbF b a c).2 = E := ⟨_, rfl⟩
  rw [hT2, hE2] at h1
  simp only [hT2, hE2] at h2
  dsimp only at h3
  have H1 := Lib.hid h1
  have H2 := Lib.hid h2
  have H3 := Lib.hid h3
  clear hT h1 h2 h3 hT2 hE2 hb
  go_enter Tryz.func3, Tryz.ntmps3
  go_wp2_with fail
  refine Calls.mono H1.out ?_
  rintro e w1 ⟨rfl, hb1⟩
  have HB1 := Lib.hid hb1
  clear hb1
  go_wp2_with fail
  refine Calls.mono (H2.out _) ?_
  rintro e w2 ⟨rfl, hb2⟩
  have HB2 := Lib.hid (HB1.out.trans (hb2.mono HB1.out.size))
  clear hb2
  go_wp2_with fail
  refine Calls.mono (H3.out _ HB2.out) ?_
  rintro e w3 ⟨rfl, hb3⟩
  have HB3 := Lib.hid (HB2.out.trans (hb3.mono HB2.out.size))
  have hee : (E == E) = true := beq_self_eq_true _
  have htt : (T.toList == T.toList) = true := beq_self_eq_true _
  clear hb3
  go_wp2
  go_ret
  exact ⟨rfl, HB3.out⟩
end Go.Proofs.YtbbagnfmoecdfaaGreatDoor
