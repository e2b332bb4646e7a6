/- The walks of frame.Encode and FrameEncode. -/
import Derived.Test.YtbbagnfmoecdfaaDoorSum
import Derived.Test.YtbbagnfmoecdfaaDoorPlFrame
import Derived.Test.YtbbagnfmoecdfaaDoorOutside
import Derived.Deep.RegionHeld3
set_option linter.unusedVariables false
set_option linter.unusedSimpArgs false
namespace Go.Proofs.YtbbagnfmoecdfaaDoor
open Go.RowKit

theorem within_yes (n lo hi : Int) (h1 : lo ≤ n) (h2 : n ≤ hi) (w : World) : Calls Tryd.prog 117 #[.int .i64 n, .int .i64 lo, .int .i64 hi] w fun e w' => e = .returned (.bool true) ∧ w = w' := by
  have e2 : decide (n ≤ hi) = true := decide_eq_true h2
  go_enter Tryd.func117, Tryd.ntmps117
  go_wp2
  go_ret
  exact ⟨rfl, rfl⟩
theorem within_no (n lo hi : Int) (h : n < lo ∨ hi < n) (w : World) : Calls Tryd.prog 117 #[.int .i64 n, .int .i64 lo, .int .i64 hi] w fun e w' => e = .returned (.bool false) ∧ w = w' := by
  by_cases h1 : lo ≤ n
  · have h2 : hi < n := by omega
    have e2 : decide (n ≤ hi) = false := decide_eq_false (by omega)
    clear h
    go_enter Tryd.func117, Tryd.ntmps117
    go_wp2
    go_ret
    exact ⟨rfl, rfl⟩
  · have e1 : decide (lo ≤ n) = false := decide_eq_false h1
    clear h
    go_enter Tryd.func117, Tryd.ntmps117
    go_wp2
    go_ret
    exact ⟨rfl, rfl⟩
theorem isVersion_yes (n : Int) (h1 : 1 ≤ n) (h2 : n ≤ 3) (w : World) : Calls Tryd.prog 76 #[.int .i64 n] w fun e w' => e = .returned (.bool true) ∧ w = w' := by
  go_enter Tryd.func76, Tryd.ntmps76
  go_wp2_with (go_at_call 117; refine (within_yes _ _ _ h1 h2 _).mono ?_; rintro e w' ⟨rfl, rfl⟩)
  go_ret
  exact ⟨rfl, rfl⟩
theorem isVersion_no (n : Int) (h : n < 1 ∨ 3 < n) (w : World) : Calls Tryd.prog 76 #[.int .i64 n] w fun e w' => e = .returned (.bool false) ∧ w = w' := by
  have H := Lib.hid h
  clear h
  go_enter Tryd.func76, Tryd.ntmps76
  go_wp2_with (go_at_call 117; refine (within_no _ _ _ H.out _).mono ?_; rintro e w' ⟨rfl, rfl⟩)
  go_ret
  exact ⟨rfl, rfl⟩
theorem isKind_yes (n : Int) (h1 : 1 ≤ n) (h2 : n ≤ 4) (w : World) : Calls Tryd.prog 77 #[.int .i64 n] w fun e w' => e = .returned (.bool true) ∧ w = w' := by
  go_enter Tryd.func77, Tryd.ntmps77
  go_wp2_with (go_at_call 117; refine (within_yes _ _ _ h1 h2 _).mono ?_; rintro e w' ⟨rfl, rfl⟩)
  go_ret
  exact ⟨rfl, rfl⟩
theorem isKind_no (n : Int) (h : n < 1 ∨ 4 < n) (w : World) : Calls Tryd.prog 77 #[.int .i64 n] w fun e w' => e = .returned (.bool false) ∧ w = w' := by
  have H := Lib.hid h
  clear h
  go_enter Tryd.func77, Tryd.ntmps77
  go_wp2_with (go_at_call 117; refine (within_no _ _ _ H.out _).mono ?_; rintro e w' ⟨rfl, rfl⟩)
  go_ret
  exact ⟨rfl, rfl⟩
set_option maxRecDepth 100000 in
/-- The program's four bytes of a sum. -/
theorem fsum_any (s : ByteArray) (w : World) (hs : s.size ≤ 9223372036854775807) : Calls Tryd.prog 79 #[.string s] w fun e w' => e = .returned (.string ⟨(sum4 s.data.toList).toArray⟩) ∧ Below w.heap.size w w' := by
  have hlt := crcSum_lt s.data.toList
  go_enter Tryd.func79, Tryd.ntmps79
  go_wp2_with fail
  refine Calls.mono (sum_any s w hs) ?_
  rintro e w1 ⟨rfl, hb⟩
  have Hn := Lib.hid (show sum4 s.data.toList = [UInt8.ofNat (crcSum s.data.toList / 16777216), UInt8.ofNat (crcSum s.data.toList / 65536), UInt8.ofNat (crcSum s.data.toList / 256), UInt8.ofNat (crcSum s.data.toList)] from rfl)
  generalize crcSum s.data.toList = n at hlt Hn
  have b := fun (m : Nat) => show (m : Int) % 256 = (((UInt8.ofNat m).toNat : Nat) : Int) from by rw [UInt8.toNat_ofNat']; omega
  have hrun := run_string_new (P := Tryd.prog) (w := w1) (n := 4) (c := 4) (cs := #[.int .u8 ((n : Int) / 16777216), .int .u8 ((n : Int) / 65536 % 256), .int .u8 ((n : Int) / 256 % 256), .int .u8 ((n : Int) % 256)]) (l := [UInt8.ofNat (n / 16777216), UInt8.ofNat (n / 65536), UInt8.ofNat (n / 256), UInt8.ofNat n]) Tryd.underlying43 Tryd.underlying5 Tryd.underlying9 (by
    simp only [bytesV, List.map_cons, List.map_nil]
    rw [← b, ← b, ← b, ← b]
    have e1 : (((n / 16777216 : Nat) : Int)) % 256 = (n : Int) / 16777216 := by omega
    have e2 : (((n / 65536 : Nat) : Int)) % 256 = (n : Int) / 65536 % 256 := by omega
    have e3 : (((n / 256 : Nat) : Int)) % 256 = (n : Int) / 256 % 256 := by omega
    rw [e1, e2, e3]) rfl
  have HR := Lib.hid hrun
  clear b hrun
  go_wp2_with fail
  rw [HR.out]
  go_wp2
  go_ret
  exact ⟨ret_str (by rw [Hn.out]), hb.alloc hb.size _⟩
set_option maxRecDepth 100000 in
/-- The reference's. -/
theorem rfsum_any (s : ByteArray) (w : World) (hs : s.size ≤ 9223372036854775807) : Calls Tryd.prog 82 #[.string s] w fun e w' => e = .returned (.string ⟨(sum4 s.data.toList).toArray⟩) ∧ Below w.heap.size w w' := by
  have hlt := crcSum_lt s.data.toList
  go_enter Tryd.func82, Tryd.ntmps82
  go_wp2_with fail
  refine Calls.mono (rsum_any s w hs) ?_
  rintro e w1 ⟨rfl, rfl⟩
  have Hn := Lib.hid (show sum4 s.data.toList = [UInt8.ofNat (crcSum s.data.toList / 16777216), UInt8.ofNat (crcSum s.data.toList / 65536), UInt8.ofNat (crcSum s.data.toList / 256), UInt8.ofNat (crcSum s.data.toList)] from rfl)
  generalize crcSum s.data.toList = n at hlt Hn
  go_wp2_with fail
  refine Calls.mono (chr_any ((n : Int) / 16777216) _ (by omega) (by omega)) ?_
  rintro e w1 ⟨rfl, hb1⟩
  go_wp2_with fail
  refine Calls.mono (chr_any ((n : Int) / 65536) _ (by omega) (by omega)) ?_
  rintro e w2 ⟨rfl, hb2⟩
  have hb3 := hb1.trans (hb2.mono hb1.size)
  clear hb1 hb2
  go_wp2_with fail
  refine Calls.mono (chr_any ((n : Int) / 256) _ (by omega) (by omega)) ?_
  rintro e w3 ⟨rfl, hb4⟩
  have hb5 := hb3.trans (hb4.mono hb3.size)
  clear hb3 hb4
  go_wp2_with fail
  refine Calls.mono (chr_any (n : Int) _ (by omega) (by omega)) ?_
  rintro e w4 ⟨rfl, hb6⟩
  have hb := hb5.trans (hb6.mono hb5.size)
  clear hb5 hb6
  go_wp2
  go_ret
  exact ⟨ret_str (by rw [Hn.out]; simp [ByteArray.mk_append_mk]), hb⟩
/-- What both Encodes return. -/
def encF (v k : Int) (p : ByteArray) : ByteArray × Int :=
  if v < 1 ∨ 3 < v ∨ k < 1 ∨ 4 < k then (⟨#[]⟩, 1) else if 6000 < p.size then (⟨#[]⟩, 2) else (⟨(frmL v.toNat k.toNat p.data.toList).toArray⟩, 0)
def EncPost (v k : Int) (p : ByteArray) (w : World) (e : Ending) (w' : World) : Prop := e = .returned (.tuple #[.string (encF v k p).1, .int .i64 (encF v k p).2]) ∧ Below w.heap.size w w'
theorem EncPost.arg {v k : Int} {p : ByteArray} {w w' : World} (h : v < 1 ∨ 3 < v ∨ k < 1 ∨ 4 < k) (hb : Below w.heap.size w w') : EncPost v k p w (.returned (.tuple #[.string ⟨#[]⟩, .int .i64 1])) w' := ⟨by unfold encF; rw [if_pos h], hb⟩
theorem EncPost.large {v k : Int} {p : ByteArray} {w w' : World} (h : ¬ (v < 1 ∨ 3 < v ∨ k < 1 ∨ 4 < k)) (h2 : 6000 < p.size) (hb : Below w.heap.size w w') : EncPost v k p w (.returned (.tuple #[.string ⟨#[]⟩, .int .i64 2])) w' := ⟨by unfold encF; rw [if_neg h, if_pos h2], hb⟩
theorem EncPost.ok {v k : Int} {p : ByteArray} {w w' : World} {s : ByteArray} (h : ¬ (v < 1 ∨ 3 < v ∨ k < 1 ∨ 4 < k)) (h2 : ¬ 6000 < p.size) (hs : s.data.toList = frmL v.toNat k.toNat p.data.toList) (hb : Below w.heap.size w w') : EncPost v k p w (.returned (.tuple #[.string s, .int .i64 0])) w' :=
  ⟨by unfold encF; rw [if_neg h, if_neg h2, ← hs], hb⟩
end Go.Proofs.YtbbagnfmoecdfaaDoor
