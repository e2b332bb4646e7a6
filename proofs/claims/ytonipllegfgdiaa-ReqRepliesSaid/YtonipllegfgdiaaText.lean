/- The walks of Text, in the program and in the reference. -/
import Derived.Test.YtonipllegfgdiaaTabs
import Derived.Test.YtonipllegfgdiaaUtf
import Derived.Test.YtonipllegfgdiaaReads
set_option linter.unusedVariables false
set_option linter.unusedSimpArgs false
namespace Go.Proofs.Ytonipllegfgdiaa
open Go.RowKit
open Go.Lib (validD)
/-- What Text gives. -/
def txtF (s : ByteArray) : ByteArray × Int := if 16 < s.size then (⟨#[]⟩, 2) else if validD s.data.toList = true then (⟨#[UInt8.ofNat s.size]⟩ ++ s, 0) else (⟨#[]⟩, 4)
def TxtPost (s : ByteArray) (w : World) (e : Ending) (w' : World) : Prop := e = .returned (.tuple #[.string (txtF s).1, .int .i64 (txtF s).2]) ∧ Below w.heap.size w w'
theorem TxtPost.large {s : ByteArray} {w w' : World} (h : 16 < s.size) (hb : Below w.heap.size w w') : TxtPost s w (.returned (.tuple #[.string ⟨#[]⟩, .int .i64 2])) w' := ⟨by unfold txtF; rw [if_pos h], hb⟩
theorem TxtPost.form {s : ByteArray} {w w' : World} (h : ¬ 16 < s.size) (hv : validD s.data.toList = false) (hb : Below w.heap.size w w') : TxtPost s w (.returned (.tuple #[.string ⟨#[]⟩, .int .i64 4])) w' := ⟨by unfold txtF; rw [if_neg h, if_neg (by rw [hv]; simp)], hb⟩
theorem TxtPost.ok {s x : ByteArray} {w w' : World} (h : ¬ 16 < s.size) (hv : validD s.data.toList = true) (hx : x = ⟨#[UInt8.ofNat s.size]⟩ ++ s) (hb : Below w.heap.size w w') : TxtPost s w (.returned (.tuple #[.string x, .int .i64 0])) w' := ⟨by unfold txtF; rw [if_neg h, if_pos hv, hx], hb⟩
set_option maxRecDepth 100000 in
set_option maxHeartbeats 1000000 in
theorem text_any (s : ByteArray) (w : World) (hs : s.size ≤ 9223372036854775807) (hT : Tabs w) : Calls Try.prog 87 #[.string s] w (TxtPost s w) := by
  by_cases h : 16 < s.size
  · have fin := Lib.hid (TxtPost.large (w := w) (w' := w) h (Below.refl _ _))
    go_enter Try.func87, Try.ntmps87
    go_wp2
    go_ret2
    exact fin.out
  · have hV := Lib.hid (valid_any s w hs hT)
    cases hv : validD s.data.toList
    · have fin := Lib.hid (fun w' => TxtPost.form (w := w) (w' := w') h hv)
      rw [hv] at hV
      go_enter Try.func87, Try.ntmps87
      go_wp2_with fail
      refine Calls.mono hV.out ?_
      rintro e w1 ⟨rfl, hb⟩
      go_wp2
      go_ret2
      exact fin.out _ hb
    · have fin := Lib.hid (fun x w' => TxtPost.ok (x := x) (w := w) (w' := w') h hv)
      rw [hv] at hV
      have hsz := Lib.hid (numL_small (n := s.size) (by omega))
      go_enter Try.func87, Try.ntmps87
      go_wp2_with fail
      refine Calls.mono hV.out ?_
      rintro e w1 ⟨rfl, hb⟩
      go_wp2_with fail
      refine Calls.mono (number_any (s.size : Int) w1 (by omega) (by omega)) ?_
      rintro e w2 ⟨rfl, hb2⟩
      rw [show ((s.size : Int)).toNat = s.size from by omega, hsz.out]
      have hb3 := Lib.hid (hb.trans (hb2.mono hb.size))
      clear hb hb2
      go_wp2
      go_ret2
      exact fin.out _ _ rfl hb3.out
set_option maxRecDepth 100000 in
set_option maxHeartbeats 1000000 in
theorem rtext_any (s : ByteArray) (w : World) (hs : s.size ≤ 9223372036854775807) : Calls Try.prog 50 #[.string s] w (TxtPost s w) := by
  by_cases h : 16 < s.size
  · have fin := Lib.hid (TxtPost.large (w := w) (w' := w) h (Below.refl _ _))
    go_enter Try.func50, Try.ntmps50
    go_wp2
    go_ret2
    exact fin.out
  · have hV := Lib.hid (rutf_any s w (by omega))
    cases hv : validD s.data.toList
    · have fin := Lib.hid (fun w' => TxtPost.form (w := w) (w' := w') h hv)
      rw [hv] at hV
      go_enter Try.func50, Try.ntmps50
      go_wp2_with fail
      refine Calls.mono hV.out ?_
      rintro e w1 ⟨rfl, rfl⟩
      go_wp2
      go_ret2
      exact fin.out _ (Below.refl _ _)
    · have fin := Lib.hid (fun x w' => TxtPost.ok (x := x) (w := w) (w' := w') h hv)
      rw [hv] at hV
      go_enter Try.func50, Try.ntmps50
      go_wp2_with fail
      refine Calls.mono hV.out ?_
      rintro e w1 ⟨rfl, rfl⟩
      go_wp2_with fail
      refine Calls.mono (chr_any (s.size : Int) w (by omega) (by omega)) ?_
      rintro e w2 ⟨rfl, hb2⟩
      rw [show ((s.size : Int)).toNat = s.size from by omega]
      have hb3 := Lib.hid hb2
      clear hb2
      go_wp2
      go_ret2
      exact fin.out _ _ rfl hb3.out
end Go.Proofs.Ytonipllegfgdiaa
