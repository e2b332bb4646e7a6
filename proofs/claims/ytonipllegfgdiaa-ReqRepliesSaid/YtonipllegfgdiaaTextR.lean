/- The walks of ReadText and TextRead. -/
import Derived.Test.YtonipllegfgdiaaTabs
import Derived.Test.YtonipllegfgdiaaUtf
import Derived.Test.YtonipllegfgdiaaReads
import Derived.Test.YtonipllegfgdiaaBase
set_option linter.unusedVariables false
set_option linter.unusedSimpArgs false
namespace Go.Proofs.Ytonipllegfgdiaa
open Go.RowKit
open Go.Lib (validD)
def TrdPost (s : ByteArray) (w : World) (e : Ending) (w' : World) : Prop := e = .returned (.tuple #[.string (txtR s).1, .int .i64 ((txtR s).2.1 : Int), .int .i64 ((txtR s).2.2 : Int)]) ∧ Below w.heap.size w w'
theorem TrdPost.mk' {s a : ByteArray} {n e : Nat} {w w' : World} (h : txtR s = (a, n, e)) (hb : Below w.heap.size w w') : TrdPost s w (.returned (.tuple #[.string a, .int .i64 (n : Int), .int .i64 (e : Int)])) w' := ⟨by rw [h], hb⟩
set_option maxRecDepth 100000 in
set_option maxHeartbeats 2000000 in
theorem readText_any (s : ByteArray) (w : World) (hs : s.size ≤ 9223372036854775807) (hT : Tabs w) : Calls Try.prog 89 #[.string s] w (TrdPost s w) := by
  obtain ⟨n, k, e, hr⟩ : ∃ n k e, rdNum s = (n, k, e) := ⟨_, _, _, rfl⟩
  have h1 := Lib.hid (read_eq hr w hs)
  obtain ⟨f1, f2, f3, f4⟩ := rdNum_facts hr
  have HR := Lib.hid hr
  clear hr
  by_cases he : e = 0
  · subst he
    have f5 := f4 rfl
    clear f4 f3
    by_cases hn : 16 < n
    · have fin := Lib.hid (TrdPost.mk' (w := w) (w' := w) (txtR_large HR.out hn) (Below.refl _ _))
      go_enter Try.func89, Try.ntmps89
      go_wp2_with fail
      refine Calls.mono h1.out ?_
      rintro x w' ⟨rfl, rfl⟩
      go_wp2
      refine bodyPost_ret (v := .tuple #[.string ⟨#[]⟩, .int .i64 0, .int .i64 2]) (by simp [results, Try.results89, go_sem]) rfl fin.out
    · by_cases hl : s.size < k + n
      · have fin := Lib.hid (TrdPost.mk' (w := w) (w' := w) (txtR_short HR.out hn hl) (Below.refl _ _))
        clear f1
        go_enter Try.func89, Try.ntmps89
        go_wp2_with fail
        refine Calls.mono h1.out ?_
        rintro x w' ⟨rfl, rfl⟩
        go_wp2
        refine bodyPost_ret (v := .tuple #[.string ⟨#[]⟩, .int .i64 0, .int .i64 3]) (by simp [results, Try.results89, go_sem]) rfl fin.out
      · clear f1
        have hV := Lib.hid (valid_any (s.extract k (k + n)) w (by rw [ByteArray.size_extract]; omega) hT)
        cases hv : validD (s.extract k (k + n)).data.toList
        · have fin := Lib.hid (fun w' => TrdPost.mk' (w := w) (w' := w') (txtR_form HR.out hn hl hv))
          rw [hv] at hV
          go_enter Try.func89, Try.ntmps89
          go_wp2_with fail
          refine Calls.mono h1.out ?_
          rintro x w' ⟨rfl, rfl⟩
          go_wp2_with fail
          refine Calls.mono hV.out ?_
          rintro x w1 ⟨rfl, hb⟩
          go_wp2
          refine bodyPost_ret (v := .tuple #[.string ⟨#[]⟩, .int .i64 0, .int .i64 4]) (by simp [results, Try.results89, go_sem]) rfl (fin.out _ hb)
        · have fin := Lib.hid (fun w' => TrdPost.mk' (w := w) (w' := w') (txtR_ok HR.out hn hl hv))
          rw [hv] at hV
          go_enter Try.func89, Try.ntmps89
          go_wp2_with fail
          refine Calls.mono h1.out ?_
          rintro x w' ⟨rfl, rfl⟩
          go_wp2_with fail
          refine Calls.mono hV.out ?_
          rintro x w1 ⟨rfl, hb⟩
          go_wp2
          refine bodyPost_ret (v := .tuple #[.string (s.extract k (k + n)), .int .i64 ((k : Int) + n), .int .i64 0]) (by simp [results, Try.results89, go_sem]) rfl ?_
          have := fin.out _ hb
          rw [Int.natCast_add] at this
          exact this
  · have fin := Lib.hid (TrdPost.mk' (w := w) (w' := w) (txtR_num HR.out he) (Below.refl _ _))
    clear f4 f1
    go_enter Try.func89, Try.ntmps89
    go_wp2_with fail
    refine Calls.mono h1.out ?_
    rintro x w' ⟨rfl, rfl⟩
    go_wp2
    refine bodyPost_ret (v := .tuple #[.string ⟨#[]⟩, .int .i64 0, .int .i64 (e : Int)]) (by simp [results, Try.results89, go_sem]) rfl fin.out
end Go.Proofs.Ytonipllegfgdiaa
