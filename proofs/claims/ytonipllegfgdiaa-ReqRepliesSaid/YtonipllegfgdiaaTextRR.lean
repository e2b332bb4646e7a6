/- The walk of the reference's TextRead. -/
import Derived.Test.YtonipllegfgdiaaReadR
import Derived.Test.YtonipllegfgdiaaTextR
set_option linter.unusedVariables false
set_option linter.unusedSimpArgs false
namespace Go.Proofs.Ytonipllegfgdiaa
open Go.RowKit
open Go.Lib (validD)
theorem cut_two {s : ByteArray} {k n : Nat} (h : ¬ s.size < k + n) : (s.extract k s.size).extract 0 n = s.extract k (k + n) := by
  rw [ByteArray.extract_extract]
  congr 1
  omega
set_option maxRecDepth 100000 in
set_option maxHeartbeats 2000000 in
theorem rtextRead_any (s : ByteArray) (w : World) (hs : s.size ≤ 9223372036854775807) : Calls Try.prog 52 #[.string s] w (TrdPost s w) := by
  obtain ⟨n, k, e, hr⟩ : ∃ n k e, rdNum s = (n, k, e) := ⟨_, _, _, rfl⟩
  have h1 := Lib.hid (rread_eq hr w hs)
  obtain ⟨f1, f2, f3, f4⟩ := rdNum_facts hr
  have HR := Lib.hid hr
  clear hr
  by_cases he : e = 0
  · subst he
    have f5 := f4 rfl
    clear f4 f3
    by_cases hn : 16 < n
    · have fin := Lib.hid (TrdPost.mk' (w := w) (w' := w) (txtR_large HR.out hn) (Below.refl _ _))
      go_enter Try.func52, Try.ntmps52
      go_wp2_with fail
      refine Calls.mono h1.out ?_
      rintro x w' ⟨rfl, rfl⟩
      go_wp2
      refine bodyPost_ret (v := .tuple #[.string ⟨#[]⟩, .int .i64 0, .int .i64 2]) (by simp [results, Try.results52, go_sem]) rfl fin.out
    · by_cases hl : s.size < k + n
      · have fin := Lib.hid (TrdPost.mk' (w := w) (w' := w) (txtR_short HR.out hn hl) (Below.refl _ _))
        clear f1
        go_enter Try.func52, Try.ntmps52
        go_wp2_with fail
        refine Calls.mono h1.out ?_
        rintro x w' ⟨rfl, rfl⟩
        go_wp2
        refine bodyPost_ret (v := .tuple #[.string ⟨#[]⟩, .int .i64 0, .int .i64 3]) (by simp [results, Try.results52, go_sem]) rfl fin.out
      · clear f1
        have hV := Lib.hid (rutf_any (s.extract k (k + n)) w (by rw [ByteArray.size_extract]; omega))
        have hc := Lib.hid (cut_two hl)
        obtain ⟨t1, ht1⟩ : ∃ t1, s.extract k s.size = t1 := ⟨_, rfl⟩
        have hz1 : t1.size = s.size - k := by rw [← ht1, ByteArray.size_extract]; omega
        obtain ⟨t2, ht2⟩ : ∃ t2, t1.extract 0 n = t2 := ⟨_, rfl⟩
        have hz2 : t2.size = n := by rw [← ht2, ByteArray.size_extract]; omega
        have hc2 := Lib.hid (show t2 = s.extract k (k + n) by rw [← ht2, ← ht1]; exact hc.out)
        rw [← hc2.out] at hV
        cases hv : validD (s.extract k (k + n)).data.toList
        · have fin := Lib.hid (TrdPost.mk' (w := w) (w' := w) (txtR_form HR.out hn hl hv) (Below.refl _ _))
          rw [hc2.out, hv] at hV
          rw [← hc2.out] at hV
          go_enter Try.func52, Try.ntmps52
          go_wp2_with fail
          refine Calls.mono h1.out ?_
          rintro x w' ⟨rfl, rfl⟩
          go_wp2_with fail
          refine Calls.mono hV.out ?_
          rintro x w1 ⟨rfl, rfl⟩
          go_wp2
          refine bodyPost_ret (v := .tuple #[.string ⟨#[]⟩, .int .i64 0, .int .i64 4]) (by simp [results, Try.results52, go_sem]) rfl fin.out
        · have fin := Lib.hid (TrdPost.mk' (w := w) (w' := w) (txtR_ok HR.out hn hl hv) (Below.refl _ _))
          rw [← hc2.out] at fin
          rw [hc2.out, hv] at hV
          rw [← hc2.out] at hV
          go_enter Try.func52, Try.ntmps52
          go_wp2_with fail
          refine Calls.mono h1.out ?_
          rintro x w' ⟨rfl, rfl⟩
          go_wp2_with fail
          refine Calls.mono hV.out ?_
          rintro x w1 ⟨rfl, rfl⟩
          go_wp2
          refine bodyPost_ret (v := .tuple #[.string t2, .int .i64 ((k : Int) + n), .int .i64 0]) (by simp [results, Try.results52, go_sem, hz2]) rfl ?_
          have := fin.out
          rw [Int.natCast_add] at this
          exact this
  · have fin := Lib.hid (TrdPost.mk' (w := w) (w' := w) (txtR_num HR.out he) (Below.refl _ _))
    clear f4 f1
    go_enter Try.func52, Try.ntmps52
    go_wp2_with fail
    refine Calls.mono h1.out ?_
    rintro x w' ⟨rfl, rfl⟩
    go_wp2
    refine bodyPost_ret (v := .tuple #[.string ⟨#[]⟩, .int .i64 0, .int .i64 (e : Int)]) (by simp [results, Try.results52, go_sem]) rfl fin.out
end Go.Proofs.Ytonipllegfgdiaa
