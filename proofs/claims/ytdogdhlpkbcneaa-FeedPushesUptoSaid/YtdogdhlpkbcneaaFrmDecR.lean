/- The walk of the reference FrameDecode. -/
import Derived.Test.YtdogdhlpkbcneaaFrmDecR1
import Derived.Lib.QuietBelow
namespace Go.Proofs.Ytdogdhlpkbcneaa
open Go.RowKit
open Go.Sort (grow)
set_option maxRecDepth 100000 in
set_option maxHeartbeats 4000000 in
theorem rdec_any (s : ByteArray) (w : World) (hs : s.size ≤ 9223372036854775807) :
    Calls Try.prog 28 #[.string s] w (DecPost s w) := by
  by_cases hd : decH s = 0
  case neg => exact rdec_head s w hs hd
  have ht4 := headTo_of hd
  clear hd
  have hb0 := (ht4.h0 (by omega)).2
  have hb1 := (ht4.h1 (by omega)).2
  have hb2 := (ht4.h2 (by omega)).2
  have hb3 := (ht4.h3 (by omega)).2
  have h4s := (decH_ok ht4).2
  have hH := Lib.hid (decH_ok ht4)
  clear ht4
  have e0 : ((byteAt s 0 : Int) != 66) = false := by simp; omega
  have e0' : ((byteAt s 0 : Int) == 66) = true := by simp; omega
  have e1 : ((byteAt s 1 : Int) != 75) = false := by simp; omega
  have i0 : ∀ W : World, (Instr.index 9 (.string s) (.int .i64 0)).run Try.prog W = .ok (.int .u8 ((byteAt s 0 : Nat) : Int)) W := byte_num (k := 0) (by omega)
  have i1 : ∀ W : World, (Instr.index 9 (.string s) (.int .i64 1)).run Try.prog W = .ok (.int .u8 ((byteAt s 1 : Nat) : Int)) W := byte_num (k := 1) (by omega)
  have i2 : ∀ W : World, (Instr.index 9 (.string s) (.int .i64 2)).run Try.prog W = .ok (.int .u8 ((byteAt s 2 : Nat) : Int)) W := byte_num (k := 2) (by omega)
  have i3 : ∀ W : World, (Instr.index 9 (.string s) (.int .i64 3)).run Try.prog W = .ok (.int .u8 ((byteAt s 3 : Nat) : Int)) W := byte_num (k := 3) (by omega)
  have v2 : IntKind.i64.wrap (byteAt s 2 : Int) = byteAt s 2 := by rw [IntKind.wrap_i64]; have := byteAt_lt s 2; omega
  have v3 : IntKind.i64.wrap (byteAt s 3 : Int) = byteAt s 3 := by rw [IntKind.wrap_i64]; have := byteAt_lt s 3; omega
  have l0 : decide ((0 : Int) < (s.size : Int)) = true := decide_eq_true (by omega)
  have l1 : decide ((1 : Int) < (s.size : Int)) = true := decide_eq_true (by omega)
  have l2 : decide ((2 : Int) < (s.size : Int)) = true := decide_eq_true (by omega)
  have l3 : decide ((3 : Int) < (s.size : Int)) = true := decide_eq_true (by omega)
  have b1 := Lib.hid (show (1 : Int) ≤ (byteAt s 2 : Int) from by omega)
  have b2 := Lib.hid (show (byteAt s 2 : Int) ≤ 3 from by omega)
  have c1 := Lib.hid (show (1 : Int) ≤ (byteAt s 3 : Int) from by omega)
  have c2 := Lib.hid (show (byteAt s 3 : Int) ≤ 4 from by omega)
  have l4 : decide ((s.size : Int) < 4) = false := decide_eq_false (by omega)
  have hT := Lib.hid (show (s.extract 4 s.size).size ≤ 9223372036854775807 from by rw [ByteArray.size_extract]; omega)
  clear hb0 hb1 hb2 hb3
  obtain ⟨n, k, x, hrd⟩ : ∃ n k x, rdNum (s.extract 4 s.size) = (n, k, x) := ⟨_, _, _, rfl⟩
  have hr := Lib.hid hrd
  obtain ⟨f1, f2, f3, f4⟩ := rdNum_facts hrd
  clear hrd
  go_enter Try.func28, Try.ntmps28
  go_wp2_with fail
  refine Calls.mono (outside_no _ _ _ b1.out b2.out _) ?_
  rintro e w' ⟨rfl, rfl⟩
  go_wp2_with fail
  refine Calls.mono (outside_no _ _ _ c1.out c2.out _) ?_
  rintro e w' ⟨rfl, rfl⟩
  go_wp2_with fail
  refine Calls.mono (rread_eq hr.out _ hT.out) ?_
  rintro e w' ⟨rfl, rfl⟩
  clear b1 b2 c1 c2 i0 i1 i2 i3 v2 v3 l0 l1 l2 l3 l4 e0 e0' e1
  by_cases hx : x = 0
  · subst hx
    have f5 := f4 rfl
    clear f4 f3
    have f6 : k ≤ s.size - 4 := by have := f5.2; rw [ByteArray.size_extract] at this; omega
    have f7 := f5.1
    clear f5
    by_cases hn : 6000 < n
    · have fin := Lib.hid (fun (w' : World) => DecPost.mk' (w := w) (w' := w') (decF_large hH.out.1 hr.out hn))
      clear f1
      go_wp2_with fail
      refine Calls.mono (rnone_any _ _) ?_
      rintro e w' ⟨rfl, rfl⟩
      go_wp2
      refine bodyPost_ret (v := .tuple #[.agg #[.int .i64 0, .int .i64 0, .string ⟨#[]⟩], .int .i64 0, .int .i64 2]) (by simp [results, Try.results28, go_sem]) rfl ?_
      exact fin.out _ (by repeat (first | exact Below.refl _ _ | refine Below.alloc ?_ (by first | (simp; done) | (simp; omega)) _ | refine Below.setCell ?_ (by first | (simp; done) | (simp; omega)) _))
    by_cases hl : s.size < 8 + k + n
    · have fin := Lib.hid (fun (w' : World) => DecPost.mk' (w := w) (w' := w') (decF_short hH.out.1 hr.out hn hl))
      clear f1
      go_wp2_with fail
      refine Calls.mono (rnone_any _ _) ?_
      rintro e w' ⟨rfl, rfl⟩
      go_wp2
      refine bodyPost_ret (v := .tuple #[.agg #[.int .i64 0, .int .i64 0, .string ⟨#[]⟩], .int .i64 0, .int .i64 3]) (by simp [results, Try.results28, go_sem]) rfl ?_
      exact fin.out _ (by repeat (first | exact Below.refl _ _ | refine Below.alloc ?_ (by first | (simp; done) | (simp; omega)) _ | refine Below.setCell ?_ (by first | (simp; done) | (simp; omega)) _))
    clear f1
    have q1 : ∀ W : World, (Instr.slice 9 (.string s) none (some (.int .i64 (4 + (k : Int) + n))) none).run Try.prog W = .ok (.string (s.extract 0 (4 + k + n))) W := fun W => by
      rw [run_slice_string_to_if (P := Try.prog) (w := W) 9 s .i64 (4 + (k : Int) + n) Try.underlying9, if_pos ⟨by omega, by omega⟩, show (4 + (k : Int) + n).toNat = 4 + k + n from by omega]
    have q2 : ∀ W : World, (Instr.slice 9 (.string s) (some (.int .i64 (4 + (k : Int) + n))) (some (.int .i64 (4 + (k : Int) + n + 4))) none).run Try.prog W = .ok (.string (s.extract (4 + k + n) (8 + k + n))) W := fun W => by
      rw [run_slice_string W 9 s .i64 .i64 (4 + (k : Int) + n) (4 + (k : Int) + n + 4) Try.underlying9 (by omega) (by omega) (by omega), show (4 + (k : Int) + n).toNat = 4 + k + n from by omega, show (4 + (k : Int) + n + 4).toNat = 8 + k + n from by omega]
    have q3 : IntKind.i64.wrap (4 + (k : Int) + n + 4 - 4) = 4 + (k : Int) + n := by rw [IntKind.wrap_i64]; omega
    have q3' : IntKind.i64.wrap (4 + (k : Int) + n) = 4 + (k : Int) + n := by rw [IntKind.wrap_i64]; omega
    have q4 := Lib.hid (show (s.extract 0 (4 + k + n)).size ≤ 9223372036854775807 from by rw [ByteArray.size_extract]; omega)
    go_wp2_with fail
    generalize hw0 : (w.alloc (.cells #[.int .i64 0, .int .i64 0, .string ⟨#[]⟩] 40)).alloc (.cells #[.int .i64 (byteAt s 2), .int .i64 (byteAt s 3), .string ⟨#[]⟩] 40) = w0
    have hb0 := Lib.hid (show Below w.heap.size w w0 from by rw [← hw0]; exact ((Below.refl _ _).alloc (Nat.le_refl _) _).alloc (by simp) _)
    have hB := Lib.hid (show Blk w0 w.heap.size 40 #[.int .i64 0, .int .i64 0, .string ⟨#[]⟩] from by rw [← hw0]; exact Blk.alloc (heap_alloc_new w _) _)
    have hC := Lib.hid (show Blk w0 (w.heap.size + 1) 40 #[.int .i64 (byteAt s 2), .int .i64 (byteAt s 3), .string ⟨#[]⟩] from by
      rw [← hw0]
      have := heap_alloc_new (w.alloc (.cells #[.int .i64 0, .int .i64 0, .string ⟨#[]⟩] 40)) (.cells #[.int .i64 (byteAt s 2), .int .i64 (byteAt s 3), .string ⟨#[]⟩] 40)
      simpa [Blk] using this)
    clear hw0
    refine wp_region_quiet_below (by kernel_rfl) (by kernel_rfl) ?_
    repeat (quiet_step ((go_at_call 43; exact Calls.regrown_of (rfsum_any _ _ q4.out))))
    refine wpQuiet_nil ?_
    intro _ hw'
    obtain ⟨⟨nq, osq⟩, hw''⟩ := hw'
    subst hw''
    have hx1 := below_regrown w0 nq osq
    dsimp only
    generalize grow (redrawn w0 nq) osq = w1 at hx1
    have hb1 := Lib.hid (hb0.out.trans (hx1.mono hb0.out.size))
    have hB1 : Blk w1 w.heap.size 40 #[.int .i64 0, .int .i64 0, .string ⟨#[]⟩] := hB.out.below hx1 hB.out.lt
    have hC1 : Blk w1 (w.heap.size + 1) 40 #[.int .i64 (byteAt s 2), .int .i64 (byteAt s 3), .string ⟨#[]⟩] := hC.out.below hx1 hC.out.lt
    have z0 : w1.cell? ⟨w.heap.size, 0, none⟩ = some (.int .i64 0) := hB1.cell 0
    have z1 : w1.cell? ⟨w.heap.size, 1, none⟩ = some (.int .i64 0) := hB1.cell 1
    have z2 : w1.cell? ⟨w.heap.size, 2, none⟩ = some (.string ⟨#[]⟩) := hB1.cell 2
    have t0 := hB1.thaw 0
    have t1 := hB1.thaw 1
    have t2 := hB1.thaw 2
    have x0 : w1.cell? ⟨w.heap.size + 1, 0, none⟩ = some (.int .i64 (byteAt s 2)) := hC1.cell 0
    have x1 : w1.cell? ⟨w.heap.size + 1, 1, none⟩ = some (.int .i64 (byteAt s 3)) := hC1.cell 1
    have x2 : w1.cell? ⟨w.heap.size + 1, 2, none⟩ = some (.string ⟨#[]⟩) := hC1.cell 2
    have r0 := hC1.thaw 0
    have r1 := hC1.thaw 1
    have r2 := hC1.thaw 2
    have hlt := hB1.lt
    have hlt2 := hC1.lt
    have HB1 := Lib.hid hB1
    have Hm0 := Lib.hid (show (s.extract 0 (4 + k + n)).data.toList = List.take (4 + k + n) s.data.toList from by rw [Lib.extract_data]; simp)
    have Hm1 := Lib.hid (ByteArray.toList_eq (s.extract (4 + k + n) (8 + k + n)))
    clear hB1 hC1 hx1 hb0 hB hC q1 q2
    by_cases hm : (s.extract (4 + k + n) (8 + k + n)).data.toList = sum4 (s.extract 0 (4 + k + n)).data.toList
    · have fin := Lib.hid (fun (w' : World) => DecPost.mk' (w := w) (w' := w') (decF_ok hH.out.1 hr.out hn hl hm))
      have e6 : (!(sum4 (List.take (4 + k + n) s.data.toList) == (s.extract (4 + k + n) (8 + k + n)).toList)) = false := by
        have : (sum4 (List.take (4 + k + n) s.data.toList) == (s.extract (4 + k + n) (8 + k + n)).toList) = true := by rw [beq_iff_eq, Hm1.out, hm, Hm0.out]
        rw [this]; rfl
      have q5 : ∀ W : World, (Instr.slice 9 (.string s) (some (.int .i64 (4 + (k : Int)))) (some (.int .i64 (4 + (k : Int) + n))) none).run Try.prog W = .ok (.string (s.extract (4 + k) (4 + k + n))) W := fun W => by
        rw [run_slice_string W 9 s .i64 .i64 (4 + (k : Int)) (4 + (k : Int) + n) Try.underlying9 (by omega) (by omega) (by omega), show (4 + (k : Int)).toNat = 4 + k from by omega, show (4 + (k : Int) + n).toNat = 4 + k + n from by omega]
      have hBW : Blk ((((w1.setCell ⟨w.heap.size + 1, 2, none⟩ (.string (s.extract (4 + k) (4 + k + n)))).setCell ⟨w.heap.size, 0, none⟩ (.int .i64 (byteAt s 2))).setCell ⟨w.heap.size, 1, none⟩ (.int .i64 (byteAt s 3))).setCell ⟨w.heap.size, 2, none⟩ (.string (s.extract (4 + k) (4 + k + n)))) w.heap.size 40 #[.int .i64 (byteAt s 2), .int .i64 (byteAt s 3), .string (s.extract (4 + k) (4 + k + n))] := (((HB1.out.below (Below.setCell (p := ⟨w.heap.size + 1, 2, none⟩) (Below.refl (w.heap.size + 1) w1) (Nat.le_refl _) (.string (s.extract (4 + k) (4 + k + n)))) (Nat.lt_succ_self _)).set 0 _).set 1 _).set 2 _
      have hbz := Lib.hid ((((hb1.out.setCell (p := ⟨w.heap.size + 1, 2, none⟩) (Nat.le_succ _) (.string (s.extract (4 + k) (4 + k + n)))).setCell (p := ⟨w.heap.size, 0, none⟩) (Nat.le_refl _) (.int .i64 (byteAt s 2))).setCell (p := ⟨w.heap.size, 1, none⟩) (Nat.le_refl _) (.int .i64 (byteAt s 3))).setCell (p := ⟨w.heap.size, 2, none⟩) (Nat.le_refl _) (.string (s.extract (4 + k) (4 + k + n))))
      have y0 := hBW.cell 0
      have y1 := hBW.cell 1
      have y2 := hBW.cell 2
      clear hm hBW
      rw [e6]
      go_wp2
      refine bodyPost_ret (v := .tuple #[.agg #[.int .i64 (byteAt s 2), .int .i64 (byteAt s 3), .string (s.extract (4 + k) (4 + k + n))], .int .i64 (4 + (k : Int) + n + 4), .int .i64 0]) (by simp [results, Try.results28, go_sem, y0, y1, y2]) rfl ?_
      rw [show (4 + (k : Int) + n + 4) = ((8 + k + n : Nat) : Int) from by omega]
      exact fin.out _ hbz.out
    · have fin := Lib.hid (fun (w' : World) => DecPost.mk' (w := w) (w' := w') (decF_sum hH.out.1 hr.out hn hl hm))
      have e6 : (!(sum4 (List.take (4 + k + n) s.data.toList) == (s.extract (4 + k + n) (8 + k + n)).toList)) = true := by
        have : (sum4 (List.take (4 + k + n) s.data.toList) == (s.extract (4 + k + n) (8 + k + n)).toList) = false := by
          rw [beq_eq_false_iff_ne, Hm1.out]; intro h; exact hm (by rw [← h, Hm0.out])
        rw [this]; rfl
      have hBW : Blk ((((w1.setCell ⟨w.heap.size, 0, none⟩ (.int .i64 0)).setCell ⟨w.heap.size, 1, none⟩ (.int .i64 0)).setCell ⟨w.heap.size, 2, none⟩ (.string ⟨#[]⟩)).alloc (.cells #[.int .i64 0, .int .i64 0, .string ⟨#[]⟩] 40)) w.heap.size 40 #[.int .i64 0, .int .i64 0, .string ⟨#[]⟩] := (((HB1.out.set 0 _).set 1 _).set 2 _).alloc _
      have hbz := Lib.hid ((((hb1.out.setCell (p := ⟨w.heap.size, 0, none⟩) (Nat.le_refl _) (.int .i64 0)).setCell (p := ⟨w.heap.size, 1, none⟩) (Nat.le_refl _) (.int .i64 0)).setCell (p := ⟨w.heap.size, 2, none⟩) (Nat.le_refl _) (.string ⟨#[]⟩)).alloc (by have := hlt; simp [World.setCell]; omega) (.cells #[.int .i64 0, .int .i64 0, .string ⟨#[]⟩] 40))
      have y0 := hBW.cell 0
      have y1 := hBW.cell 1
      have y2 := hBW.cell 2
      clear hm hBW
      rw [e6]
      go_wp2_with fail
      refine Calls.mono (rnone_any _ _) ?_
      rintro e w' ⟨rfl, rfl⟩
      go_wp2
      refine bodyPost_ret (v := .tuple #[.agg #[.int .i64 0, .int .i64 0, .string ⟨#[]⟩], .int .i64 0, .int .i64 5]) (by simp [results, Try.results28, go_sem, y0, y1, y2]) rfl ?_
      exact fin.out _ hbz.out
  · have fin := Lib.hid (fun (w' : World) => DecPost.mk' (w := w) (w' := w') (decF_num hH.out.1 hr.out hx))
    have e9 : ((x : Int) != 0) = true := by simp; omega
    clear hx f4 f1
    go_wp2_with fail
    refine Calls.mono (rnone_any _ _) ?_
    rintro e w' ⟨rfl, rfl⟩
    go_wp2
    refine bodyPost_ret (v := .tuple #[.agg #[.int .i64 0, .int .i64 0, .string ⟨#[]⟩], .int .i64 0, .int .i64 x]) (by simp [results, Try.results28, go_sem]) rfl ?_
    exact fin.out _ (by repeat (first | exact Below.refl _ _ | refine Below.alloc ?_ (by first | (simp; done) | (simp; omega)) _ | refine Below.setCell ?_ (by first | (simp; done) | (simp; omega)) _))
end Go.Proofs.Ytdogdhlpkbcneaa
