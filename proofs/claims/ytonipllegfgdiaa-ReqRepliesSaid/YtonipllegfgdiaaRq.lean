/- Replies: what both sides write. -/
import Derived.Test.YtonipllegfgdiaaWri
import Derived.Test.YtonipllegfgdiaaPutR
import Derived.Test.YtonipllegfgdiaaOutside
import Derived.Lib.QuietBelow
set_option linter.unusedVariables false
set_option linter.unusedSimpArgs false
namespace Go.Proofs.Ytonipllegfgdiaa
open Go.RowKit
def replyOk (c r : Int) : Bool := ranged c 0 10 && ranged r 0 1099511627776
def replyL (c r : Int) : List UInt8 := numL c.toNat ++ numL r.toNat
def replyF (c r : Int) : ByteArray × Int := if replyOk c r = true then (⟨(replyL c r).toArray⟩, 0) else (⟨#[]⟩, 1)
theorem replyF_no {c r : Int} (h : replyOk c r = false) : replyF c r = (⟨#[]⟩, 1) := by unfold replyF; rw [if_neg (by rw [h]; decide)]
theorem replyF_yes {c r : Int} (h : replyOk c r = true) : replyF c r = (⟨(replyL c r).toArray⟩, 0) := by unfold replyF; rw [if_pos h]
theorem replyOk_iff {c r : Int} : replyOk c r = true ↔ (0 ≤ c ∧ c ≤ 10) ∧ (0 ≤ r ∧ r ≤ 1099511627776) := by unfold replyOk; rw [Bool.and_eq_true, ranged_iff, ranged_iff]
set_option maxRecDepth 100000 in
theorem isTime_any (n : Int) (w : World) : Calls Try.prog 42 #[.int .i64 n] w fun e w' => e = .returned (.bool (ranged n 0 1099511627776)) ∧ w = w' := by
  cases h : ranged n 0 1099511627776
  · have h' := ranged_not.1 h
    by_cases h1 : n < 0
    · have d1 : decide (0 ≤ n) = false := decide_eq_false (by omega)
      clear h h'
      go_enter Try.func42, Try.ntmps42
      go_wp2
      go_ret
      exact ⟨rfl, rfl⟩
    · have d1 : decide (0 ≤ n) = true := decide_eq_true (by omega)
      have d2 : decide (n ≤ 1099511627776) = false := decide_eq_false (by omega)
      clear h h'
      go_enter Try.func42, Try.ntmps42
      go_wp2
      go_ret
      exact ⟨rfl, rfl⟩
  · have h' := ranged_iff.1 h
    have d1 : decide (0 ≤ n) = true := decide_eq_true h'.1
    have d2 : decide (n ≤ 1099511627776) = true := decide_eq_true h'.2
    clear h h'
    go_enter Try.func42, Try.ntmps42
    go_wp2
    go_ret
    exact ⟨rfl, rfl⟩
set_option maxRecDepth 100000 in
theorem isReply_any (c r : Int) (w : World) : Calls Try.prog 24 #[.agg #[.int .i64 c, .int .i64 r]] w fun e w' => e = .returned (.bool (replyOk c r)) ∧ Below w.heap.size w w' := by
  have hb := (Below.refl w.heap.size w).alloc (Nat.le_refl _) (.cells #[.int .i64 c, .int .i64 r] 34)
  have Hb := Lib.hid hb
  clear hb
  unfold replyOk
  cases h : ranged c 0 10
  · have h' := ranged_not.1 h
    by_cases h1 : c < 0
    · have d1 : decide (0 ≤ c) = false := decide_eq_false (by omega)
      clear h h'
      go_enter Try.func24, Try.ntmps24
      go_wp2
      go_ret
      exact ⟨rfl, Hb.out⟩
    · have d1 : decide (0 ≤ c) = true := decide_eq_true (by omega)
      have d2 : decide (c ≤ 10) = false := decide_eq_false (by omega)
      clear h h'
      go_enter Try.func24, Try.ntmps24
      go_wp2
      go_ret
      exact ⟨rfl, Hb.out⟩
  · have h' := ranged_iff.1 h
    have d1 : decide (0 ≤ c) = true := decide_eq_true h'.1
    have d2 : decide (c ≤ 10) = true := decide_eq_true h'.2
    clear h h'
    go_enter Try.func24, Try.ntmps24
    go_wp2_with fail
    refine Calls.mono (isTime_any r _) ?_
    rintro e w1 ⟨rfl, rfl⟩
    go_wp2
    go_ret
    exact ⟨rfl, Hb.out⟩
theorem outsideA (n lo hi : Int) (w : World) : Calls Try.prog 19 #[.int .i64 n, .int .i64 lo, .int .i64 hi] w fun e w' => e = .returned (.bool (!ranged n lo hi)) ∧ w = w' := by
  cases h : ranged n lo hi
  · exact outside_yes n lo hi (ranged_not.1 h) w
  · exact outside_no n lo hi (ranged_iff.1 h).1 (ranged_iff.1 h).2 w
def RpPost (c r : Int) (w : World) (e : Ending) (w' : World) : Prop := e = .returned (.tuple #[.string (replyF c r).1, .int .i64 (replyF c r).2]) ∧ Below w.heap.size w w'
theorem rqnum (n : Int) (w : World) (h0 : 0 ≤ n) (h1 : n ≤ 9223372036854775807) : Calls Try.prog 26 #[.int .i64 n] w (NumPost n.toNat w) := by
  have H := Lib.hid (rnumber_any 10 n w h0 (by omega) (by have : (128 : Nat) ^ 10 = 1180591620717411303424 := by decide
                                                          omega) (by decide))
  unfold NumPost at H ⊢
  go_enter Try.func26, Try.ntmps26
  go_wp2_with fail
  refine Calls.mono H.out ?_
  rintro e w1 ⟨rfl, hb⟩
  go_wp2
  go_ret
  exact ⟨rfl, hb⟩
set_option maxRecDepth 100000 in
set_option maxHeartbeats 1000000 in
theorem reply_any (c r : Int) (w : World) : Calls Try.prog 9 #[.agg #[.int .i64 c, .int .i64 r]] w (RpPost c r w) := by
  have hb := (Below.refl w.heap.size w).alloc (Nat.le_refl _) (.cells #[.int .i64 c, .int .i64 r] 34)
  have hB : Blk (w.alloc (.cells #[.int .i64 c, .int .i64 r] 34)) w.heap.size 34 #[.int .i64 c, .int .i64 r] := heap_alloc_new w _
  have Hb := Lib.hid hb
  have HB := Lib.hid hB
  clear hb hB
  unfold RpPost
  cases h : replyOk c r
  · rw [replyF_no h]
    have Hok := Lib.hid h
    clear h
    go_enter Try.func9, Try.ntmps9
    go_wp2_with fail
    refine Calls.mono (isReply_any c r _) ?_
    rintro e w1 ⟨rfl, hb1⟩
    rw [Hok.out]
    go_wp2
    exact bodyPost_ret (v := .tuple #[.string ⟨#[]⟩, .int .i64 1]) (by simp [results, Try.results9, go_sem]) rfl ⟨rfl, Hb.out.trans (hb1.mono Hb.out.size)⟩
  · rw [replyF_yes h]
    have hr := replyOk_iff.1 h
    have Hok := Lib.hid h
    clear h
    go_enter Try.func9, Try.ntmps9
    go_wp2_with fail
    refine Calls.mono (isReply_any c r _) ?_
    rintro e w1 ⟨rfl, hb1⟩
    rw [Hok.out]
    have HB1 := Lib.hid (HB.out.below hb1 HB.out.lt)
    have Hb1 := Lib.hid (Hb.out.trans (hb1.mono Hb.out.size))
    have hbl := HB1.out.lt
    clear hb1 HB Hb
    have hA := (Below.refl w1.heap.size w1).alloc (Nat.le_refl _) (.cells #[.slice none 0 0] 57)
    have hW : WrAt (w1.alloc (.cells #[.slice none 0 0] 57)) w1.heap.size w1.heap.size [] := ⟨Nat.le_refl _, none, 0, 0, heap_alloc_new w1 _, World.ownsRow_nil _ _ _ _⟩
    have HC := Lib.hid (wnum_any w1.heap.size w1.heap.size [] c _ hr.1.1 (by omega) hW (by simp))
    have HB2 := Lib.hid (HB1.out.below hA hbl)
    have HA := Lib.hid hA
    have c0 : w1.cell? ⟨w.heap.size, 0, none⟩ = some (.int .i64 c) := HB1.out.cell 0
    clear hA hW
    go_wp2_with fail
    refine Calls.mono HC.out ?_
    rintro e w2 ⟨rfl, hw2, hk2⟩
    have hsz := HA.out.size
    have hk3 := hk2.below (Nat.le_refl _) hsz
    have hB3 : Blk w2 w.heap.size 34 #[.int .i64 c, .int .i64 r] := (hk3.block w.heap.size hbl).trans HB2.out
    have c1 : w2.cell? ⟨w.heap.size, 1, none⟩ = some (.int .i64 r) := hB3.cell 1
    have HC2 := Lib.hid (wnum_any w1.heap.size w1.heap.size _ r w2 hr.2.1 (by omega) hw2 (by have := numL_length c.toNat; simp; omega))
    have HK := Lib.hid (Hb1.out.trans ((HA.out.trans hk3).mono Hb1.out.size))
    have hs2 := Nat.le_trans hsz hk3.size
    clear hw2 hk2 hk3 hB3 HC HB2 HA hsz c0
    go_wp2_with fail
    refine Calls.mono HC2.out ?_
    rintro e w3 ⟨rfl, hw3, hk3⟩
    have HK3 := Lib.hid (HK.out.trans ((hk3.below (Nat.le_refl _) hs2).mono Hb1.out.size))
    rw [show [] ++ numL c.toNat ++ numL r.toNat = replyL c r by simp [replyL]] at hw3
    obtain ⟨_, AA, m, cc, hBW, ho⟩ := hw3
    have z0 : w3.cell? ⟨w1.heap.size, 0, none⟩ = some (.slice AA m cc) := hBW.cell 0
    have hrun := run_string_own Try.underlying55 Try.underlying5 Try.underlying9 ho
    clear hk3 hBW ho HC2 HK c1
    go_wp2
    exact bodyPost_ret (v := .tuple #[.string ⟨(replyL c r).toArray⟩, .int .i64 0]) (by simp [results, Try.results9, go_sem]) rfl ⟨rfl, HK3.out⟩
set_option maxRecDepth 100000 in
set_option maxHeartbeats 1000000 in
theorem rreply_any (c r : Int) (w : World) : Calls Try.prog 10 #[.agg #[.int .i64 c, .int .i64 r]] w (RpPost c r w) := by
  have hb := (Below.refl w.heap.size w).alloc (Nat.le_refl _) (.cells #[.int .i64 c, .int .i64 r] 34)
  have hB : Blk (w.alloc (.cells #[.int .i64 c, .int .i64 r] 34)) w.heap.size 34 #[.int .i64 c, .int .i64 r] := heap_alloc_new w _
  have Hb := Lib.hid hb
  have HB := Lib.hid hB
  clear hb hB
  unfold RpPost
  have O1 := Lib.hid (outsideA c 0 10)
  have O2 := Lib.hid (outsideA r 0 1099511627776)
  cases h : ranged c 0 10
  · rw [replyF_no (show replyOk c r = false by unfold replyOk; rw [h]; rfl)]
    rw [h] at O1
    clear h
    go_enter Try.func10, Try.ntmps10
    go_wp2_with fail
    refine Calls.mono (O1.out _) ?_
    rintro e w1 ⟨rfl, rfl⟩
    go_wp2
    exact bodyPost_ret (v := .tuple #[.string ⟨#[]⟩, .int .i64 1]) (by simp [results, Try.results10, go_sem]) rfl ⟨rfl, Hb.out⟩
  · cases h2 : ranged r 0 1099511627776
    · rw [replyF_no (show replyOk c r = false by unfold replyOk; rw [h, h2]; rfl)]
      rw [h] at O1
      rw [h2] at O2
      clear h h2
      go_enter Try.func10, Try.ntmps10
      go_wp2_with fail
      refine Calls.mono (O1.out _) ?_
      rintro e w1 ⟨rfl, rfl⟩
      go_wp2_with fail
      refine Calls.mono (O2.out _) ?_
      rintro e w1 ⟨rfl, rfl⟩
      go_wp2
      exact bodyPost_ret (v := .tuple #[.string ⟨#[]⟩, .int .i64 1]) (by simp [results, Try.results10, go_sem]) rfl ⟨rfl, Hb.out⟩
    · rw [replyF_yes (show replyOk c r = true by unfold replyOk; rw [h, h2]; rfl)]
      have hc := ranged_iff.1 h
      have hr := ranged_iff.1 h2
      rw [h] at O1
      rw [h2] at O2
      have N1 := fun W => (rqnum c W hc.1 (by omega))
      have N2 := fun W => (rqnum r W hr.1 (by omega))
      unfold NumPost at N1 N2
      have lc : (⟨(numL c.toNat).toArray⟩ : ByteArray).size ≤ 17 := by have := numL_length c.toNat; show (numL c.toNat).toArray.size ≤ 17; simp; omega
      have lr : (⟨(numL r.toNat).toArray⟩ : ByteArray).size ≤ 17 := by have := numL_length r.toNat; show (numL r.toNat).toArray.size ≤ 17; simp; omega
      have hcat : (⟨(numL c.toNat).toArray⟩ : ByteArray) ++ ⟨(numL r.toNat).toArray⟩ = ⟨(replyL c r).toArray⟩ := by unfold replyL; rw [ByteArray.mk_append_mk]; try simp
      generalize (⟨(numL c.toNat).toArray⟩ : ByteArray) = Sc at N1 lc hcat
      generalize (⟨(numL r.toNat).toArray⟩ : ByteArray) = Sr at N2 lr hcat
      have H1 := Lib.hid N1
      have H2 := Lib.hid N2
      obtain ⟨w1, hw1⟩ : ∃ w1, w.alloc (.cells #[.int .i64 c, .int .i64 r] 34) = w1 := ⟨_, rfl⟩
      rw [hw1] at HB Hb
      have HW1 := Lib.hid hw1
      have b0 := fun d os => cell_regrown (show w1.cell? ⟨w.heap.size, 0, none⟩ = some (.int .i64 c) from HB.out.cell 0) d os
      have b1 := fun d os => cell_regrown (show w1.cell? ⟨w.heap.size, 1, none⟩ = some (.int .i64 r) from HB.out.cell 1) d os
      have Hcat := Lib.hid hcat
      clear h h2 N1 N2 hw1 HB hcat
      go_enter Try.func10, Try.ntmps10
      go_wp2_with fail
      refine Calls.mono (O1.out _) ?_
      rintro e w2 ⟨rfl, rfl⟩
      go_wp2_with fail
      refine Calls.mono (O2.out _) ?_
      rintro e w2 ⟨rfl, rfl⟩
      go_wp2_with fail
      rw [HW1.out]
      refine wp_region_quiet_below (by kernel_rfl) (by kernel_rfl) ?_
      go_big_quiet_step ((fail))
      go_big_quiet_step ((fail))
      go_big_quiet_step ((go_at_call 26; exact Calls.regrown_of (H1.out _)))
      go_big_quiet_step ((fail))
      go_big_quiet_step ((fail))
      go_big_quiet_step ((go_at_call 26; exact Calls.regrown_of (H2.out _)))
      repeat (go_big_quiet_step ((fail)))
      refine wpQuiet_nil ?_
      intro _ hw'
      obtain ⟨⟨nq, osq⟩, hw''⟩ := hw'
      subst hw''
      have hb2 := Lib.hid (Hb.out.trans ((below_regrown w1 nq osq).mono Hb.out.size))
      clear HW1 b0 b1 H1 H2
      dsimp only
      generalize Sort.grow (redrawn w1 nq) osq = w2 at hb2 ⊢
      go_wp2
      refine bodyPost_ret (v := .tuple #[.string (Sc ++ Sr), .int .i64 0]) (by simp [results, Try.results10, go_sem]) rfl ?_
      rw [Hcat.out]
      exact ⟨rfl, hb2.out⟩
end Go.Proofs.Ytonipllegfgdiaa
