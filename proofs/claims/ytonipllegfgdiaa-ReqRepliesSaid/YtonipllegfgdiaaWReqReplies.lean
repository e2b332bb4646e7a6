/- The walk of the law ReqReplies. -/
import Derived.Test.YtonipllegfgdiaaRqD
set_option linter.unusedVariables false
set_option linter.unusedSimpArgs false
namespace Go.Proofs.Ytonipllegfgdiaa
open Go.RowKit
set_option maxRecDepth 100000 in
set_option maxHeartbeats 1000000 in
theorem part0 (w : World) : Calls Try.prog 17 #[.agg #[.int .i64 0, .string ⟨#[]⟩, .int .i64 0, .int .i64 0, .int .i64 0, .string ⟨#[]⟩, .string ⟨#[]⟩, .int .i64 0, .string ⟨#[]⟩, .string ⟨#[]⟩, .string ⟨#[]⟩, .int .i64 0, .string ⟨#[]⟩, .int .i64 0]] w fun e w' => e = .returned .nilIface ∧ Below w.heap.size w w' := by
  have hb := (Below.refl w.heap.size w).alloc (Nat.le_refl _) (.cells #[.int .i64 0, .string ⟨#[]⟩, .int .i64 0, .int .i64 0, .int .i64 0, .string ⟨#[]⟩, .string ⟨#[]⟩, .int .i64 0, .string ⟨#[]⟩, .string ⟨#[]⟩, .string ⟨#[]⟩, .int .i64 0, .string ⟨#[]⟩, .int .i64 0] 29)
  have Hb := Lib.hid hb
  clear hb
  go_enter Try.func17, Try.ntmps17
  go_wp2
  go_ret
  exact ⟨rfl, Hb.out⟩
set_option maxRecDepth 100000 in
set_option maxHeartbeats 1000000 in
theorem reqcheck0 (w : World) : Calls Try.prog 7 #[.agg #[.int .i64 0, .string ⟨#[]⟩, .int .i64 0, .int .i64 0, .int .i64 0, .string ⟨#[]⟩, .string ⟨#[]⟩, .int .i64 0, .string ⟨#[]⟩, .string ⟨#[]⟩, .string ⟨#[]⟩, .int .i64 0, .string ⟨#[]⟩, .int .i64 0]] w fun e w' => e = .returned (.int .i64 1) ∧ Below w.heap.size w w' := by
  have hb := (Below.refl w.heap.size w).alloc (Nat.le_refl _) (.cells #[.int .i64 0, .string ⟨#[]⟩, .int .i64 0, .int .i64 0, .int .i64 0, .string ⟨#[]⟩, .string ⟨#[]⟩, .int .i64 0, .string ⟨#[]⟩, .string ⟨#[]⟩, .string ⟨#[]⟩, .int .i64 0, .string ⟨#[]⟩, .int .i64 0] 29)
  have Hb := Lib.hid hb
  clear hb
  go_enter Try.func7, Try.ntmps7
  go_wp2_with fail
  refine Calls.mono (part0 _) ?_
  rintro e w1 ⟨rfl, hb1⟩
  have Hb1 := Lib.hid (Hb.out.trans (hb1.mono Hb.out.size))
  clear hb1
  go_wp2
  go_ret
  exact ⟨rfl, Hb1.out⟩
set_option maxRecDepth 100000 in
set_option maxHeartbeats 1000000 in
theorem walkReqReplies (c r : Int) (b : ByteArray) (hc1 : -9223372036854775808 ≤ c) (hc2 : c ≤ 9223372036854775807) (hr1 : -9223372036854775808 ≤ r) (hr2 : r ≤ 9223372036854775807) (hb : b.size ≤ 9223372036854775807) (w : World) :
    Calls Try.prog 4 #[.agg #[.int .i64 c, .int .i64 r], .string b] w fun e w'' => e = .returned (.bool true) ∧ Below w.heap.size w w'' := by
  have hb1 : Below w.heap.size w (w.alloc (.cells #[.int .i64 c, .int .i64 r] 34)) := (Below.refl _ _).alloc (Nat.le_refl _) _
  have hB : Blk (w.alloc (.cells #[.int .i64 c, .int .i64 r] 34)) w.heap.size 34 #[.int .i64 c, .int .i64 r] := heap_alloc_new w _
  have H1 := fun W => reply_any c r W
  have H2 := fun W => rreply_any c r W
  have H3 := fun W => readreply_any b W hb
  have H4 := fun W => rreadreply_any b W hb
  unfold RpPost at H1 H2
  unfold RrPost at H3 H4
  generalize (replyF c r).1 = T at H1 H2
  generalize (replyF c r).2 = E at H1 H2
  generalize (rrF b).1.1 = C at H3 H4
  generalize (rrF b).1.2 = R at H3 H4
  generalize (rrF b).2 = F at H3 H4
  have h1 := Lib.hid H1
  have h2 := Lib.hid H2
  have h3 := Lib.hid H3
  have h4 := Lib.hid H4
  have HB := Lib.hid hB
  have Hb1 := Lib.hid hb1
  clear hb hb1 hB H1 H2 H3 H4
  go_enter Try.func4, Try.ntmps4
  go_wp2_with fail
  refine Calls.mono (h1.out _) ?_
  rintro e w1 ⟨rfl, hb2⟩
  have HB1 := Lib.hid (HB.out.below hb2 HB.out.lt)
  have Hb2 := Lib.hid (Hb1.out.trans (hb2.mono Hb1.out.size))
  have c0 : w1.cell? ⟨w.heap.size, 0, none⟩ = some (.int .i64 c) := HB1.out.cell 0
  have c1 : w1.cell? ⟨w.heap.size, 1, none⟩ = some (.int .i64 r) := HB1.out.cell 1
  have hl1 := HB1.out.lt
  clear hb2 HB Hb1
  go_wp2_with fail
  refine Calls.mono (h2.out _) ?_
  rintro e w2 ⟨rfl, hb2⟩
  have Hb3 := Lib.hid (Hb2.out.trans (hb2.mono Hb2.out.size))
  clear hb2 Hb2 HB1 c0 c1 hl1
  go_wp2_with fail
  refine Calls.mono (h3.out _) ?_
  rintro e w3 ⟨rfl, hb2⟩
  have Hb4 := Lib.hid (Hb3.out.trans (hb2.mono Hb3.out.size))
  have hA : Below w3.heap.size w3 (w3.alloc (.cells #[.int .i64 C, .int .i64 R] 34)) := (Below.refl _ _).alloc (Nat.le_refl _) _
  have HX := Lib.hid (show Blk (w3.alloc (.cells #[.int .i64 C, .int .i64 R] 34)) w3.heap.size 34 #[.int .i64 C, .int .i64 R] from heap_alloc_new w3 _)
  have Hb5 := Lib.hid (Hb4.out.trans (hA.mono Hb4.out.size))
  clear hb2 Hb3 Hb4 hA
  go_wp2_with fail
  refine Calls.mono (h4.out _) ?_
  rintro e w4 ⟨rfl, hb2⟩
  have HX4 := Lib.hid (HX.out.below hb2 HX.out.lt)
  have hxl := HX4.out.lt
  have Hb6 := Lib.hid (Hb5.out.trans (hb2.mono Hb5.out.size))
  have hA : Below w4.heap.size w4 (w4.alloc (.cells #[.int .i64 C, .int .i64 R] 34)) := (Below.refl _ _).alloc (Nat.le_refl _) _
  have Hb7 := Lib.hid (Hb6.out.trans (hA.mono Hb6.out.size))
  have x0 : w4.cell? ⟨w3.heap.size, 0, none⟩ = some (.int .i64 C) := HX4.out.cell 0
  have x1 : w4.cell? ⟨w3.heap.size, 1, none⟩ = some (.int .i64 R) := HX4.out.cell 1
  have htt : (T.toList == T.toList) = true := beq_self_eq_true _
  have hee : (E == E) = true := beq_self_eq_true _
  have hcc : (C == C) = true := beq_self_eq_true _
  have hrr : (R == R) = true := beq_self_eq_true _
  have hff : (F == F) = true := beq_self_eq_true _
  clear hb2 Hb5 Hb6 HX hA
  go_wp2_with fail
  refine Calls.mono (reqcheck0 _) ?_
  rintro e w5 ⟨rfl, hb9⟩
  have Hb9 := Lib.hid (Hb7.out.trans (hb9.mono Hb7.out.size))
  clear hb9
  go_wp2
  go_ret
  exact ⟨rfl, Hb9.out⟩
end Go.Proofs.Ytonipllegfgdiaa
