/- The walk of the law FrameDecodes. -/
import Derived.Test.YtdogdhlpkbcneaaFrmDecR
import Derived.Test.YtdogdhlpkbcneaaFrames
namespace Go.Proofs.Ytdogdhlpkbcneaa
open Go.RowKit
theorem decV_eq {s : ByteArray} {f : FrameM} {n e : Nat} (h : decF s = (f, n, e)) : decV s = .tuple #[.agg #[.int .i64 f.ver, .int .i64 f.kind, .string f.pay], .int .i64 (n : Int), .int .i64 (e : Int)] := by unfold decV; rw [h]; rfl
set_option maxRecDepth 100000 in
set_option maxHeartbeats 2000000 in
theorem walkFrameDecodes (s : ByteArray) (hs : s.size ≤ maxLen) (w : World) :
    Calls Try.prog 10 #[.string s] w fun e w' => e = .returned (.bool true) ∧ Below w.heap.size w w' := by
  have hs' : s.size ≤ 9223372036854775807 := by unfold maxLen at hs; omega
  clear hs
  obtain ⟨f, n, x, hx⟩ : ∃ f n x, decF s = (f, n, x) := ⟨_, _, _, rfl⟩
  have hv := decV_eq hx
  obtain ⟨ver, kind, pay⟩ := f
  obtain ⟨a, ha⟩ : ∃ a : Int, a = (ver : Int) := ⟨_, rfl⟩
  obtain ⟨b, hb⟩ : ∃ b : Int, b = (kind : Int) := ⟨_, rfl⟩
  obtain ⟨c, hc⟩ : ∃ c : Int, c = (n : Int) := ⟨_, rfl⟩
  obtain ⟨d, hd⟩ : ∃ d : Int, d = (x : Int) := ⟨_, rfl⟩
  dsimp only at hv
  rw [← ha, ← hb, ← hc, ← hd] at hv
  have h1 := Lib.hid (show ∀ w : World, Calls Try.prog 27 #[.string s] w fun e w' => e = .returned (.tuple #[.agg #[.int .i64 a, .int .i64 b, .string pay], .int .i64 c, .int .i64 d]) ∧ Below w.heap.size w w' from fun w => by have h := dec_any s w hs'; unfold DecPost at h; rw [hv] at h; exact h)
  have h2 := Lib.hid (show ∀ w : World, Calls Try.prog 28 #[.string s] w fun e w' => e = .returned (.tuple #[.agg #[.int .i64 a, .int .i64 b, .string pay], .int .i64 c, .int .i64 d]) ∧ Below w.heap.size w w' from fun w => by have h := rdec_any s w hs'; unfold DecPost at h; rw [hv] at h; exact h)
  clear hx hv ha hb hc hd hs' ver kind n x
  go_enter Try.func10, Try.ntmps10
  go_wp2_with fail
  refine Calls.mono (h1.out _) ?_
  rintro e w1 ⟨rfl, hb1⟩
  have Hb1 := Lib.hid hb1
  clear hb1
  go_wp2_with fail
  refine Calls.mono (h2.out _) ?_
  rintro e w2 ⟨rfl, hb2⟩
  have hA : Blk w2 w1.heap.size 40 #[.int .i64 a, .int .i64 b, .string pay] := Blk.below (heap_alloc_new _ _) hb2 (by simp)
  have hlt := hA.lt
  have HA := Lib.hid hA
  have Hb2 := Lib.hid ((Hb1.out.alloc Hb1.out.size _).trans (hb2.mono (by have := Hb1.out.size; simp; omega)))
  clear hb2 Hb1 hA
  go_wp2_with fail
  refine Calls.mono (enc_eq encF_none _) ?_
  rintro e w3 ⟨rfl, hb3⟩
  have hA : Blk w3 w1.heap.size 40 #[.int .i64 a, .int .i64 b, .string pay] := (HA.out.alloc _).below hb3 (by simp; omega)
  have hB : Blk w3 w2.heap.size 40 #[.int .i64 a, .int .i64 b, .string pay] := Blk.below (heap_alloc_new _ _) hb3 (by simp)
  have a0 := hA.cell 0
  have a1 := hA.cell 1
  have a2 := hA.cell 2
  have b0 := hB.cell 0
  have b1 := hB.cell 1
  have b2 := hB.cell 2
  have Hb3 := Lib.hid ((Hb2.out.alloc Hb2.out.size _).trans (hb3.mono (by have := Hb2.out.size; simp; omega)))
  clear hb3 Hb2 hA hB HA
  go_wp2
  go_ret
  exact ⟨rfl, Hb3.out⟩
end Go.Proofs.Ytdogdhlpkbcneaa
