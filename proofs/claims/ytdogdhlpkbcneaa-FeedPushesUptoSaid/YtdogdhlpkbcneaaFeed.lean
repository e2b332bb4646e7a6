/- Feed: New, Left, At, and Push where it is stuck. -/
import Derived.Test.YtdogdhlpkbcneaaPushFeed
namespace Go.Proofs.Ytdogdhlpkbcneaa
open Go.RowKit
set_option maxRecDepth 100000 in
theorem new_any (w : World) : Calls Try.prog 29 #[] w fun x w' => x = .returned (.pointer (some ⟨w.heap.size, 0, none⟩)) ∧ w' = w.alloc (.cells #[.string ⟨#[]⟩, .int .i64 0, .int .i64 0] 68) := by
  go_enter Try.func29, Try.ntmps29
  go_wp2
  go_ret
  exact ⟨rfl, rfl⟩
theorem feed_new (w : World) : FeedAt (w.alloc (.cells #[.string ⟨#[]⟩, .int .i64 0, .int .i64 0] 68)) w.heap.size ⟨#[]⟩ 0 0 := heap_alloc_new _ _
set_option maxRecDepth 100000 in
theorem left_any {w : World} {g : Nat} {rest : ByteArray} {a st : Int} (h : FeedAt w g rest a st) : Calls Try.prog 33 #[.pointer (some ⟨g, 0, none⟩)] w fun x w' => x = .returned (.int .i64 rest.size) ∧ w = w' := by
  have y0 : w.cell? ⟨g, 0, none⟩ = some (.string rest) := Blk.cell h 0
  clear h
  go_enter Try.func33, Try.ntmps33
  go_wp2
  go_ret
  exact ⟨rfl, rfl⟩
set_option maxRecDepth 100000 in
theorem at_any {w : World} {g : Nat} {rest : ByteArray} {a st : Int} (h : FeedAt w g rest a st) : Calls Try.prog 34 #[.pointer (some ⟨g, 0, none⟩)] w fun x w' => x = .returned (.int .i64 a) ∧ w = w' := by
  have y0 : w.cell? ⟨g, 1, none⟩ = some (.int .i64 a) := Blk.cell h 1
  clear h
  go_enter Try.func34, Try.ntmps34
  go_wp2
  go_ret
  exact ⟨rfl, rfl⟩
set_option maxRecDepth 100000 in
theorem push_stuck {w : World} {g : Nat} {rest p : ByteArray} {a st : Int} (h : FeedAt w g rest a st) (hst : st ≠ 0) : Calls Try.prog 30 #[.pointer (some ⟨g, 0, none⟩), .string p] w fun x w' => x = .returned (.tuple #[.slice none 0 0, .int .i64 st]) ∧ Below w.heap.size w w' := by
  have y0 : w.cell? ⟨g, 2, none⟩ = some (.int .i64 st) := Blk.cell h 2
  have e1 : (st != 0) = true := by simpa using hst
  have hb := Lib.hid ((Below.refl w.heap.size w).drew)
  clear h hst
  go_enter Try.func30, Try.ntmps30
  go_wp2
  go_region
  go_wp2
  refine bodyPost_ret (v := .tuple #[.slice none 0 0, .int .i64 st]) (by simp [results, Try.results30, go_sem]) rfl ?_
  exact ⟨rfl, hb.out⟩
end Go.Proofs.Ytdogdhlpkbcneaa
