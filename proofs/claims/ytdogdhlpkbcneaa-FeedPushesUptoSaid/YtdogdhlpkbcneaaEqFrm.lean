/- Eq at Frame, of the same frames. -/
import Derived.Test.YtdogdhlpkbcneaaRecs
import Derived.Test.YtdogdhlpkbcneaaPlDec
import Derived.Deep.QuietTactic
import Derived.BigQuiet
namespace Go.Proofs.Ytdogdhlpkbcneaa
open Go.RowKit
/-- A frame's cells. -/
def frmC (f : FrameM) : List Value := [.int .i64 f.ver, .int .i64 f.kind, .string f.pay]
theorem frmC_len (f : FrameM) : (frmC f).length = 3 := rfl
def EInv (n : Nat) (w : World) (i : Value) (wr : World) : Prop := ∃ k : Nat, k ≤ n ∧ i = .int .i64 k ∧ Below w.heap.size w wr
set_option maxRecDepth 100000 in
set_option maxHeartbeats 1000000 in
theorem eq_frm_same (xs : List FrameM) (A A' : Option Addr) (n c c' : Nat) (w : World) (hx : SlAt w w.heap.size 3 A n (rowsV frmC xs)) (hy : SlAt w w.heap.size 3 A' n (rowsV frmC xs)) (hl : xs.length = n) (hn : n ≤ 9223372036854775807) :
    Calls Try.prog 32 #[.slice A n c, .slice A' n c'] w fun e w' => e = .returned (.bool true) ∧ Below w.heap.size w w' := by
  have h0 : ((n : Int) != n) = false := by simp
  have Hl := Lib.hid hl
  clear hl
  go_enter Try.func32, Try.ntmps32
  go_wp2
  go_loopw [5, 6, 14] (fun _ _ i wr => EInv n w i wr) (fun _ _ i _ => n - (intOf i).toNat)
  case atStart => exact ⟨0, Nat.zero_le _, rfl, Below.refl _ _⟩
  case round =>
    obtain ⟨k, hk, rfl, hb⟩ := hrel
    by_cases hlt : k < n
    · obtain ⟨f, hf⟩ : ∃ f, xs[k]? = some f := ⟨_, List.getElem?_eq_getElem (by rw [Hl.out]; exact hlt)⟩
      obtain ⟨b, off, rfl, hbB, hc⟩ := (hx.below hb).rec_ frmC_len Hl.out hf
      obtain ⟨b', off', rfl, hbB', hc'⟩ := (hy.below hb).rec_ frmC_len Hl.out hf
      obtain ⟨ver, kind, pay⟩ := f
      have c0 : wr.cell? ⟨b, off + k * 3, none⟩ = some (.int .i64 ver) := hc 0 _ rfl
      have c1 : wr.cell? ⟨b, off + k * 3 + 1, none⟩ = some (.int .i64 kind) := hc 1 _ rfl
      have c2 : wr.cell? ⟨b, off + k * 3 + 2, none⟩ = some (.string pay) := hc 2 _ rfl
      have d0 : wr.cell? ⟨b', off' + k * 3, none⟩ = some (.int .i64 ver) := hc' 0 _ rfl
      have d1 : wr.cell? ⟨b', off' + k * 3 + 1, none⟩ = some (.int .i64 kind) := hc' 1 _ rfl
      have d2 : wr.cell? ⟨b', off' + k * 3 + 2, none⟩ = some (.string pay) := hc' 2 _ rfl
      have hsz := hb.size
      have hlt1 : b < wr.heap.size := by omega
      have hlt2 : b' < wr.heap.size := by omega
      have Hb := Lib.hid hb
      clear hc hc' hx hy hf hb
      go_wp2
      have fin := Lib.hid ((Hb.out.alloc Hb.out.size (.cells #[.int .i64 ver, .int .i64 kind, .string pay] 40)).drew)
      go_region
      go_wp2
      go_roundw
      case rel => exact ⟨k + 1, by omega, by go_num, fin.out⟩
      case measure => simp [intOf]; omega
    · have fin := Lib.hid hb
      clear hb hx hy
      go_wp2
      go_ret
      exact ⟨rfl, fin.out⟩
end Go.Proofs.Ytdogdhlpkbcneaa
