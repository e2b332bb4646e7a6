/- The walks of Put: the rows of a table, written one by one. -/
import Derived.Test.YtbbagnfmoecdfaaGreatDoorWJob
import Derived.Test.YtbbagnfmoecdfaaGreatDoorStAt
set_option linter.unusedVariables false
set_option linter.unusedSimpArgs false
namespace Go.Proofs.YtbbagnfmoecdfaaGreatDoor
open Go.RowKit
theorem WrOk.keep {w w' : World} {base g : Nat} {l : List UInt8} (h : WrOk w base g l) (hk : WKeep base g w w') : Below base w w' := hk.below h.at_.1 h.size
def putL {α : Type} (enc : α → List UInt8) (xs : List α) : List UInt8 := numL xs.length ++ xs.flatMap enc
theorem flat_len {α : Type} {enc : α → List UInt8} (h : ∀ x, (enc x).length ≤ 85) : ∀ xs : List α, (xs.flatMap enc).length ≤ 85 * xs.length
  | [] => by simp
  | x :: xs => by
    have := flat_len h xs
    have := h x
    rw [List.flatMap_cons, List.length_append, List.length_cons]; omega
theorem flat_step {α : Type} (enc : α → List UInt8) {xs : List α} {k : Nat} {x : α} (h : xs[k]? = some x) : (xs.take (k + 1)).flatMap enc = (xs.take k).flatMap enc ++ enc x := by
  rw [List.take_add_one, h]; simp
/-- The rows so far are written. -/
def PutRows {α : Type} (enc : α → List UInt8) (xs : List α) (n : Nat) (base g : Nat) (l : List UInt8) (w : World) (i : Value) (wr : World) : Prop :=
  ∃ k : Nat, k ≤ n ∧ i = .int .i64 k ∧ WrOk wr base g (l ++ numL n ++ (xs.take k).flatMap enc) ∧ WKeep base g w wr
theorem StringW.of {s : ByteArray} (h : s.size ≤ 9223372036854775807) : s.size ≤ 9223372036854775807 := h
set_option maxRecDepth 100000 in
set_option maxHeartbeats 2000000 in
theorem put_lease (base g p : Nat) (l : List UInt8) (xs : List LeaseD) (A : Option Addr) (n c : Nat) (w : World) (hx : SlAt w base 3 A n (rowsV leaseV xs)) (hl : xs.length = n) (hn : n ≤ 1000000) (hw : ∀ x ∈ xs, LeaseW x) (h : WrOk w base g l) (hll : l.length ≤ 1000000) :
    Calls Tryz.prog 129 #[.pointer (some ⟨g, 0, none⟩), .slice A n c, .func (.func 130) #[.pointer (some ⟨g, 0, none⟩)] #[]] w (WOPost base g (l ++ putL leaseL xs) w) := by
  have hflen : ∀ k, ((xs.take k).flatMap leaseL).length ≤ 85 * n := fun k => by
    have h1 := flat_len (enc := leaseL) (fun x => leaseL_len _) (xs.take k)
    have h2 : (xs.take k).length ≤ n := by rw [List.length_take]; omega
    omega
  have hnl := numL_len n
  have Hlen := Lib.hid (show ∀ k, (l ++ numL n ++ (xs.take k).flatMap leaseL).length ≤ 90000000 from fun k => by have := hflen k; simp only [List.length_append]; omega)
  have Hfin := Lib.hid (show l ++ putL leaseL xs = l ++ numL n ++ (xs.take n).flatMap leaseL from by unfold putL; rw [← hl, List.take_length, List.append_assoc])
  have HN := Lib.hid (wnumO base g l (n : Int) w (by omega) h (by omega))
  have Hw := Lib.hid hw
  have Hl := Lib.hid hl
  have Hx := Lib.hid hx
  have Ho := Lib.hid h
  clear hw hl hx h hflen hnl
  go_enter Tryz.func129, Tryz.ntmps129
  go_wp2_with fail
  refine Calls.mono HN.out ?_
  rintro e w0 ⟨rfl, ok0, k0⟩
  rw [show ((n : Int)).toNat = n from by omega] at ok0
  have Ok0 := Lib.hid ok0
  have K0 := Lib.hid k0
  clear ok0 k0
  go_wp2
  go_loopw [7, 14] (fun _ i wr => PutRows leaseL xs n base g l w i wr) (fun _ i _ => n - (intOf i).toNat)
  case atStart => exact ⟨0, Nat.zero_le _, rfl, by simpa using Ok0.out, K0.out⟩
  case round =>
    obtain ⟨k, hk, rfl, hok, hkp⟩ := hrel
    have Hok := Lib.hid hok
    have Hkp := Lib.hid hkp
    have hsz := hok.size
    have hB := Ho.out.keep hkp
    clear hok hkp
    by_cases hlt : k < n
    · obtain ⟨x, hf⟩ : ∃ x, xs[k]? = some x := ⟨_, List.getElem?_eq_getElem (by rw [Hl.out]; exact hlt)⟩
      obtain ⟨b, off, rfl, hbB, hc⟩ := (Hx.out.below hB).rec_ leaseV_len Hl.out hf
      have hso := Lib.hid (Hw.out x (List.mem_of_getElem? hf))
      have Hst := Lib.hid (flat_step leaseL hf)
      obtain ⟨X, hX⟩ : ∃ X, X = x := ⟨_, rfl⟩
      have HX := Lib.hid hX
      obtain ⟨job, node, till⟩ := x
      have c0 : wr.cell? ⟨b, off + k * 3, none⟩ = some (.string job) := hc 0 _ rfl
      have c1 : wr.cell? ⟨b, off + k * 3 + 1, none⟩ = some (.string node) := hc 1 _ rfl
      have c2 : wr.cell? ⟨b, off + k * 3 + 2, none⟩ = some (.int .i64 till) := hc 2 _ rfl
      clear hc hf hX hB
      have hlb : b < wr.heap.size := by omega
      have hba : Below wr.heap.size wr (wr.alloc (.cells #[.string job, .string node, .int .i64 till] 45)) := (Below.refl _ _).alloc (Nat.le_refl _) _
      have Hba := Lib.hid hba
      have Ha := Lib.hid (Hok.out.below hba)
      have Hkl := Lib.hid (Hlen.out k)
      clear hba
      go_wp2_with fail
      refine Calls.mono (wlease_any base g _ ⟨job, node, till⟩ _ hso.out Ha.out Hkl.out) ?_
      rintro e w1 ⟨rfl, ok1, k1⟩
      have Hk1 := Lib.hid (Hkp.out.trans ((WKeep.of_below Hba.out).trans k1))
      have Ok1 := Lib.hid (show WrOk w1 base g (l ++ numL n ++ (xs.take (k + 1)).flatMap leaseL) from by rw [Hst.out, ← List.append_assoc]; exact ok1)
      clear ok1 k1
      go_wp2
      go_roundw
      case rel => exact ⟨k + 1, by omega, by go_num, Ok1.out, Hk1.out⟩
      case measure => simp [intOf]; omega
    · obtain rfl : k = n := by omega
      go_wp2
      go_end0
      exact ⟨rfl, by rw [Hfin.out]; exact Hok.out, Hkp.out⟩
end Go.Proofs.YtbbagnfmoecdfaaGreatDoor
