/- Of the proof of a statement: GoneR. -/
import Derived.Test.YtjgnnobccecpeaaGreatDoorQAtL
set_option linter.unusedVariables false
set_option linter.unusedSimpArgs false
/- The walks of goneCheck and its closures, LeaseAt and LeaseCheck, in the reference. -/
namespace Go.Proofs.YtjgnnobccecpeaaGreatDoor
open Go.RowKit
set_option maxRecDepth 100000 in
set_option maxHeartbeats 1000000 in
theorem leaseCheck_any (l : LeaseD) (w : World) (h1 : l.job.size ≤ 9223372036854775807) (h2 : l.node.size ≤ 9223372036854775807) :
    Calls Tryz.prog 144 #[.agg (leaseV l).toArray] w fun e w' => e = .returned (.int .i64 (lsE l)) ∧ Below w.heap.size w w' := by
  obtain ⟨E, hE⟩ : ∃ E, lsE l = E := ⟨_, rfl⟩
  rw [hE]
  have HE := Lib.hid hE
  clear hE
  obtain ⟨job, node, till⟩ := l
  unfold leaseV
  simp only at h1 h2 ⊢
  have HB := Lib.hid ((Below.refl w.heap.size w).alloc (Nat.le_refl _) (.cells #[.string job, .string node, .int .i64 till] 42))
  go_enter Tryz.func144, Tryz.ntmps144
  go_wp2_with fail
  refine Calls.mono (rIsName_any _ _ h1) ?_
  rintro e w1 ⟨rfl, rfl⟩
  cases hn : nameOk job
  · go_wp2
    go_ret
    exact ⟨ret_int (by rw [← HE.out]; simp [lsE, hn]), HB.out⟩
  go_wp2_with fail
  refine Calls.mono (rIsName_any _ _ h2) ?_
  rintro e w1 ⟨rfl, rfl⟩
  cases ht : nameOk node
  · go_wp2
    go_ret
    exact ⟨ret_int (by rw [← HE.out]; simp [lsE, hn, ht]), HB.out⟩
  go_wp2_with fail
  refine Calls.mono (outside_any _ _ _ _) ?_
  rintro e w1 ⟨rfl, rfl⟩
  cases hr : ranged till 0 1099511627776
  · go_wp2
    go_ret
    exact ⟨ret_int (by rw [← HE.out]; simp [lsE, hn, ht, hr]), HB.out⟩
  go_wp2
  go_ret
  exact ⟨ret_int (by rw [← HE.out]; simp [lsE, hn, ht, hr]), HB.out⟩
set_option maxRecDepth 100000 in
theorem isJob_any (xs : List JobD) (s : ByteArray) (A : Option Addr) (n c g : Nat) (w : World) (hx : SlAt w w.heap.size 5 A n (rowsV jobV xs)) (hl : xs.length = n) (hn : n ≤ 9223372036854775807) (hg : w.cell? ⟨g, 2, none⟩ = some (.slice A n c)) :
    Calls Tryz.prog 146 #[.string s, .pointer (some ⟨g, 0, none⟩)] w fun e w' => e = .returned (.bool (jobOf xs s).isSome) ∧ Below w.heap.size w w' := by
  have hC := Lib.hid (jobAt_any xs s A n c w hx hl hn)
  clear hx hl hn
  go_enter Tryz.func146, Tryz.ntmps146
  go_wp2_with fail
  refine Calls.mono hC.out ?_
  rintro e w2 ⟨i, rfl, hb2, hcase⟩
  rcases hcase with ⟨rfl, hn⟩ | ⟨m, x, rfl, -, hn⟩
  · have h0 := Lib.hid (show false = (jobOf xs s).isSome by rw [hn]; rfl)
    clear hn
    go_wp2
    go_ret
    exact ⟨ret_bool h0.out, hb2⟩
  · have h0 := Lib.hid (show true = (jobOf xs s).isSome by rw [hn]; rfl)
    have d0 : decide ((0 : Int) ≤ (m : Int)) = true := decide_eq_true (by omega)
    clear hn
    go_wp2
    go_ret
    exact ⟨ret_bool h0.out, hb2⟩
set_option maxRecDepth 100000 in
theorem isNode_any (xs : List NodeD) (s : ByteArray) (A : Option Addr) (n c g : Nat) (w : World) (hx : SlAt w w.heap.size 3 A n (rowsV nodeV xs)) (hl : xs.length = n) (hn : n ≤ 9223372036854775807) (hg : w.cell? ⟨g, 3, none⟩ = some (.slice A n c)) :
    Calls Tryz.prog 147 #[.string s, .pointer (some ⟨g, 0, none⟩)] w fun e w' => e = .returned (.bool (nodeOf xs s).isSome) ∧ Below w.heap.size w w' := by
  have hC := Lib.hid (nodeAt_any xs s A n c w hx hl hn)
  clear hx hl hn
  go_enter Tryz.func147, Tryz.ntmps147
  go_wp2_with fail
  refine Calls.mono hC.out ?_
  rintro e w2 ⟨i, rfl, hb2, hcase⟩
  rcases hcase with ⟨rfl, hn⟩ | ⟨m, x, rfl, -, hn⟩
  · have h0 := Lib.hid (show false = (nodeOf xs s).isSome by rw [hn]; rfl)
    clear hn
    go_wp2
    go_ret
    exact ⟨ret_bool h0.out, hb2⟩
  · have h0 := Lib.hid (show true = (nodeOf xs s).isSome by rw [hn]; rfl)
    have d0 : decide ((0 : Int) ≤ (m : Int)) = true := decide_eq_true (by omega)
    clear hn
    go_wp2
    go_ret
    exact ⟨ret_bool h0.out, hb2⟩
set_option maxRecDepth 100000 in
theorem isLease_any (xs : List LeaseD) (s : ByteArray) (A : Option Addr) (n c g : Nat) (w : World) (hx : SlAt w w.heap.size 3 A n (rowsV leaseV xs)) (hl : xs.length = n) (hn : n ≤ 9223372036854775807) (hg : w.cell? ⟨g, 4, none⟩ = some (.slice A n c)) :
    Calls Tryz.prog 148 #[.string s, .pointer (some ⟨g, 0, none⟩)] w fun e w' => e = .returned (.bool (leaseOf xs s).isSome) ∧ Below w.heap.size w w' := by
  have hC := Lib.hid (leaseAt_any xs s A n c w hx hl hn)
  clear hx hl hn
  go_enter Tryz.func148, Tryz.ntmps148
  go_wp2_with fail
  refine Calls.mono hC.out ?_
  rintro e w2 ⟨i, rfl, hb2, hcase⟩
  rcases hcase with ⟨rfl, hn⟩ | ⟨m, x, rfl, -, hn⟩
  · have h0 := Lib.hid (show false = (leaseOf xs s).isSome by rw [hn]; rfl)
    clear hn
    go_wp2
    go_ret
    exact ⟨ret_bool h0.out, hb2⟩
  · have h0 := Lib.hid (show true = (leaseOf xs s).isSome by rw [hn]; rfl)
    have d0 : decide ((0 : Int) ≤ (m : Int)) = true := decide_eq_true (by omega)
    clear hn
    go_wp2
    go_ret
    exact ⟨ret_bool h0.out, hb2⟩
def RGoInv (has : ByteArray → Bool) (ss : List ByteArray) (n : Nat) (R : Int) (w : World) (i : Value) (wr : World) : Prop :=
  ∃ k : Nat, k ≤ n ∧ i = .int .i64 k ∧ goneFrom has (prevK selfK ss k) (ss.drop k) = R ∧ Below w.heap.size w wr
set_option maxRecDepth 100000 in
set_option maxHeartbeats 1000000 in
theorem goneCheck_any (has : ByteArray → Bool) (F : FuncId) (P : Value) (ss : List ByteArray) (A : Option Addr) (n c : Nat) (w : World) (hx : SlAt w w.heap.size 1 A n (rowsV strV ss)) (hl : ss.length = n) (hn : n ≤ 9223372036854775807) (hok : NamesOk' ss) (hent : ∀ args w, (callFunc F args).run Tryz.prog w = .ok (.enter F args) w)
    (hF : ∀ s W, Below w.heap.size w W → Calls Tryz.prog F #[.string s, P] W fun e w' => e = .returned (.bool (has s)) ∧ Below W.heap.size W w') :
    Calls Tryz.prog 145 #[.slice A n c, .func (.func F) #[] #[P]] w fun e w' => e = .returned (.int .i64 (goneE has ss)) ∧ Below w.heap.size w w' := by
  obtain ⟨R, hR⟩ : ∃ R, goneE has ss = R := ⟨_, rfl⟩
  rw [hR]
  have HR := Lib.hid hR
  have Hl := Lib.hid hl
  have Hok := Lib.hid hok
  have HF := Lib.hid hF
  clear hR hl hok hF
  go_enter Tryz.func145, Tryz.ntmps145
  go_wp2
  go_loopw [4, 5, 6, 9, 15, 30] (fun _ _ _ i _ _ wr => RGoInv has ss n R w i wr) (fun _ _ _ i _ _ _ => n - (intOf i).toNat)
  case atStart => exact ⟨0, Nat.zero_le _, rfl, by rw [← HR.out]; rfl, Below.refl _ _⟩
  case round =>
    obtain ⟨k, hk, rfl, hrow, hb⟩ := hrel
    have Hrow := Lib.hid hrow
    have Hb := Lib.hid hb
    have hsz := hb.size
    clear hrow
    by_cases hlt : k < n
    · obtain ⟨s, hf⟩ : ∃ s, ss[k]? = some s := ⟨_, List.getElem?_eq_getElem (by rw [Hl.out]; exact hlt)⟩
      obtain ⟨b, off, rfl, hbB, hc⟩ := (hx.below hb).rec_ strV_len Hl.out hf
      have hso := Lib.hid (Hok.out s (List.mem_of_getElem? hf))
      have Hf := Lib.hid hf
      have c0 : wr.cell? ⟨b, off + k * 1, none⟩ = some (.string s) := hc 0 _ rfl
      rw [Nat.mul_one] at c0
      have hlb : b < wr.heap.size := by omega
      clear hc hf
      go_wp2_with fail
      refine Calls.mono (rIsName_any s _ hso.out) ?_
      rintro e w1 ⟨rfl, rfl⟩
      cases hnm : nameOk s
      · have h4 := Lib.hid (show R = 4 by rw [← Hrow.out]; exact gone_form Hf.out hnm)
        go_wp2
        go_ret
        exact ⟨ret_int h4.out.symm, Hb.out⟩
      have hord : (k = 0) ∨ (k ≠ 0 ∧ ∃ y, ss[k - 1]? = some y ∧ Op.bytesLess y.toList s.toList = true) ∨ (k ≠ 0 ∧ ∃ y, ss[k - 1]? = some y ∧ Op.bytesLess y.toList s.toList = false) := by
        by_cases h0 : k = 0
        · exact .inl h0
        · obtain ⟨y, hy⟩ : ∃ y, ss[k - 1]? = some y := ⟨_, List.getElem?_eq_getElem (by rw [Hl.out]; omega)⟩
          cases hbl : Op.bytesLess y.toList s.toList
          · exact .inr (.inr ⟨h0, _, hy, hbl⟩)
          · exact .inr (.inl ⟨h0, _, hy, hbl⟩)
      have Hhas := Lib.hid (HF.out s wr Hb.out)
      rcases hord with h0 | ⟨h0, y, hy, hbl⟩ | ⟨h0, y, hy, hbl⟩
      · subst h0
        obtain ⟨H, hH⟩ : ∃ H, has s = H := ⟨_, rfl⟩
        clear hb hx
        go_wp2_with fail
        rw [hH] at Hhas
        refine Calls.mono Hhas.out ?_
        rintro e w3 ⟨rfl, hb3⟩
        have hB3 := Lib.hid (Hb.out.trans (hb3.mono Hb.out.size))
        clear hb3 Hhas
        cases H
        · have hst := Lib.hid (gone_next (has := has) Hf.out hnm (.inl rfl) hH)
          go_wp2
          go_roundw
          case rel => exact ⟨1, by omega, by go_num, by rw [← hst.out]; exact Hrow.out, hB3.out⟩
          case measure => simp [intOf]; omega
        · have h7 := Lib.hid (show R = 7 by rw [← Hrow.out]; exact gone_twice Hf.out hnm (.inl rfl) hH)
          go_wp2
          go_ret
          exact ⟨ret_int h7.out.symm, hB3.out⟩
      · obtain ⟨b', off', hbo, hbB', hp⟩ := (hx.below hb).rec_ strV_len Hl.out hy
        obtain ⟨rfl, rfl⟩ : b = b' ∧ off = off' := by simpa using hbo
        have p0 : wr.cell? ⟨b, off + (k - 1) * 1, none⟩ = some (.string y) := hp 0 _ rfl
        rw [Nat.mul_one] at p0
        have hkp : decide ((0 : Int) < (k : Int)) = true := decide_eq_true (by omega)
        have hkn : 0 < k := by omega
        obtain ⟨H, hH⟩ : ∃ H, has s = H := ⟨_, rfl⟩
        have Hy := Lib.hid hy
        have HL := Lib.hid hbl
        have e1 : (!Op.bytesLess y.toList s.toList) = false := by rw [hbl]; rfl
        clear hp hy hb hx
        go_wp2_with fail
        rw [hH] at Hhas
        refine Calls.mono Hhas.out ?_
        rintro e w3 ⟨rfl, hb3⟩
        have hB3 := Lib.hid (Hb.out.trans (hb3.mono Hb.out.size))
        clear hb3 Hhas
        cases H
        · have hst := Lib.hid (gone_next (has := has) Hf.out hnm (.inr ⟨_, Hy.out, HL.out⟩) hH)
          go_wp2
          go_roundw
          case rel => exact ⟨k + 1, by omega, by go_num, by rw [← hst.out]; exact Hrow.out, hB3.out⟩
          case measure => simp [intOf]; omega
        · have h7 := Lib.hid (show R = 7 by rw [← Hrow.out]; exact gone_twice Hf.out hnm (.inr ⟨_, Hy.out, HL.out⟩) hH)
          go_wp2
          go_ret
          exact ⟨ret_int h7.out.symm, hB3.out⟩
      · obtain ⟨b', off', hbo, hbB', hp⟩ := (hx.below hb).rec_ strV_len Hl.out hy
        obtain ⟨rfl, rfl⟩ : b = b' ∧ off = off' := by simpa using hbo
        have p0 : wr.cell? ⟨b, off + (k - 1) * 1, none⟩ = some (.string y) := hp 0 _ rfl
        rw [Nat.mul_one] at p0
        have hkp : decide ((0 : Int) < (k : Int)) = true := decide_eq_true (by omega)
        have hkn : 0 < k := by omega
        have h8 := Lib.hid (show R = 8 by rw [← Hrow.out]; exact gone_order Hf.out hnm h0 hy hbl)
        have e1 : (!Op.bytesLess y.toList s.toList) = true := by rw [hbl]; rfl
        clear hp Hhas hy hb hx
        go_wp2
        go_ret
        exact ⟨ret_int h8.out.symm, Hb.out⟩
    · have h0 := Lib.hid (show R = 0 by rw [← Hrow.out]; exact gone_end (by rw [Hl.out]; omega) _)
      clear hb hx
      go_wp2
      go_ret
      exact ⟨ret_int h0.out.symm, Hb.out⟩
end Go.Proofs.YtjgnnobccecpeaaGreatDoor
