/- Of the proof of a statement: RowsC, GoneR. -/
import Derived.Lib.QuietBelow
import Derived.Deep.QuietTactic
import Derived.BigQuiet
import Derived.Test.YtjgnnobccecpeaaGreatDoorRPlDDec
set_option linter.unusedVariables false
set_option linter.unusedSimpArgs false
set_option maxRecDepth 100000
set_option maxHeartbeats 8000000
/- The walk of Rows at leases, each checked alone. -/
namespace Go.Proofs.YtjgnnobccecpeaaGreatDoor
open Go.Lib (hid)
open Go.RowKit
theorem dwithin_any (n lo hi : Int) (w : World) : Calls Tryz.prog 66 #[.int .i64 n, .int .i64 lo, .int .i64 hi] w fun e w' => e = .returned (.bool (ranged n lo hi)) ∧ w = w' := by
 cases h : ranged n lo hi
 · have h := ranged_not.1 h
   by_cases h1 : lo ≤ n
   · have e2 : decide (n ≤ hi) = false := decide_eq_false (by omega)
     clear h
     go_enter Tryz.func66, Tryz.ntmps66
     go_wp2
     go_ret
     exact ⟨rfl, rfl⟩
   · have e1 : decide (lo ≤ n) = false := decide_eq_false h1
     clear h
     go_enter Tryz.func66, Tryz.ntmps66
     go_wp2
     go_ret
     exact ⟨rfl, rfl⟩
 · have h := ranged_iff.1 h
   have h1 := h.1
   have e2 : decide (n ≤ hi) = true := decide_eq_true h.2
   clear h
   go_enter Tryz.func66, Tryz.ntmps66
   go_wp2
   go_ret
   exact ⟨rfl, rfl⟩
theorem checkLease_any (l : LeaseD) (w : World) (h1 : l.job.size ≤ 9223372036854775807) (h2 : l.node.size ≤ 9223372036854775807) (hT : Tabs w) :
 Calls Tryz.prog 72 #[.agg (leaseV l).toArray] w fun e w' => e = .returned (.int .i64 (lsE l)) ∧ Below w.heap.size w w' := by
 obtain ⟨E, hE⟩ : ∃ E, lsE l = E := ⟨_, rfl⟩
 rw [hE]
 have HE := hid hE
 clear hE
 obtain ⟨job, node, till⟩ := l
 unfold leaseV
 simp only at h1 h2 ⊢
 have hb0 : Below w.heap.size w (w.alloc (.cells #[.string job, .string node, .int .i64 till] 42)) := (Below.refl _ _).alloc (Nat.le_refl _) _
 have hT0 := hT.below hb0
 have hN := hid (isName_any job _ h1 hT0)
 have HT := hid hT0
 have HB := hid hb0
 clear hT0 hb0 hT
 go_enter Tryz.func72, Tryz.ntmps72
 go_wp2_with fail
 refine Calls.mono hN.out ?_
 rintro e w1 ⟨rfl, hb1⟩
 have y1 : w1.cell? ⟨w.heap.size, 1, none⟩ = some (.string node) := by rw [(bcell hb1).1 _ _ (by simp)]; simp [go_sem]
 have y2 : w1.cell? ⟨w.heap.size, 2, none⟩ = some (.int .i64 till) := by rw [(bcell hb1).1 _ _ (by simp)]; simp [go_sem]
 have HB1 := hid (HB.out.trans (hb1.mono HB.out.size))
 have HT1 := hid (HT.out.below hb1)
 have hsz : w.heap.size < w1.heap.size := by have := hb1.size; simp at this; omega
 clear hb1 HB HT hN
 cases hn : nameOk job
 · go_wp2
   go_ret
   exact ⟨ret_int (by rw [← HE.out]; simp [lsE, hn]), HB1.out⟩
 go_wp2_with fail
 refine Calls.mono (isName_any node w1 h2 HT1.out) ?_
 rintro e w2 ⟨rfl, hb2⟩
 replace y2 := ((bcell hb2).1 _ _ hsz).trans y2
 have HB2 := hid (HB1.out.trans (hb2.mono HB1.out.size))
 clear y1 hb2 HB1 HT1 hsz
 cases ht : nameOk node
 · go_wp2
   go_ret
   exact ⟨ret_int (by rw [← HE.out]; simp [lsE, hn, ht]), HB2.out⟩
 go_wp2_with fail
 refine Calls.mono (dwithin_any _ _ _ _) ?_
 rintro e w3 ⟨rfl, rfl⟩
 cases hr1 : ranged till 0 1099511627776
 · go_wp2
   go_ret
   exact ⟨ret_int (by rw [← HE.out]; simp [lsE, hn, ht, hr1]), HB2.out⟩
 · go_wp2
   go_ret
   exact ⟨ret_int (by rw [← HE.out]; simp [lsE, hn, ht, hr1]), HB2.out⟩
def CLeasesOk (xs : List LeaseD) : Prop := ∀ x ∈ xs, x.job.size ≤ 9223372036854775807 ∧ x.node.size ≤ 9223372036854775807
def CLeaseInv (xs : List LeaseD) (n : Nat) (R : Int) (w : World) (i : Value) (wr : World) : Prop := ∃ k : Nat, k ≤ n ∧ i = .int .i64 k ∧ rowsFrom lsE LeaseD.job (prevK LeaseD.job xs k) (xs.drop k) = R ∧ Below w.heap.size w wr
theorem rowsCLease_any (xs : List LeaseD) (A : Option Addr) (n c : Nat) (w : World) (hx : SlAt w w.heap.size 3 A n (rowsV leaseV xs)) (hl : xs.length = n) (hn : n ≤ 9223372036854775807) (hok : CLeasesOk xs) (hT : Tabs w) :
 Calls Tryz.prog 71 #[.slice A n c, .func (.func 50) #[] #[], .func (.func 72) #[] #[]] w fun e w' => e = .returned (.int .i64 (rowsE lsE LeaseD.job xs)) ∧ Below w.heap.size w w' := by
 obtain ⟨R, hR⟩ : ∃ R, rowsE lsE LeaseD.job xs = R := ⟨_, rfl⟩
 rw [hR]
 have HR := hid hR
 have Hl := hid hl
 have HT := hid hT
 have Hok := hid hok
 clear hl hR hT hok
 go_enter Tryz.func71, Tryz.ntmps71
 go_wp2
 go_loopw [6, 7, 8, 9, 12, 19, 28, 35] (fun _ _ _ _ i _ _ _ wr => CLeaseInv xs n R w i wr) (fun _ _ _ _ i _ _ _ _ => n - (intOf i).toNat)
 case atStart => exact ⟨0, Nat.zero_le _, rfl, by rw [← HR.out]; rfl, Below.refl _ _⟩
 case round =>
  obtain ⟨k, hk, rfl, hrow, hb⟩ := hrel
  have Hrow := hid hrow
  have Hb := hid hb
  have hsz := hb.size
  clear hrow
  by_cases hlt : k < n
  · obtain ⟨x, hf⟩ : ∃ x, xs[k]? = some x := ⟨_, List.getElem?_eq_getElem (by rw [Hl.out]; exact hlt)⟩
    obtain ⟨b, off, rfl, hbB, hc⟩ := (hx.below hb).rec_ leaseV_len Hl.out hf
    have hso := hid (Hok.out x (List.mem_of_getElem? hf))
    have Hf := hid hf
    have hkey : x.job = LeaseD.job x := rfl
    obtain ⟨E, hE⟩ : ∃ E, lsE x = E := ⟨_, rfl⟩
    have HE := hid hE
    obtain ⟨X, hX⟩ : ∃ X, X = x := ⟨_, rfl⟩
    have HX := hid hX
    obtain ⟨job, node, till⟩ := x
    obtain ⟨c0, c1, c2⟩ := rc3 hc
    clear hc hf hE hX hkey
    have hlb : b < wr.heap.size := by omega
    have hT1 := hid (HT.out.below (Hb.out.alloc Hb.out.size (.cells #[.string job, .string node, .int .i64 till] 42)))
    have hBa := hid (Hb.out.alloc Hb.out.size (.cells #[.string job, .string node, .int .i64 till] 42))
    go_wp2_with fail
    refine Calls.mono (checkLease_any ⟨job, node, till⟩ _ hso.out.1 hso.out.2 hT1.out) ?_
    rintro e w1 ⟨rfl, hb1⟩
    rw [HE.out]
    have hA0 := (Below.refl wr.heap.size wr).alloc (Nat.le_refl _) (.cells #[.string job, .string node, .int .i64 till] 42)
    have hA1 := hA0.trans (hb1.mono hA0.size)
    have hB1 := hid (hBa.out.trans (hb1.mono hBa.out.size))
    by_cases he : E = 0
    · subst he
      have l0 : ∀ d os, (Sort.grow (redrawn w1 d) os).cell? ⟨wr.heap.size, 0, none⟩ = some (.string job) := fun d os => cell_regrown (by rw [(bcell hb1).1 _ _ (by simp)]; simp [go_sem]) d os
      have l1 : ∀ d os, (Sort.grow (redrawn w1 d) os).cell? ⟨wr.heap.size, 1, none⟩ = some (.string node) := fun d os => cell_regrown (by rw [(bcell hb1).1 _ _ (by simp)]; simp [go_sem]) d os
      have l2 : ∀ d os, (Sort.grow (redrawn w1 d) os).cell? ⟨wr.heap.size, 2, none⟩ = some (.int .i64 till) := fun d os => cell_regrown (by rw [(bcell hb1).1 _ _ (by simp)]; simp [go_sem]) d os
      by_cases hk0 : k = 0
      · subst hk0
        have hst := hid (rows_next (key := LeaseD.job) Hf.out HE.out (.inl rfl))
        clear c0 c1 c2 hb1 hx hA0 hA1
        go_wp2_with fail
        refine wp_region_quiet_below (by kernel_rfl) (by kernel_rfl) ?_
        repeat (go_big_quiet_step (fail))
        refine wpQuiet_nil ?_
        intro _ hw'
        obtain ⟨⟨nq, osq⟩, hw''⟩ := hw'
        subst hw''
        have hb2 := hid (hB1.out.trans ((below_regrown w1 nq osq).mono hB1.out.size))
        clear l0 l1 l2
        dsimp only
        generalize Sort.grow (redrawn w1 nq) osq = w2 at hb2 ⊢
        go_wp2
        go_roundw
        case rel => exact ⟨1, by omega, by go_num, by rw [← hst.out]; exact Hrow.out, hb2.out⟩
        case measure => simp [intOf]; omega
      · obtain ⟨y, hy⟩ : ∃ y, xs[k - 1]? = some y := ⟨_, List.getElem?_eq_getElem (by rw [Hl.out]; omega)⟩
        obtain ⟨b', off', hbo, hbB', hp⟩ := (hx.below hb).rec_ leaseV_len Hl.out hy
        obtain ⟨rfl, rfl⟩ : b = b' ∧ off = off' := by simpa using hbo
        have Hy := hid hy
        obtain ⟨Y, hY⟩ : ∃ Y, Y = y := ⟨_, rfl⟩
        obtain ⟨job', node', till'⟩ := y
        obtain ⟨q0, q1, q2⟩ := rc3 hp
        have p0 : ∀ d os, (Sort.grow (redrawn w1 d) os).cell? ⟨b, off + (k - 1) * 3, none⟩ = some (.string job') := fun d os => cell_regrown (((bcell hA1).1 _ _ hlb).trans q0) d os
        have p1 : ∀ d os, (Sort.grow (redrawn w1 d) os).cell? ⟨b, off + (k - 1) * 3 + 1, none⟩ = some (.string node') := fun d os => cell_regrown (((bcell hA1).1 _ _ hlb).trans q1) d os
        have p2 : ∀ d os, (Sort.grow (redrawn w1 d) os).cell? ⟨b, off + (k - 1) * 3 + 2, none⟩ = some (.int .i64 till') := fun d os => cell_regrown (((bcell hA1).1 _ _ hlb).trans q2) d os
        clear q0 q1 q2 c0 c1 c2 hp hy hY hb1 hx hA0 hA1
        have hkp : decide ((0 : Int) < (k : Int)) = true := decide_eq_true (by omega)
        have hkn : 0 < k := by omega
        have hlt2 := hid (less_total job'.toList job.toList)
        obtain ⟨B, hB⟩ : ∃ B, Op.bytesLess job'.toList job.toList = B := ⟨_, rfl⟩
        have HL := hid hB
        cases B
        · have e1 : (Op.bytesLess job.toList job'.toList || job.toList == job'.toList) = true := by rw [← hlt2.out, hB]; rfl
          have hst := hid (rows_order (key := LeaseD.job) Hf.out HE.out hk0 Hy.out HL.out)
          clear hB
          go_wp2_with fail
          refine wp_region_quiet_below (by kernel_rfl) (by kernel_rfl) ?_
          repeat (go_big_quiet_step ((go_at_call 50; exact Calls.regrown_of (leaseKey_any _ _ _ _))))
          refine wpQuiet_nil ?_
          intro _ hw'
          obtain ⟨⟨nq, osq⟩, hw''⟩ := hw'
          subst hw''
          have hb2 := hid (hB1.out.trans ((below_regrown w1 nq osq).mono hB1.out.size))
          clear l0 l1 l2 p0 p1 p2
          dsimp only
          generalize Sort.grow (redrawn w1 nq) osq = w2 at hb2 ⊢
          go_wp2
          go_ret
          exact ⟨ret_int (by rw [← Hrow.out]; exact hst.out.symm), hb2.out⟩
        · have e1 : (Op.bytesLess job.toList job'.toList || job.toList == job'.toList) = false := by rw [← hlt2.out, hB]; rfl
          have hst := hid (rows_next (key := LeaseD.job) Hf.out HE.out (.inr ⟨_, Hy.out, HL.out⟩))
          clear hB
          go_wp2_with fail
          refine wp_region_quiet_below (by kernel_rfl) (by kernel_rfl) ?_
          repeat (go_big_quiet_step ((go_at_call 50; exact Calls.regrown_of (leaseKey_any _ _ _ _))))
          refine wpQuiet_nil ?_
          intro _ hw'
          obtain ⟨⟨nq, osq⟩, hw''⟩ := hw'
          subst hw''
          have hb2 := hid (hB1.out.trans ((below_regrown w1 nq osq).mono hB1.out.size))
          clear l0 l1 l2 p0 p1 p2
          dsimp only
          generalize Sort.grow (redrawn w1 nq) osq = w2 at hb2 ⊢
          go_wp2
          go_roundw
          case rel => exact ⟨k + 1, by omega, by go_num, by rw [← hst.out]; exact Hrow.out, hb2.out⟩
          case measure => simp [intOf]; omega
    · have hst := hid (rows_err (E := lsE) (key := LeaseD.job) Hf.out (by rw [HE.out]; exact he))
      have e1 : (E == 0) = false := beq_eq_false_iff_ne.2 he
      have e2 : (E != 0) = true := bne_iff_ne.2 he
      clear c0 c1 c2 hb1 hx hA0 hA1
      go_wp2
      go_ret
      exact ⟨ret_int (by rw [← Hrow.out, hst.out]; exact HE.out.symm), hB1.out⟩
  · obtain rfl : k = n := by omega
    have fin := hid (show R = 0 by rw [← Hrow.out]; exact rows_end (by rw [Hl.out]; exact Nat.le_refl _) _)
    clear hb hx
    go_wp2
    go_ret
    exact ⟨ret_int fin.out.symm, Hb.out⟩
end Go.Proofs.YtjgnnobccecpeaaGreatDoor
/- The walks of goneCheck and its closures, LeaseAt and LeaseCheck, in the reference. -/
namespace Go.Proofs.YtjgnnobccecpeaaGreatDoor
open Go.Lib (hid)
open Go.RowKit
theorem leaseCheck_any (l : LeaseD) (w : World) (h1 : l.job.size ≤ 9223372036854775807) (h2 : l.node.size ≤ 9223372036854775807) :
 Calls Tryz.prog 144 #[.agg (leaseV l).toArray] w fun e w' => e = .returned (.int .i64 (lsE l)) ∧ Below w.heap.size w w' := by
 obtain ⟨E, hE⟩ : ∃ E, lsE l = E := ⟨_, rfl⟩
 rw [hE]
 have HE := hid hE
 clear hE
 obtain ⟨job, node, till⟩ := l
 unfold leaseV
 simp only at h1 h2 ⊢
 have HB := hid ((Below.refl w.heap.size w).alloc (Nat.le_refl _) (.cells #[.string job, .string node, .int .i64 till] 42))
 go_enter Tryz.func144, Tryz.ntmps144
 go_wp2_with fail
 refine Calls.mono (rIsName_any _ _ h1) ?_
 rintro e w1 ⟨rfl, rfl⟩
 cases hn : nameOk job
 · go_wp2
   go_ret
   exact ⟨ret_int (by rw [← HE.out]; simp [lsE, hn]), HB.out⟩
 go_wp2_with fail
 refine Calls.mono (rIsName_any _ _ h2) ?_
 rintro e w1 ⟨rfl, rfl⟩
 cases ht : nameOk node
 · go_wp2
   go_ret
   exact ⟨ret_int (by rw [← HE.out]; simp [lsE, hn, ht]), HB.out⟩
 go_wp2_with fail
 refine Calls.mono (outside_any _ _ _ _) ?_
 rintro e w1 ⟨rfl, rfl⟩
 cases hr : ranged till 0 1099511627776
 · go_wp2
   go_ret
   exact ⟨ret_int (by rw [← HE.out]; simp [lsE, hn, ht, hr]), HB.out⟩
 go_wp2
 go_ret
 exact ⟨ret_int (by rw [← HE.out]; simp [lsE, hn, ht, hr]), HB.out⟩
theorem isJob_any (xs : List JobD) (s : ByteArray) (A : Option Addr) (n c g : Nat) (w : World) (hx : SlAt w w.heap.size 5 A n (rowsV jobV xs)) (hl : xs.length = n) (hn : n ≤ 9223372036854775807) (hg : w.cell? ⟨g, 2, none⟩ = some (.slice A n c)) :
 Calls Tryz.prog 146 #[.string s, .pointer (some ⟨g, 0, none⟩)] w fun e w' => e = .returned (.bool (jobOf xs s).isSome) ∧ Below w.heap.size w w' := by
 have hC := hid (jobAt_any xs s A n c w hx hl hn)
 clear hx hl hn
 go_enter Tryz.func146, Tryz.ntmps146
 go_wp2_with fail
 refine Calls.mono hC.out ?_
 rintro e w2 ⟨i, rfl, hb2, hcase⟩
 rcases hcase with ⟨rfl, hn⟩ | ⟨m, x, rfl, -, hn⟩
 · have h0 := hid (show false = (jobOf xs s).isSome by rw [hn]; rfl)
   clear hn
   go_wp2
   go_ret
   exact ⟨ret_bool h0.out, hb2⟩
 · have h0 := hid (show true = (jobOf xs s).isSome by rw [hn]; rfl)
   have d0 : decide ((0 : Int) ≤ (m : Int)) = true := decide_eq_true (by omega)
   clear hn
   go_wp2
   go_ret
   exact ⟨ret_bool h0.out, hb2⟩
theorem isNode_any (xs : List NodeD) (s : ByteArray) (A : Option Addr) (n c g : Nat) (w : World) (hx : SlAt w w.heap.size 3 A n (rowsV nodeV xs)) (hl : xs.length = n) (hn : n ≤ 9223372036854775807) (hg : w.cell? ⟨g, 3, none⟩ = some (.slice A n c)) :
 Calls Tryz.prog 147 #[.string s, .pointer (some ⟨g, 0, none⟩)] w fun e w' => e = .returned (.bool (nodeOf xs s).isSome) ∧ Below w.heap.size w w' := by
 have hC := hid (nodeAt_any xs s A n c w hx hl hn)
 clear hx hl hn
 go_enter Tryz.func147, Tryz.ntmps147
 go_wp2_with fail
 refine Calls.mono hC.out ?_
 rintro e w2 ⟨i, rfl, hb2, hcase⟩
 rcases hcase with ⟨rfl, hn⟩ | ⟨m, x, rfl, -, hn⟩
 · have h0 := hid (show false = (nodeOf xs s).isSome by rw [hn]; rfl)
   clear hn
   go_wp2
   go_ret
   exact ⟨ret_bool h0.out, hb2⟩
 · have h0 := hid (show true = (nodeOf xs s).isSome by rw [hn]; rfl)
   have d0 : decide ((0 : Int) ≤ (m : Int)) = true := decide_eq_true (by omega)
   clear hn
   go_wp2
   go_ret
   exact ⟨ret_bool h0.out, hb2⟩
theorem isLease_any (xs : List LeaseD) (s : ByteArray) (A : Option Addr) (n c g : Nat) (w : World) (hx : SlAt w w.heap.size 3 A n (rowsV leaseV xs)) (hl : xs.length = n) (hn : n ≤ 9223372036854775807) (hg : w.cell? ⟨g, 4, none⟩ = some (.slice A n c)) :
 Calls Tryz.prog 148 #[.string s, .pointer (some ⟨g, 0, none⟩)] w fun e w' => e = .returned (.bool (leaseOf xs s).isSome) ∧ Below w.heap.size w w' := by
 have hC := hid (leaseAt_any xs s A n c w hx hl hn)
 clear hx hl hn
 go_enter Tryz.func148, Tryz.ntmps148
 go_wp2_with fail
 refine Calls.mono hC.out ?_
 rintro e w2 ⟨i, rfl, hb2, hcase⟩
 rcases hcase with ⟨rfl, hn⟩ | ⟨m, x, rfl, -, hn⟩
 · have h0 := hid (show false = (leaseOf xs s).isSome by rw [hn]; rfl)
   clear hn
   go_wp2
   go_ret
   exact ⟨ret_bool h0.out, hb2⟩
 · have h0 := hid (show true = (leaseOf xs s).isSome by rw [hn]; rfl)
   have d0 : decide ((0 : Int) ≤ (m : Int)) = true := decide_eq_true (by omega)
   clear hn
   go_wp2
   go_ret
   exact ⟨ret_bool h0.out, hb2⟩
def RGoInv (has : ByteArray → Bool) (ss : List ByteArray) (n : Nat) (R : Int) (w : World) (i : Value) (wr : World) : Prop :=
 ∃ k : Nat, k ≤ n ∧ i = .int .i64 k ∧ goneFrom has (prevK selfK ss k) (ss.drop k) = R ∧ Below w.heap.size w wr
theorem goneCheck_any (has : ByteArray → Bool) (F : FuncId) (P : Value) (ss : List ByteArray) (A : Option Addr) (n c : Nat) (w : World) (hx : SlAt w w.heap.size 1 A n (rowsV strV ss)) (hl : ss.length = n) (hn : n ≤ 9223372036854775807) (hok : NamesOk' ss) (hent : ∀ args w, (callFunc F args).run Tryz.prog w = .ok (.enter F args) w)
 (hF : ∀ s W, Below w.heap.size w W → Calls Tryz.prog F #[.string s, P] W fun e w' => e = .returned (.bool (has s)) ∧ Below W.heap.size W w') :
 Calls Tryz.prog 145 #[.slice A n c, .func (.func F) #[] #[P]] w fun e w' => e = .returned (.int .i64 (goneE has ss)) ∧ Below w.heap.size w w' := by
 obtain ⟨R, hR⟩ : ∃ R, goneE has ss = R := ⟨_, rfl⟩
 rw [hR]
 have HR := hid hR
 have Hl := hid hl
 have Hok := hid hok
 have HF := hid hF
 clear hR hl hok hF
 go_enter Tryz.func145, Tryz.ntmps145
 go_wp2
 go_loopw [4, 5, 6, 9, 15, 30] (fun _ _ _ i _ _ wr => RGoInv has ss n R w i wr) (fun _ _ _ i _ _ _ => n - (intOf i).toNat)
 case atStart => exact ⟨0, Nat.zero_le _, rfl, by rw [← HR.out]; rfl, Below.refl _ _⟩
 case round =>
  obtain ⟨k, hk, rfl, hrow, hb⟩ := hrel
  have Hrow := hid hrow
  have Hb := hid hb
  have hsz := hb.size
  clear hrow
  by_cases hlt : k < n
  · obtain ⟨s, hf⟩ : ∃ s, ss[k]? = some s := ⟨_, List.getElem?_eq_getElem (by rw [Hl.out]; exact hlt)⟩
    obtain ⟨b, off, rfl, hbB, hc⟩ := (hx.below hb).rec_ strV_len Hl.out hf
    have hso := hid (Hok.out s (List.mem_of_getElem? hf))
    have Hf := hid hf
    have c0 : wr.cell? ⟨b, off + k * 1, none⟩ = some (.string s) := hc 0 _ rfl
    rw [Nat.mul_one] at c0
    have hlb : b < wr.heap.size := by omega
    clear hc hf
    go_wp2_with fail
    refine Calls.mono (rIsName_any s _ hso.out) ?_
    rintro e w1 ⟨rfl, rfl⟩
    cases hnm : nameOk s
    · have h4 := hid (show R = 4 by rw [← Hrow.out]; exact gone_form Hf.out hnm)
      go_wp2
      go_ret
      exact ⟨ret_int h4.out.symm, Hb.out⟩
    have hord : (k = 0) ∨ (k ≠ 0 ∧ ∃ y, ss[k - 1]? = some y ∧ Op.bytesLess y.toList s.toList = true) ∨ (k ≠ 0 ∧ ∃ y, ss[k - 1]? = some y ∧ Op.bytesLess y.toList s.toList = false) := by
     by_cases h0 : k = 0
     · exact .inl h0
     · obtain ⟨y, hy⟩ : ∃ y, ss[k - 1]? = some y := ⟨_, List.getElem?_eq_getElem (by rw [Hl.out]; omega)⟩
       cases hbl : Op.bytesLess y.toList s.toList
       · exact .inr (.inr ⟨h0, _, hy, hbl⟩)
       · exact .inr (.inl ⟨h0, _, hy, hbl⟩)
    have Hhas := hid (HF.out s wr Hb.out)
    rcases hord with h0 | ⟨h0, y, hy, hbl⟩ | ⟨h0, y, hy, hbl⟩
    · subst h0
      obtain ⟨H, hH⟩ : ∃ H, has s = H := ⟨_, rfl⟩
      clear hb hx
      go_wp2_with fail
      rw [hH] at Hhas
      refine Calls.mono Hhas.out ?_
      rintro e w3 ⟨rfl, hb3⟩
      have hB3 := hid (Hb.out.trans (hb3.mono Hb.out.size))
      clear hb3 Hhas
      cases H
      · have hst := hid (gone_next (has := has) Hf.out hnm (.inl rfl) hH)
        go_wp2
        go_roundw
        case rel => exact ⟨1, by omega, by go_num, by rw [← hst.out]; exact Hrow.out, hB3.out⟩
        case measure => simp [intOf]; omega
      · have h7 := hid (show R = 7 by rw [← Hrow.out]; exact gone_twice Hf.out hnm (.inl rfl) hH)
        go_wp2
        go_ret
        exact ⟨ret_int h7.out.symm, hB3.out⟩
    · obtain ⟨b', off', hbo, hbB', hp⟩ := (hx.below hb).rec_ strV_len Hl.out hy
      obtain ⟨rfl, rfl⟩ : b = b' ∧ off = off' := by simpa using hbo
      have p0 : wr.cell? ⟨b, off + (k - 1) * 1, none⟩ = some (.string y) := hp 0 _ rfl
      rw [Nat.mul_one] at p0
      have hkp : decide ((0 : Int) < (k : Int)) = true := decide_eq_true (by omega)
      have hkn : 0 < k := by omega
      obtain ⟨H, hH⟩ : ∃ H, has s = H := ⟨_, rfl⟩
      have Hy := hid hy
      have HL := hid hbl
      have e1 : (!Op.bytesLess y.toList s.toList) = false := by rw [hbl]; rfl
      clear hp hy hb hx
      go_wp2_with fail
      rw [hH] at Hhas
      refine Calls.mono Hhas.out ?_
      rintro e w3 ⟨rfl, hb3⟩
      have hB3 := hid (Hb.out.trans (hb3.mono Hb.out.size))
      clear hb3 Hhas
      cases H
      · have hst := hid (gone_next (has := has) Hf.out hnm (.inr ⟨_, Hy.out, HL.out⟩) hH)
        go_wp2
        go_roundw
        case rel => exact ⟨k + 1, by omega, by go_num, by rw [← hst.out]; exact Hrow.out, hB3.out⟩
        case measure => simp [intOf]; omega
      · have h7 := hid (show R = 7 by rw [← Hrow.out]; exact gone_twice Hf.out hnm (.inr ⟨_, Hy.out, HL.out⟩) hH)
        go_wp2
        go_ret
        exact ⟨ret_int h7.out.symm, hB3.out⟩
    · obtain ⟨b', off', hbo, hbB', hp⟩ := (hx.below hb).rec_ strV_len Hl.out hy
      obtain ⟨rfl, rfl⟩ : b = b' ∧ off = off' := by simpa using hbo
      have p0 : wr.cell? ⟨b, off + (k - 1) * 1, none⟩ = some (.string y) := hp 0 _ rfl
      rw [Nat.mul_one] at p0
      have hkp : decide ((0 : Int) < (k : Int)) = true := decide_eq_true (by omega)
      have hkn : 0 < k := by omega
      have h8 := hid (show R = 8 by rw [← Hrow.out]; exact gone_order Hf.out hnm h0 hy hbl)
      have e1 : (!Op.bytesLess y.toList s.toList) = true := by rw [hbl]; rfl
      clear hp Hhas hy hb hx
      go_wp2
      go_ret
      exact ⟨ret_int h8.out.symm, Hb.out⟩
  · have h0 := hid (show R = 0 by rw [← Hrow.out]; exact gone_end (by rw [Hl.out]; omega) _)
    clear hb hx
    go_wp2
    go_ret
    exact ⟨ret_int h0.out.symm, Hb.out⟩
end Go.Proofs.YtjgnnobccecpeaaGreatDoor
