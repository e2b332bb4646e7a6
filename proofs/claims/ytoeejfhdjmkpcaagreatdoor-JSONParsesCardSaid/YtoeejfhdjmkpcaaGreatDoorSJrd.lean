/- Of the proof of a statement: Jrd, RQuote. -/
import Derived.Deep.QuietTactic
import Derived.BigQuiet
import Derived.Test.YtoeejfhdjmkpcaaGreatDoorSLayJs
import Derived.Test.YtoeejfhdjmkpcaaGreatDoorSPlJp
import Derived.Test.YtoeejfhdjmkpcaaGreatDoorSRTab
import Derived.Test.YtoeejfhdjmkpcaaGreatDoorSTake
set_option linter.unusedVariables false
set_option linter.unusedSimpArgs false
/- The walks of the program's reader of JSON: is, must, number. -/
namespace Go.Proofs.YtoeejfhdjmkpcaaGreatDoor
open Go.RowKit
open Go.Lib (hasPrefix trimPrefix atoiAll atoiSat)
/-- The reader's block. -/
def JrAt (w : World) (g : Nat) (σ : JS) : Prop := Blk w g 169 #[.string (BA σ.1), .bool σ.2]
/-- What a reader's method leaves. -/
def JrPost (g : Nat) (σ : JS) (v : Value) (w : World) (e : Ending) (w' : World) : Prop := e = .returned v ∧ JrAt w' g σ ∧ w.grownBy w' (some g)
set_option maxRecDepth 100000 in
theorem jis (g : Nat) (σ : JS) (p : ByteArray) (w : World) (h : JrAt w g σ) :
    Calls Tryz.prog 181 #[.pointer (some ⟨g, 0, none⟩), .string p] w (JrPost g (trimPrefix σ.1 p.data.toList, σ.2) (.bool (hasPrefix σ.1 p.data.toList)) w) := by
  have y0 : w.cell? ⟨g, 0, none⟩ = some (.string (BA σ.1)) := Blk.cell h 0
  have z0 : w.frozen? ⟨g, 0, none⟩ = false := Blk.thaw h 0
  have hl := Blk.lt h
  have HC := Lib.hid (Any.strings_CutPrefix layCut (BA σ.1) p w)
  have HE := Lib.hid (show JrPost g (trimPrefix σ.1 p.data.toList, σ.2) (.bool (hasPrefix σ.1 p.data.toList)) w (.returned (.bool (hasPrefix σ.1 p.data.toList))) (w.setCell ⟨g, 0, none⟩ (.string (BA (trimPrefix σ.1 p.data.toList)))) from ⟨rfl, Blk.eq (Blk.set h 0 _) (by simp), grow_set _ _ _ _⟩)
  obtain ⟨R, hR⟩ : ∃ R, BA (trimPrefix σ.1 p.data.toList) = R := ⟨_, rfl⟩
  obtain ⟨H, hH⟩ : ∃ H, hasPrefix σ.1 p.data.toList = H := ⟨_, rfl⟩
  rw [show (⟨(trimPrefix (BA σ.1).data.toList p.data.toList).toArray⟩ : ByteArray) = R from hR, show hasPrefix (BA σ.1).data.toList p.data.toList = H from hH] at HC
  rw [hR, hH] at HE
  rw [hH]
  clear h hR hH
  go_enter Tryz.func181, Tryz.ntmps181
  go_wp2_with fail
  refine Calls.mono HC.out ?_
  rintro e w1 ⟨rfl, rfl⟩
  go_wp2
  go_ret
  exact HE.out
set_option maxRecDepth 100000 in
theorem jmust (g : Nat) (σ : JS) (p : ByteArray) (w : World) (h : JrAt w g σ) :
    Calls Tryz.prog 88 #[.pointer (some ⟨g, 0, none⟩), .string p] w (JrPost g (mustJ p.data.toList σ) (.tuple #[]) w) := by
  obtain ⟨l, b⟩ := σ
  have y1 : w.cell? ⟨g, 1, none⟩ = some (.bool b) := Blk.cell h 1
  have hl := Blk.lt h
  cases b with
  | true =>
    have z1 : w.frozen? ⟨g, 1, none⟩ = false := Blk.thaw h 1
    have HE := Lib.hid (show JrPost g (mustJ p.data.toList (l, true)) (.tuple #[]) w (.returned (.tuple #[])) (w.setCell ⟨g, 1, none⟩ (.bool true)) from ⟨rfl, Blk.eq (Blk.set h 1 _) (by simp [mustJ]), grow_set _ _ _ _⟩)
    clear h
    go_enter Tryz.func88, Tryz.ntmps88
    go_wp2
    go_end0
    exact HE.out
  | false =>
    have HI := Lib.hid (jis g (l, false) p w h)
    have Hm := Lib.hid (show mustJ p.data.toList (l, false) = (trimPrefix l p.data.toList, !hasPrefix l p.data.toList) from rfl)
    obtain ⟨M, hM⟩ : ∃ M, mustJ p.data.toList (l, false) = M := ⟨_, rfl⟩
    rw [hM] at Hm ⊢
    obtain ⟨H, hH⟩ : ∃ H, hasPrefix l p.data.toList = H := ⟨_, rfl⟩
    rw [hH] at Hm
    simp only [hH] at HI
    clear h hM hH
    go_enter Tryz.func88, Tryz.ntmps88
    go_wp2_with fail
    refine Calls.mono HI.out ?_
    rintro e w1 ⟨rfl, hJ, hg⟩
    have x1 : w1.cell? ⟨g, 1, none⟩ = some (.bool false) := Blk.cell hJ 1
    have z1 : w1.frozen? ⟨g, 1, none⟩ = false := Blk.thaw hJ 1
    have hl1 := Blk.lt hJ
    have HE := Lib.hid (show JrPost g M (.tuple #[]) w (.returned (.tuple #[])) (w1.setCell ⟨g, 1, none⟩ (.bool (!H))) from ⟨rfl, Blk.eq (Blk.set hJ 1 _) (by rw [Hm.out]; simp), bes_set hg _ _⟩)
    clear hJ hg
    go_wp2
    go_end0
    exact HE.out
/-- The variables that the library's errors lie in. -/
structure ErrVars (w : World) (g : Nat) : Prop where
  s : ∃ t p, w.cell? ⟨2, 0, none⟩ = some (.iface t p)
  r : ∃ t p, w.cell? ⟨3, 0, none⟩ = some (.iface t p)
  sne : 2 ≠ g
  rne : 3 ≠ g
theorem cell_but {w w' : World} {g b o : Nat} {v : Value} (hg : w.grownBy w' (some g)) (hne : b ≠ g) (h : w.cell? ⟨b, o, none⟩ = some v) : w'.cell? ⟨b, o, none⟩ = some v :=
  (World.cell?_of_block (hg.block b (block_lt_of_cell h) (by simp [hne]))).trans h
theorem ErrVars.grow {w w' : World} {g : Nat} (h : ErrVars w g) (hg : w.grownBy w' (some g)) : ErrVars w' g := by
  obtain ⟨⟨t, p, h1⟩, ⟨t', p', h2⟩, h3, h4⟩ := h
  exact ⟨⟨t, p, cell_but hg h3 h1⟩, ⟨t', p', cell_but hg h4 h2⟩, h3, h4⟩
/-- The reader, and what its methods want. -/
structure JrOk (w : World) (g : Nat) (σ : JS) : Prop where
  at_ : JrAt w g σ
  err : ErrVars w g
  len : σ.1.length ≤ 60000
def JoPost (g : Nat) (σ : JS) (v : Value) (w : World) (e : Ending) (w' : World) : Prop := e = .returned v ∧ JrOk w' g σ ∧ w.grownBy w' (some g)
theorem JrOk.drew {w : World} {g : Nat} {σ : JS} (h : JrOk w g σ) : JrOk w.drew g σ := ⟨h.at_, ⟨h.err.s, h.err.r, h.err.sne, h.err.rne⟩, h.len⟩
theorem JoPost.drew {g : Nat} {σ : JS} {v : Value} {w W : World} {e : Ending} (h : JoPost g σ v w e W) : JoPost g σ v w e W.drew := ⟨h.1, h.2.1.drew, h.2.2.os, h.2.2.tape, h.2.2.output, h.2.2.size, h.2.2.block⟩
theorem jis_any (g : Nat) (σ : JS) (p : ByteArray) (w : World) (h : JrOk w g σ) :
    Calls Tryz.prog 181 #[.pointer (some ⟨g, 0, none⟩), .string p] w (JoPost g (trimPrefix σ.1 p.data.toList, σ.2) (.bool (hasPrefix σ.1 p.data.toList)) w) :=
  (jis g σ p w h.at_).mono fun e w' ⟨h1, h2, h3⟩ => ⟨h1, ⟨h2, h.err.grow h3, Nat.le_trans (trim_len _ _) h.len⟩, h3⟩
theorem jmust_any (g : Nat) (σ : JS) (p : ByteArray) (w : World) (h : JrOk w g σ) :
    Calls Tryz.prog 88 #[.pointer (some ⟨g, 0, none⟩), .string p] w (JoPost g (mustJ p.data.toList σ) (.tuple #[]) w) :=
  (jmust g σ p w h.at_).mono fun e w' ⟨h1, h2, h3⟩ => ⟨h1, ⟨h2, h.err.grow h3, Nat.le_trans (must_len _ _) h.len⟩, h3⟩
theorem atoi_any (l : List UInt8) (hl : l.length ≤ 60000) (w : World) (g : Nat) (h : ErrVars w g) :
    Calls Tryz.prog 182 #[.string (BA l)] w fun e w' => ∃ v E, e = .returned (.tuple #[.int .i64 v, E]) ∧ Below w.heap.size w w' ∧ ((E = .nilIface ∧ atoiAll l = .ok v) ∨ (∃ t p, E = .iface t p ∧ atoiAll l = .syntax ∧ v = 0) ∨ (∃ t p, E = .iface t p ∧ atoiAll l = .range ∧ v = atoiSat l)) := by
  have hz : (BA l).size ≤ 60000 := by rw [BA_size]; exact hl
  rcases ha : atoiAll l with v | _ | _
  · refine (Any.strconv_Atoi_ok layAtoi (BA l) (by omega) v ha w).mono ?_
    rintro e w' ⟨rfl, hw⟩
    refine ⟨v, _, rfl, ?_, .inl ⟨rfl, rfl⟩⟩
    rcases hw with rfl | ⟨t, rfl⟩
    · exact Below.refl _ _
    · exact Lib.bytesWorld_below _ _ _
  · obtain ⟨t, p, hc⟩ := h.s
    refine (Any.strconv_Atoi_syntax layAtoi (BA l) (by omega) ha _ w hc (.inr ⟨t, p, rfl⟩)).mono ?_
    rintro e w' ⟨N, rfl, _, _, hb⟩
    exact ⟨0, _, rfl, hb, .inr (.inl ⟨_, _, rfl, rfl, rfl⟩)⟩
  · obtain ⟨t, p, hc⟩ := h.r
    refine (Any.strconv_Atoi_range layAtoi (BA l) (by omega) ha _ w hc (.inr ⟨t, p, rfl⟩)).mono ?_
    rintro e w' ⟨N, rfl, _, _, hb⟩
    exact ⟨_, _, rfl, hb, .inr (.inr ⟨_, _, rfl, rfl, rfl⟩)⟩
end Go.Proofs.YtoeejfhdjmkpcaaGreatDoor
/- The walk of the reference's Quote. -/
namespace Go.Proofs.YtoeejfhdjmkpcaaGreatDoor
open Go.RowKit
theorem hexcut : ∀ n : Fin 16, (hexS.extract n.val 16).extract 0 1 = ⟨#[hexB n.val]⟩ := by decide +kernel
theorem hexcut_size : ∀ n : Fin 16, 1 ≤ (hexS.extract n.val 16).size := by decide +kernel
theorem hex_cut (n : Int) (h0 : 0 ≤ n) (h1 : n < 16) : ∃ X : ByteArray, (∀ W : World, (Instr.slice 9 (.string ⟨#[48, 49, 50, 51, 52, 53, 54, 55, 56, 57, 97, 98, 99, 100, 101, 102]⟩) (some (.int .u8 n)) none none).run Tryz.prog W = .ok (.string X) W) ∧
    (∀ W : World, (Instr.slice 9 (.string X) none (some (.int .i64 1)) none).run Tryz.prog W = .ok (.string ⟨#[hexB n.toNat]⟩) W) := by
  have hf := hexcut ⟨n.toNat, by omega⟩
  have hz := hexcut_size ⟨n.toNat, by omega⟩
  refine ⟨hexS.extract n.toNat 16, fun W => ?_, fun W => ?_⟩
  · have h := run_slice_string_from_if (P := Tryz.prog) W 9 hexS .u8 n Tryz.underlying9
    rw [if_pos ⟨h0, by have : hexS.size = 16 := rfl; omega⟩] at h
    exact h
  · have h := run_slice_string_to_if (P := Tryz.prog) W 9 (hexS.extract n.toNat 16) .i64 1 Tryz.underlying9
    rw [if_pos ⟨by omega, by simp only at hz; omega⟩] at h
    rw [h]
    exact congrArg (fun x => Result.ok (Value.string x) W) hf
/-- s[k:k+1] of a string. -/
theorem cut_one {s : ByteArray} {k : Nat} {c : UInt8} (h : k < s.size) (hc : s[k] = c) (W : World) : (Instr.slice 9 (.string s) (some (.int .i64 (k : Int))) (some (.int .i64 ((k : Int) + 1))) none).run Tryz.prog W = .ok (.string ⟨#[c]⟩) W := by
  rw [run_slice_string W 9 s .i64 .i64 (k : Int) ((k : Int) + 1) Tryz.underlying9 (by omega) (by omega) (by omega)]
  have e1 : ((k : Int) + 1).toNat = k + 1 := by omega
  rw [Int.toNat_natCast, e1]
  congr 2
  apply ByteArray.ext
  rw [ByteArray.data_extract]
  apply Array.toList_inj.1
  subst hc
  have hk : k < s.data.toList.length := by simpa using h
  rw [Array.toList_extract]
  show List.take (k + 1 - k) (List.drop k s.data.toList) = [s.data.toList[k]]
  rw [List.drop_eq_getElem_cons hk]
  simp
theorem take_snocQ {O : ByteArray} {l : List UInt8} (h : O.data.toList = l) (x : ByteArray) : (O ++ x).data.toList = l ++ x.data.toList := by rw [ByteArray.toList_data_append, h]
def RQInv (s : ByteArray) (v i : Value) : Prop :=
  ∃ (k : Nat) (O : ByteArray), v = .string O ∧ i = .int .i64 k ∧ k ≤ s.size ∧ O.data.toList = quoteP (s.data.toList.take k)
theorem RQInv.size {O : ByteArray} {l : List UInt8} (h : O.data.toList = quoteP l) : O.size ≤ 6 * l.length + 1 := by
  have := quoteP_len l
  rw [← h] at this
  simpa using this
set_option maxRecDepth 100000 in
set_option maxHeartbeats 1000000 in
theorem rQuote_any (s : ByteArray) (w : World) (hs : 6 * s.size + 8 ≤ 140737488355328) :
    Calls Tryz.prog 190 #[.string s] w fun e w' => e = .returned (.string ⟨(quoteL s.data.toList).toArray⟩) ∧ Below w.heap.size w w' := by
  have hs2 : s.size ≤ 140737488355328 := by omega
  have Hs := Lib.hid hs
  clear hs
  go_enter Tryz.func190, Tryz.ntmps190
  go_wp2
  go_loopw [3, 4, 5, 8, 16, 25] (fun v _ _ i _ _ wr => RQInv s v i ∧ ∃ n, wr = w.drewN n) (fun _ _ _ i _ _ _ => s.size - (intOf i).toNat)
  case atStart => exact ⟨⟨0, _, rfl, rfl, by omega, rfl⟩, 0, rfl⟩
  case round =>
    obtain ⟨⟨k, O, rfl, rfl, hk, hO⟩, n, rfl⟩ := hrel
    have hsz : O.size ≤ 140737488355328 := by
      have h1 := RQInv.size hO
      rw [List.length_take] at h1
      have := Hs.out
      omega
    have HO := Lib.hid hO
    clear hO
    by_cases hlt : k < s.size
    · obtain ⟨c, hc⟩ : ∃ c : UInt8, s[k] = c := ⟨_, rfl⟩
      have hc2 : c.toNat < 256 := c.toNat_lt
      have Hi := idx_str hlt (congrArg UInt8.toNat hc)
      have Hsl := cut_one hlt hc
      have Hst := Lib.hid (show quoteP (s.data.toList.take (k + 1)) = quoteP (s.data.toList.take k) ++ quoteB c from by rw [toList_take_succ hlt, hc, quoteP_snoc])
      clear hc
      by_cases h34 : c = 34
      · subst h34
        go_wp2
        exact ⟨⟨⟨k + 1, _, rfl, by go_num, by omega, by rw [Hst.out, take_snocQ HO.out]; rfl⟩, n, rfl⟩, by simp only [intOf]; omega⟩
      have e1 : (c == 34) = false := by rw [beq_eq_false_iff_ne]; exact h34
      by_cases h92 : c = 92
      · subst h92
        clear h34
        go_wp2
        exact ⟨⟨⟨k + 1, _, rfl, by go_num, by omega, by rw [Hst.out, take_snocQ HO.out]; rfl⟩, n, rfl⟩, by simp only [intOf]; omega⟩
      have e2 : (c == 92) = false := by rw [beq_eq_false_iff_ne]; exact h92
      by_cases h32 : c.toNat < 32
      · have Hlow := Lib.hid (quoteB_low h32)
        obtain ⟨X, hX1, hX2⟩ := hex_cut ((c.toNat : Int) / 16) (by omega) (by omega)
        obtain ⟨Y, hY1, hY2⟩ := hex_cut ((c.toNat : Int) % 16) (by omega) (by omega)
        have Hlo := Lib.hid (show ((c.toNat : Int) % 16).toNat = c.toNat % 16 from by omega)
        have Hhi := Lib.hid (show ((c.toNat : Int) / 16).toNat = c.toNat / 16 from by omega)
        clear h34 h92
        go_wp2
        go_quiet (fail)
        go_wp2
        exact ⟨⟨⟨k + 1, _, rfl, by go_num, by omega, by rw [Hst.out, Hlow.out, take_snocQ HO.out, ByteArray.toList_data_append, ByteArray.toList_data_append]; rfl⟩, _, rfl⟩, by simp only [intOf]; omega⟩
      · have Hpl := Lib.hid (quoteB_plain (c := c) (fun h => h34 (UInt8.toNat_inj.1 h)) (fun h => h92 (UInt8.toNat_inj.1 h)) h32)
        clear h34 h92
        go_wp2
        exact ⟨⟨⟨k + 1, _, rfl, by go_num, by omega, by rw [Hst.out, Hpl.out, take_snocQ HO.out]⟩, n, rfl⟩, by simp only [intOf]; omega⟩
    · have Hall := Lib.hid (show s.data.toList.take k = s.data.toList from List.take_of_length_le (by simp; omega))
      go_wp2
      go_ret
      refine ⟨ret_str ?_, ⟨rfl, rfl, rfl, Nat.le_refl _, fun _ _ => rfl⟩⟩
      apply ByteArray.ext
      apply Array.toList_inj.1
      rw [take_snocQ HO.out, Hall.out]
      simp [quoteL]
end Go.Proofs.YtoeejfhdjmkpcaaGreatDoor
