/- The walk of the reference Frames. -/
import Derived.Test.YtdogdhlpkbcneaaFrmDecR
import Derived.Test.YtdogdhlpkbcneaaEqFrm
import Derived.Test.YtdogdhlpkbcneaaPlFrs
namespace Go.Proofs.Ytdogdhlpkbcneaa
open Go.RowKit
def zeroF : Value := .agg #[.int .i64 0, .int .i64 0, .string ⟨#[]⟩]
theorem infoFrame : (Try.prog.info? 40).map (fun i => (i.zero, i.size, i.bytes)) = some (some zeroF, 3, 32) := by kernel_rfl
theorem frmC_one (f : FrameM) : ∀ u ∈ frmC f, u.oneCell' = true := by
  intro u hu
  simp only [frmC, List.mem_cons, List.not_mem_nil, or_false] at hu
  rcases hu with rfl | rfl | rfl <;> rfl
theorem own_below {w w' : World} {base : Nat} {e : TypeId} {sz n : Nat} {v : Value} {xs : List Value} (h : w.ownsRow base e sz v n xs) (hb : Below w.heap.size w w') : w'.ownsRow base e sz v n xs :=
  h.kept (row := none) ⟨hb.os, hb.tape, hb.output, hb.size, fun k hk _ => hb.block k hk⟩ (by
    by_cases h : v.ownBlock = none
    · exact .inl h
    · exact .inr h)
theorem rdec_eq {s : ByteArray} {f : FrameM} {n e : Nat} (h : decF s = (f, n, e)) (w : World) (hs : s.size ≤ 9223372036854775807) :
    Calls Try.prog 28 #[.string s] w fun x w' => x = .returned (.tuple #[.agg #[.int .i64 f.ver, .int .i64 f.kind, .string f.pay], .int .i64 (n : Int), .int .i64 (e : Int)]) ∧ Below w.heap.size w w' := by
  have h1 := rdec_any s w hs
  unfold DecPost decV at h1
  rw [h] at h1
  exact h1
theorem dec_eq {s : ByteArray} {f : FrameM} {n e : Nat} (h : decF s = (f, n, e)) (w : World) (hs : s.size ≤ 9223372036854775807) :
    Calls Try.prog 27 #[.string s] w fun x w' => x = .returned (.tuple #[.agg #[.int .i64 f.ver, .int .i64 f.kind, .string f.pay], .int .i64 (n : Int), .int .i64 (e : Int)]) ∧ Below w.heap.size w w' := by
  have h1 := dec_any s w hs
  unfold DecPost decV at h1
  rw [h] at h1
  exact h1
def FrsPost (fs : List FrameM) (m e : Nat) (w : World) (x : Ending) (w' : World) : Prop :=
  ∃ A n c, x = .returned (.tuple #[.slice A n c, .int .i64 (m : Int), .int .i64 (e : Int)]) ∧ fs.length = n ∧ SlAt w' w'.heap.size 3 A n (rowsV frmC fs) ∧ Below w.heap.size w w'
def FInv (s : ByteArray) (fs : List FrameM) (m e : Nat) (w : World) (out at_ : Value) (wr : World) : Prop :=
  ∃ (done left : List FrameM) (A : Option Addr) (n c a m' : Nat), fs = done ++ left ∧ m = a + m' ∧ out = .slice A n c ∧ at_ = .int .i64 (a : Int) ∧ n ≤ a ∧ a ≤ s.size ∧ Frs (s.extract a s.size) left m' e ∧ wr.ownsRow w.heap.size 40 3 (.slice A n c) n (rowsV frmC done) ∧ Below w.heap.size w wr
set_option maxRecDepth 100000 in
set_option maxHeartbeats 800000 in
theorem rframes_any {s : ByteArray} {fs : List FrameM} {m e : Nat} (h : Frs s fs m e) (w : World) (hs : s.size ≤ 2097152) :
    Calls Try.prog 31 #[.string s] w (FrsPost fs m e w) := by
  have hh := Lib.hid h
  clear h
  go_enter Try.func31, Try.ntmps31
  go_wp2
  go_loopw [2, 3, 4, 5, 6, 7, 8, 9, 10] (fun _ _ _ out at_ _ _ _ _ wr => FInv s fs m e w out at_ wr) (fun _ _ _ _ at_ _ _ _ _ _ => s.size - (intOf at_).toNat)
  case atStart => exact ⟨[], fs, none, 0, 0, 0, m, rfl, by omega, rfl, rfl, Nat.le_refl _, Nat.zero_le _, by rw [show s.extract 0 s.size = s from by simp]; exact hh.out, World.ownsRow_nil _ _ _ _, Below.refl _ _⟩
  case round =>
    obtain ⟨done, left, A, n, c, a, m', hfs, hm, rfl, rfl, hna, ha, hF, ho, hb⟩ := hrel
    have q1 : ∀ W : World, (Instr.slice 9 (.string s) (some (.int .i64 (a : Int))) none none).run Try.prog W = .ok (.string (s.extract a s.size)) W := fun W => by
      rw [run_slice_string_from_if (P := Try.prog) (w := W) 9 s .i64 (a : Int) Try.underlying9, if_pos ⟨by omega, by omega⟩, show ((a : Int)).toNat = a from by omega]
    have hsz := Lib.hid (show (s.extract a s.size).size ≤ 9223372036854775807 from by rw [ByteArray.size_extract]; omega)
    cases hF with
    | stop hd he =>
      have hd := Lib.hid hd
      have e1 : ((e : Int) != 0) = true := by simp; omega
      have fin := Lib.hid (show fs = done from by rw [hfs]; simp)
      have hm := Lib.hid (show m = a from hm)
      clear hfs he
      go_wp2_with fail
      refine Calls.mono (rdec_eq hd.out _ hsz.out) ?_
      rintro x w1 ⟨rfl, hb1⟩
      have ho1 := Lib.hid ((own_below ho hb1).alloc (.cells #[.int .i64 0, .int .i64 0, .string ⟨#[]⟩] 40))
      have hB := Lib.hid ((hb.trans (hb1.mono hb.size)).alloc (Nat.le_trans hb.size hb1.size) (.cells #[.int .i64 0, .int .i64 0, .string ⟨#[]⟩] 40))
      have hlen := Lib.hid (show done.length = n from by have := ho.1; rw [rowsV_length frmC_len] at this; omega)
      clear ho hb hb1 q1
      go_wp2
      refine bodyPost_ret (v := .tuple #[.slice A n c, .int .i64 (a : Int), .int .i64 (e : Int)]) (by simp [results, Try.results31, go_sem]) rfl ?_
      exact ⟨A, n, c, by rw [hm.out], by rw [fin.out]; exact hlen.out, by rw [fin.out]; exact own_slAt ho1.out, hB.out⟩
    | @step _ f n1 fs1 m1 _ hd h1 h2 hF =>
      have hd := Lib.hid hd
      rw [ByteArray.size_extract] at h2
      have hF1 := Lib.hid (show Frs (s.extract (a + n1) s.size) fs1 m1 e from by
        have e0 : (s.extract a s.size).extract n1 (s.extract a s.size).size = s.extract (a + n1) s.size := by
          rw [ByteArray.extract_extract, ByteArray.size_extract]
          congr 1
          omega
        rw [← e0]; exact hF)
      have fin := Lib.hid (show fs = (done ++ [f]) ++ fs1 from by rw [hfs]; simp)
      have hm := Lib.hid (show m = (a + n1) + m1 from by omega)
      clear hfs hF
      obtain ⟨ver, kind, pay⟩ := f
      go_wp2_with fail
      refine Calls.mono (rdec_eq hd.out _ hsz.out) ?_
      rintro x w1 ⟨rfl, hb1⟩
      dsimp only
      have ho1 := (own_below ho hb1).alloc (.cells #[.int .i64 (ver : Int), .int .i64 (kind : Int), .string pay] 40)
      have hB := Lib.hid ((hb.trans (hb1.mono hb.size)).alloc (Nat.le_trans hb.size hb1.size) (.cells #[.int .i64 (ver : Int), .int .i64 (kind : Int), .string pay] 40))
      have hbr := hB.out.size
      have hlt := ho1.lt
      have Hlt := Lib.hid hlt
      clear ho hb hb1 q1 hlt
      go_wp2_with (at_builtin; refine push_rec frmC rfl _ _ 49 40 zeroF 3 32 rfl Try.underlying49 infoFrame rfl (by decide) frmC_len frmC_one w.heap.size _ _ _ done rfl ho1 _ ⟨ver, kind, pay⟩ rfl _ (by simp) rfl (by omega) (by unfold maxLen; omega) hbr ?_; intro A2 c2 w2 ho2 hg2)
      go_roundw
      case rel => exact ⟨done ++ [⟨ver, kind, pay⟩], fs1, A2, n + 1, c2, a + n1, m1, fin.out, hm.out, rfl, by go_num, by omega, by omega, hF1.out, ho2, hB.out.trans (hg2.below hbr (fun g hg => (Hlt.out g hg).1))⟩
      case measure => simp [intOf]; omega
end Go.Proofs.Ytdogdhlpkbcneaa
