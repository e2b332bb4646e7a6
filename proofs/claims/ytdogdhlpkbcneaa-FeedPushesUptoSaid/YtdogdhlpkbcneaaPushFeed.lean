/- The walk of Feed.Push. -/
import Derived.Test.YtdogdhlpkbcneaaFrsR
namespace Go.Proofs.Ytdogdhlpkbcneaa
open Go.RowKit
theorem Blk.eq {w : World} {g : Nat} {t : TypeId} {cs cs' : Array Value} (h : Blk w g t cs) (e : cs = cs') : Blk w g t cs' := e ▸ h
section
variable {w a b : World} {g : Nat}
theorem bes_below (h : w.grownBy a (some g)) (hb : Below a.heap.size a b) : w.grownBy b (some g) :=
  ⟨hb.os.trans h.os, hb.tape.trans h.tape, hb.output.trans h.output, Nat.le_trans h.size hb.size, fun k hk hne => (hb.block k (Nat.lt_of_lt_of_le hk h.size)).trans (h.block k hk hne)⟩
theorem bes_set (h : w.grownBy a (some g)) (i : Nat) (v : Value) : w.grownBy (a.setCell ⟨g, i, none⟩ v) (some g) :=
  ⟨h.os, h.tape, h.output, by have := h.size; simp [World.setCell]; omega, fun k hk hne => (Below.heap_setCell a ⟨g, i, none⟩ v k (fun e => hne (by rw [e]))).trans (h.block k hk hne)⟩
theorem bes_grew {v v' : Value} (h : w.grownBy a (some g)) (hg : Grew a b v v') (hv : ∀ k, v.ownBlock = some k → w.heap.size ≤ k) : w.grownBy b (some g) :=
  ⟨hg.grown.os.trans h.os, hg.grown.tape.trans h.tape, hg.grown.output.trans h.output, Nat.le_trans h.size hg.grown.size, fun k hk hne =>
    (hg.grown.block k (Nat.lt_of_lt_of_le hk h.size) (fun e => by have := hv k e.symm; omega)).trans (h.block k hk hne)⟩
theorem Blk.grew {v v' : Value} {t : TypeId} {cs : Array Value} (h : Blk a g t cs) (hg : Grew a b v v') (hv : ∀ k, v.ownBlock = some k → g < k) : Blk b g t cs :=
  (hg.grown.block g h.lt (fun e => by have := hv g e.symm; omega)).trans h
end
/-- A feed's block. -/
def FeedAt (w : World) (g : Nat) (rest : ByteArray) (at_ : Int) (stuck : Int) : Prop := Blk w g 68 #[.string rest, .int .i64 at_, .int .i64 stuck]
def PInv (s : ByteArray) (g at0 : Nat) (fs : List FrameM) (m e : Nat) (w : World) (out : Value) (wr : World) (k : Nat) : Prop :=
  ∃ (done left : List FrameM) (A : Option Addr) (n c a m' : Nat), fs = done ++ left ∧ m = a + m' ∧ out = .slice A n c ∧ n ≤ a ∧ a ≤ s.size ∧ k = s.size - a ∧ Frs (s.extract a s.size) left m' e ∧ wr.ownsRow w.heap.size 40 3 (.slice A n c) n (rowsV frmC done) ∧ w.grownBy wr (some g) ∧ FeedAt wr g (s.extract a s.size) ((at0 : Int) + (a : Int)) 0
def PushPost (s : ByteArray) (g at0 : Nat) (fs : List FrameM) (m e : Nat) (w : World) (x : Ending) (w' : World) : Prop :=
  ∃ A n c, x = .returned (.tuple #[.slice A n c, .int .i64 (if e = 3 then 0 else (e : Int))]) ∧ fs.length = n ∧ SlAt w' w'.heap.size 3 A n (rowsV frmC fs) ∧ w.grownBy w' (some g) ∧
    FeedAt w' g (if e = 3 then s.extract m s.size else ⟨#[]⟩) ((at0 : Int) + (m : Int)) (if e = 3 then 0 else (e : Int))
set_option maxRecDepth 100000 in
set_option maxHeartbeats 1000000 in
theorem push_any {rest p s : ByteArray} {g at0 : Nat} {fs : List FrameM} {m e : Nat} (w : World) (hs : rest ++ p = s) (h : Frs s fs m e) (hF : FeedAt w g rest at0 0) (hsz : s.size ≤ 2097152) (hat : at0 ≤ 2097152) :
    Calls Try.prog 30 #[.pointer (some ⟨g, 0, none⟩), .string p] w (PushPost s g at0 fs m e w) := by
  have hh := Lib.hid h
  have hlt := hF.lt
  have x0 : w.cell? ⟨g, 0, none⟩ = some (.string rest) := Blk.cell hF 0
  have x2 : w.cell? ⟨g, 2, none⟩ = some (.int .i64 0) := Blk.cell hF 2
  have t0 := Blk.thaw hF 0
  have hB0 := Lib.hid (show FeedAt (w.setCell ⟨g, 0, none⟩ (.string s)) g s (at0 : Int) 0 from Blk.eq (Blk.set hF 0 _) (by simp))
  have hpl : ¬ 9223372036854775807 < rest.size + p.size := by
    have := congrArg ByteArray.size hs
    rw [ByteArray.size_append] at this; omega
  have hpl2 : rest.size + p.size ≤ 9223372036854775807 := by omega
  clear h hF
  go_enter Try.func30, Try.ntmps30
  go_wp2
  go_loopg [4, 5, 6, 7, 8, 9, 27] s.size (fun k _ _ out _ _ _ _ wr => PInv s g at0 fs m e w out wr k)
  case atStart => exact ⟨[], fs, none, 0, 0, 0, m, rfl, by omega, rfl, Nat.le_refl _, Nat.zero_le _, rfl, by rw [show s.extract 0 s.size = s from by simp]; exact hh.out, World.ownsRow_nil _ _ _ _, bes_set (World.grownBy.refl w _) _ _, by rw [show s.extract 0 s.size = s from by simp]; exact Blk.eq hB0.out (by simp)⟩
  case round =>
    obtain ⟨done, left, A, n, c, a, m', hfs, hm, rfl, hna, ha, rfl, hF, ho, hg, hB⟩ := hrel
    have y0 : wr.cell? ⟨g, 0, none⟩ = some (.string (s.extract a s.size)) := Blk.cell hB 0
    have hsz1 := Lib.hid (show (s.extract a s.size).size ≤ 9223372036854775807 from by rw [ByteArray.size_extract]; omega)
    have hgl := hB.lt
    have HB := Lib.hid hB
    clear x0 x2 t0 hB0 hpl hpl2 hs hB
    cases hF with
    | stop hd he =>
      have hd := Lib.hid hd
      have e1 : ((e : Int) == 0) = false := by simp; omega
      have fin := Lib.hid (show fs = done from by rw [hfs]; simp)
      have hm := Lib.hid (show m = a from hm)
      clear hfs
      go_wp2_with fail
      refine Calls.mono (dec_eq hd.out _ hsz1.out) ?_
      rintro x w1 ⟨rfl, hb1⟩
      have ho1 := Lib.hid ((own_below ho hb1).alloc (.cells #[.int .i64 0, .int .i64 0, .string ⟨#[]⟩] 40))
      have hb2 := hb1.alloc hb1.size (.cells #[.int .i64 0, .int .i64 0, .string ⟨#[]⟩] 40)
      have hG := Lib.hid (bes_below hg hb2)
      have hB1 := HB.out.below hb2 hgl
      have z0 : w1.cell? ⟨g, 0, none⟩ = some (.string (s.extract a s.size)) := Blk.cell (Blk.below HB.out hb1 hgl) 0
      have z2 : w1.cell? ⟨g, 2, none⟩ = some (.int .i64 0) := Blk.cell (Blk.below HB.out hb1 hgl) 2
      have t0 := Blk.thaw (Blk.below HB.out hb1 hgl) 0
      have t2 := Blk.thaw (Blk.below HB.out hb1 hgl) 2
      have hgl1 : g < w1.heap.size := by have := hb1.size; omega
      have HB1 := Lib.hid hB1
      have hlen := Lib.hid (show done.length = n from by have := ho.1; rw [rowsV_length frmC_len] at this; omega)
      have hoE := Lib.hid ((own_below ho hb1).kept (row := some g) (bes_set (bes_set (World.grownBy.refl w1 _) 0 (.string ⟨#[]⟩)) 2 (.int .i64 (e : Int))) (.inr (fun h => by have := ((own_below ho hb1).lt g h).1; omega)))
      have hGE := Lib.hid (bes_set (bes_set (bes_below hg hb1) 0 (.string ⟨#[]⟩)) 2 (.int .i64 (e : Int)))
      have hBE := Lib.hid (show FeedAt ((w1.setCell ⟨g, 0, none⟩ (.string ⟨#[]⟩)).setCell ⟨g, 2, none⟩ (.int .i64 (e : Int))) g ⟨#[]⟩ ((at0 : Int) + (a : Int)) (e : Int) from Blk.eq ((Blk.set (Blk.below HB.out hb1 hgl) 0 _).set 2 _) (by simp))
      clear ho hb1 hb2 hg hB1 y0
      by_cases h3 : e = 3
      · subst h3
        clear e1 he
        go_wp2
        refine bodyPost_ret (v := .tuple #[.slice A n c, .int .i64 0]) (by simp [results, Try.results30, go_sem]) rfl ?_
        exact ⟨A, n, c, rfl, by rw [fin.out]; exact hlen.out, by rw [fin.out]; exact own_slAt ho1.out, hG.out, by rw [hm.out]; exact HB1.out⟩
      · have e2 : ((e : Int) == 3) = false := by simp; omega
        go_wp2
        refine bodyPost_ret (v := .tuple #[.slice A n c, .int .i64 (e : Int)]) (by simp [results, Try.results30, go_sem]) rfl ?_
        exact ⟨A, n, c, by rw [if_neg h3], by rw [fin.out]; exact hlen.out, by rw [fin.out]; exact own_slAt (hoE.out.alloc _), bes_below hGE.out ((Below.refl _ _).alloc (Nat.le_refl _) _), by rw [hm.out, if_neg h3, if_neg h3]; exact hBE.out.alloc _⟩
    | @step _ f n1 fs1 m1 _ hd h1 h2 hF =>
      have hd := Lib.hid hd
      have h2' := h2
      rw [ByteArray.size_extract] at h2'
      have e0 : (s.extract a s.size).extract n1 (s.extract a s.size).size = s.extract (a + n1) s.size := by
        rw [ByteArray.extract_extract, ByteArray.size_extract]
        congr 1
        omega
      have hF1 := Lib.hid (show Frs (s.extract (a + n1) s.size) fs1 m1 e from by rw [← e0]; exact hF)
      have q1 : ∀ W : World, (Instr.slice 9 (.string (s.extract a s.size)) (some (.int .i64 (n1 : Int))) none none).run Try.prog W = .ok (.string (s.extract (a + n1) s.size)) W := fun W => by
        rw [run_slice_string_from_if (P := Try.prog) (w := W) 9 (s.extract a s.size) .i64 (n1 : Int) Try.underlying9, if_pos ⟨by omega, by omega⟩, show ((n1 : Int)).toNat = n1 from by omega, e0]
      have fin := Lib.hid (show fs = (done ++ [f]) ++ fs1 from by rw [hfs]; simp)
      have hm := Lib.hid (show m = (a + n1) + m1 from by omega)
      clear hfs hF e0
      obtain ⟨ver, kind, pay⟩ := f
      go_wp2_with fail
      refine Calls.mono (dec_eq hd.out _ hsz1.out) ?_
      rintro x w1 ⟨rfl, hb1⟩
      dsimp only
      have ho1 := (own_below ho hb1).alloc (.cells #[.int .i64 (ver : Int), .int .i64 (kind : Int), .string pay] 40)
      have hb2 := hb1.alloc hb1.size (.cells #[.int .i64 (ver : Int), .int .i64 (kind : Int), .string pay] 40)
      have hG := Lib.hid (bes_below hg hb2)
      have hbr := hG.out.size
      have HB1 := Lib.hid (HB.out.below hb2 hgl)
      have Hlt := Lib.hid ho1.lt
      clear ho hb1 hb2 hg y0
      go_wp2_with (at_builtin; refine push_rec frmC rfl _ _ 49 40 zeroF 3 32 rfl Try.underlying49 infoFrame rfl (by decide) frmC_len frmC_one w.heap.size _ _ _ done rfl ho1 _ ⟨ver, kind, pay⟩ rfl _ (by simp) rfl (by omega) (by unfold maxLen; omega) hbr ?_; intro A2 c2 w2 ho2 hg2; have HB2 := Lib.hid (HB1.out.grew hg2 (fun k hk => by have := (Hlt.out k hk).1; omega)); have y0 := Blk.cell HB2.out 0; have y1 := Blk.cell HB2.out 1; have t0 := Blk.thaw HB2.out 0; have t1 := Blk.thaw HB2.out 1; dsimp at y0 y1)
      go_roundg (s.size - (a + n1))
      case rel => exact ⟨done ++ [⟨ver, kind, pay⟩], fs1, A2, n + 1, c2, a + n1, m1, fin.out, hm.out, rfl, by omega, by omega, rfl, hF1.out, ho2.kept (row := some g) (bes_set (bes_set (World.grownBy.refl w2 _) 0 _) 1 _) (.inr (fun h => by have := (ho2.lt g h).1; omega)), bes_set (bes_set (bes_grew hG.out hg2 (fun k hk => (Hlt.out k hk).1)) _ _) _ _, Blk.eq ((HB2.out.set 0 _).set 1 _) (by simp; omega)⟩
      case measure => omega
end Go.Proofs.Ytdogdhlpkbcneaa
