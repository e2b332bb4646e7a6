/- Of the proof of a statement: FrmDecR, FrsR, PlApp2. -/
import Derived.Lib.QuietBelow
import Derived.Test.YtjgnnobccecpeaaGreatDoorRRdAll
set_option linter.unusedVariables false
set_option linter.unusedSimpArgs false
set_option maxRecDepth 100000
set_option maxHeartbeats 8000000
/- The walk of the reference FrameDecode. -/
namespace Go.Proofs.YtjgnnobccecpeaaGreatDoor
open Go.Lib (hid)
open Go.RowKit
open Go.Sort (grow)
theorem rdec_any (s : ByteArray) (w : World) (hs : s.size ≤ 9223372036854775807) :
 Calls Tryz.prog 174 #[.string s] w (FDecPost s w) := by
 by_cases hd : decH s = 0
 case neg => exact rdec_head s w hs hd
 have ht4 := headTo_of hd
 clear hd
 have hb0 := (ht4.h0 (by omega)).2
 have hb1 := (ht4.h1 (by omega)).2
 have hb2 := (ht4.h2 (by omega)).2
 have hb3 := (ht4.h3 (by omega)).2
 have h4s := (decH_ok ht4).2
 have hH := hid (decH_ok ht4)
 clear ht4
 have e0 : ((byteAt s 0 : Int) != 66) = false := by simp; omega
 have e0' : ((byteAt s 0 : Int) == 66) = true := by simp; omega
 have e1 : ((byteAt s 1 : Int) != 75) = false := by simp; omega
 have i0 : ∀ W : World, (Instr.index 9 (.string s) (.int .i64 0)).run Tryz.prog W = .ok (.int .u8 ((byteAt s 0 : Nat) : Int)) W := byte_num (k := 0) (by omega)
 have i1 : ∀ W : World, (Instr.index 9 (.string s) (.int .i64 1)).run Tryz.prog W = .ok (.int .u8 ((byteAt s 1 : Nat) : Int)) W := byte_num (k := 1) (by omega)
 have i2 : ∀ W : World, (Instr.index 9 (.string s) (.int .i64 2)).run Tryz.prog W = .ok (.int .u8 ((byteAt s 2 : Nat) : Int)) W := byte_num (k := 2) (by omega)
 have i3 : ∀ W : World, (Instr.index 9 (.string s) (.int .i64 3)).run Tryz.prog W = .ok (.int .u8 ((byteAt s 3 : Nat) : Int)) W := byte_num (k := 3) (by omega)
 have v2 : IntKind.i64.wrap (byteAt s 2 : Int) = byteAt s 2 := by rw [IntKind.wrap_i64]; have := byteAt_lt s 2; omega
 have v3 : IntKind.i64.wrap (byteAt s 3 : Int) = byteAt s 3 := by rw [IntKind.wrap_i64]; have := byteAt_lt s 3; omega
 have l0 : decide ((0 : Int) < (s.size : Int)) = true := decide_eq_true (by omega)
 have l1 : decide ((1 : Int) < (s.size : Int)) = true := decide_eq_true (by omega)
 have l2 : decide ((2 : Int) < (s.size : Int)) = true := decide_eq_true (by omega)
 have l3 : decide ((3 : Int) < (s.size : Int)) = true := decide_eq_true (by omega)
 have b1 := hid (show (1 : Int) ≤ (byteAt s 2 : Int) from by omega)
 have b2 := hid (show (byteAt s 2 : Int) ≤ 3 from by omega)
 have c1 := hid (show (1 : Int) ≤ (byteAt s 3 : Int) from by omega)
 have c2 := hid (show (byteAt s 3 : Int) ≤ 4 from by omega)
 have l4 : decide ((s.size : Int) < 4) = false := decide_eq_false (by omega)
 have hT := hid (show (s.extract 4 s.size).size ≤ 9223372036854775807 from by rw [ByteArray.size_extract]; omega)
 clear hb0 hb1 hb2 hb3
 obtain ⟨n, k, x, hrd⟩ : ∃ n k x, rdNum (s.extract 4 s.size) = (n, k, x) := ⟨_, _, _, rfl⟩
 have hr := hid hrd
 obtain ⟨f1, f2, f3, f4⟩ := rdNum_facts hrd
 clear hrd
 go_enter Tryz.func174, Tryz.ntmps174
 go_wp2_with fail
 refine Calls.mono (outside_no _ _ _ b1.out b2.out _) ?_
 rintro e w' ⟨rfl, rfl⟩
 go_wp2_with fail
 refine Calls.mono (outside_no _ _ _ c1.out c2.out _) ?_
 rintro e w' ⟨rfl, rfl⟩
 go_wp2_with fail
 refine Calls.mono (rread_eq hr.out _ hT.out) ?_
 rintro e w' ⟨rfl, rfl⟩
 clear b1 b2 c1 c2 i0 i1 i2 i3 v2 v3 l0 l1 l2 l3 l4 e0 e0' e1
 by_cases hx : x = 0
 · subst hx
   have f5 := f4 rfl
   clear f4 f3
   have f6 : k ≤ s.size - 4 := by have := f5.2; rw [ByteArray.size_extract] at this; omega
   have f7 := f5.1
   clear f5
   by_cases hn : 6000 < n
   · have fin := hid (fun (w' : World) => FDecPost.mk' (w := w) (w' := w') (decF_large hH.out.1 hr.out hn))
     clear f1
     go_wp2_with fail
     refine Calls.mono (rnone_any _ _) ?_
     rintro e w' ⟨rfl, rfl⟩
     go_wp2
     refine bodyPost_ret (v := .tuple #[.agg #[.int .i64 0, .int .i64 0, .string ⟨#[]⟩], .int .i64 0, .int .i64 2]) (by simp [results, Tryz.results174, go_sem]) rfl ?_
     exact fin.out _ (by repeat (first | exact Below.refl _ _ | refine Below.alloc ?_ (by first | (simp; done) | (simp; omega)) _ | refine Below.setCell ?_ (by first | (simp; done) | (simp; omega)) _))
   by_cases hl : s.size < 8 + k + n
   · have fin := hid (fun (w' : World) => FDecPost.mk' (w := w) (w' := w') (decF_short hH.out.1 hr.out hn hl))
     clear f1
     go_wp2_with fail
     refine Calls.mono (rnone_any _ _) ?_
     rintro e w' ⟨rfl, rfl⟩
     go_wp2
     refine bodyPost_ret (v := .tuple #[.agg #[.int .i64 0, .int .i64 0, .string ⟨#[]⟩], .int .i64 0, .int .i64 3]) (by simp [results, Tryz.results174, go_sem]) rfl ?_
     exact fin.out _ (by repeat (first | exact Below.refl _ _ | refine Below.alloc ?_ (by first | (simp; done) | (simp; omega)) _ | refine Below.setCell ?_ (by first | (simp; done) | (simp; omega)) _))
   clear f1
   have q1 : ∀ W : World, (Instr.slice 9 (.string s) none (some (.int .i64 (4 + (k : Int) + n))) none).run Tryz.prog W = .ok (.string (s.extract 0 (4 + k + n))) W := fun W => by
    rw [run_slice_string_to_if (P := Tryz.prog) (w := W) 9 s .i64 (4 + (k : Int) + n) Tryz.underlying9, if_pos ⟨by omega, by omega⟩, show (4 + (k : Int) + n).toNat = 4 + k + n from by omega]
   have q2 : ∀ W : World, (Instr.slice 9 (.string s) (some (.int .i64 (4 + (k : Int) + n))) (some (.int .i64 (4 + (k : Int) + n + 4))) none).run Tryz.prog W = .ok (.string (s.extract (4 + k + n) (8 + k + n))) W := fun W => by
    rw [run_slice_string W 9 s .i64 .i64 (4 + (k : Int) + n) (4 + (k : Int) + n + 4) Tryz.underlying9 (by omega) (by omega) (by omega), show (4 + (k : Int) + n).toNat = 4 + k + n from by omega, show (4 + (k : Int) + n + 4).toNat = 8 + k + n from by omega]
   have q3 : IntKind.i64.wrap (4 + (k : Int) + n + 4 - 4) = 4 + (k : Int) + n := by rw [IntKind.wrap_i64]; omega
   have q3' : IntKind.i64.wrap (4 + (k : Int) + n) = 4 + (k : Int) + n := by rw [IntKind.wrap_i64]; omega
   have q4 := hid (show (s.extract 0 (4 + k + n)).size ≤ 9223372036854775807 from by rw [ByteArray.size_extract]; omega)
   go_wp2_with fail
   generalize hw0 : (w.alloc (.cells #[.int .i64 0, .int .i64 0, .string ⟨#[]⟩] 151)).alloc (.cells #[.int .i64 (byteAt s 2), .int .i64 (byteAt s 3), .string ⟨#[]⟩] 151) = w0
   have hb0 := hid (show Below w.heap.size w w0 from by rw [← hw0]; exact ((Below.refl _ _).alloc (Nat.le_refl _) _).alloc (by simp) _)
   have hB := hid (show Blk w0 w.heap.size 151 #[.int .i64 0, .int .i64 0, .string ⟨#[]⟩] from by rw [← hw0]; exact Blk.alloc (heap_alloc_new w _) _)
   have hC := hid (show Blk w0 (w.heap.size + 1) 151 #[.int .i64 (byteAt s 2), .int .i64 (byteAt s 3), .string ⟨#[]⟩] from by
    rw [← hw0]
    have := heap_alloc_new (w.alloc (.cells #[.int .i64 0, .int .i64 0, .string ⟨#[]⟩] 151)) (.cells #[.int .i64 (byteAt s 2), .int .i64 (byteAt s 3), .string ⟨#[]⟩] 151)
    simpa [Blk] using this)
   clear hw0
   refine wp_region_quiet_below (by kernel_rfl) (by kernel_rfl) ?_
   repeat (quiet_step ((go_at_call 245; exact Calls.regrown_of (rfsum_any _ _ q4.out))))
   refine wpQuiet_nil ?_
   intro _ hw'
   obtain ⟨⟨nq, osq⟩, hw''⟩ := hw'
   subst hw''
   have hx1 := below_regrown w0 nq osq
   dsimp only
   generalize grow (redrawn w0 nq) osq = w1 at hx1
   have hb1 := hid (hb0.out.trans (hx1.mono hb0.out.size))
   have hB1 : Blk w1 w.heap.size 151 #[.int .i64 0, .int .i64 0, .string ⟨#[]⟩] := hB.out.below hx1 hB.out.lt
   have hC1 : Blk w1 (w.heap.size + 1) 151 #[.int .i64 (byteAt s 2), .int .i64 (byteAt s 3), .string ⟨#[]⟩] := hC.out.below hx1 hC.out.lt
   have z0 : w1.cell? ⟨w.heap.size, 0, none⟩ = some (.int .i64 0) := hB1.cell 0
   have z1 : w1.cell? ⟨w.heap.size, 1, none⟩ = some (.int .i64 0) := hB1.cell 1
   have z2 : w1.cell? ⟨w.heap.size, 2, none⟩ = some (.string ⟨#[]⟩) := hB1.cell 2
   have t0 := hB1.thaw 0
   have t1 := hB1.thaw 1
   have t2 := hB1.thaw 2
   have x0 : w1.cell? ⟨w.heap.size + 1, 0, none⟩ = some (.int .i64 (byteAt s 2)) := hC1.cell 0
   have x1 : w1.cell? ⟨w.heap.size + 1, 1, none⟩ = some (.int .i64 (byteAt s 3)) := hC1.cell 1
   have x2 : w1.cell? ⟨w.heap.size + 1, 2, none⟩ = some (.string ⟨#[]⟩) := hC1.cell 2
   have r0 := hC1.thaw 0
   have r1 := hC1.thaw 1
   have r2 := hC1.thaw 2
   have hlt := hB1.lt
   have hlt2 := hC1.lt
   have HB1 := hid hB1
   have Hm0 := hid (show (s.extract 0 (4 + k + n)).data.toList = List.take (4 + k + n) s.data.toList from by rw [Lib.extract_data]; simp)
   have Hm1 := hid (ByteArray.toList_eq (s.extract (4 + k + n) (8 + k + n)))
   clear hB1 hC1 hx1 hb0 hB hC q1 q2
   by_cases hm : (s.extract (4 + k + n) (8 + k + n)).data.toList = sum4 (s.extract 0 (4 + k + n)).data.toList
   · have fin := hid (fun (w' : World) => FDecPost.mk' (w := w) (w' := w') (fdecF_ok hH.out.1 hr.out hn hl hm))
     have e6 : (!(sum4 (List.take (4 + k + n) s.data.toList) == (s.extract (4 + k + n) (8 + k + n)).toList)) = false := by
      have : (sum4 (List.take (4 + k + n) s.data.toList) == (s.extract (4 + k + n) (8 + k + n)).toList) = true := by rw [beq_iff_eq, Hm1.out, hm, Hm0.out]
      rw [this]; rfl
     have q5 : ∀ W : World, (Instr.slice 9 (.string s) (some (.int .i64 (4 + (k : Int)))) (some (.int .i64 (4 + (k : Int) + n))) none).run Tryz.prog W = .ok (.string (s.extract (4 + k) (4 + k + n))) W := fun W => by
      rw [run_slice_string W 9 s .i64 .i64 (4 + (k : Int)) (4 + (k : Int) + n) Tryz.underlying9 (by omega) (by omega) (by omega), show (4 + (k : Int)).toNat = 4 + k from by omega, show (4 + (k : Int) + n).toNat = 4 + k + n from by omega]
     have hBW : Blk ((((w1.setCell ⟨w.heap.size + 1, 2, none⟩ (.string (s.extract (4 + k) (4 + k + n)))).setCell ⟨w.heap.size, 0, none⟩ (.int .i64 (byteAt s 2))).setCell ⟨w.heap.size, 1, none⟩ (.int .i64 (byteAt s 3))).setCell ⟨w.heap.size, 2, none⟩ (.string (s.extract (4 + k) (4 + k + n)))) w.heap.size 151 #[.int .i64 (byteAt s 2), .int .i64 (byteAt s 3), .string (s.extract (4 + k) (4 + k + n))] := (((HB1.out.below (Below.setCell (p := ⟨w.heap.size + 1, 2, none⟩) (Below.refl (w.heap.size + 1) w1) (Nat.le_refl _) (.string (s.extract (4 + k) (4 + k + n)))) (Nat.lt_succ_self _)).set 0 _).set 1 _).set 2 _
     have hbz := hid ((((hb1.out.setCell (p := ⟨w.heap.size + 1, 2, none⟩) (Nat.le_succ _) (.string (s.extract (4 + k) (4 + k + n)))).setCell (p := ⟨w.heap.size, 0, none⟩) (Nat.le_refl _) (.int .i64 (byteAt s 2))).setCell (p := ⟨w.heap.size, 1, none⟩) (Nat.le_refl _) (.int .i64 (byteAt s 3))).setCell (p := ⟨w.heap.size, 2, none⟩) (Nat.le_refl _) (.string (s.extract (4 + k) (4 + k + n))))
     have y0 := hBW.cell 0
     have y1 := hBW.cell 1
     have y2 := hBW.cell 2
     clear hm hBW
     rw [e6]
     go_wp2
     refine bodyPost_ret (v := .tuple #[.agg #[.int .i64 (byteAt s 2), .int .i64 (byteAt s 3), .string (s.extract (4 + k) (4 + k + n))], .int .i64 (4 + (k : Int) + n + 4), .int .i64 0]) (by simp [results, Tryz.results174, go_sem, y0, y1, y2]) rfl ?_
     rw [show (4 + (k : Int) + n + 4) = ((8 + k + n : Nat) : Int) from by omega]
     exact fin.out _ hbz.out
   · have fin := hid (fun (w' : World) => FDecPost.mk' (w := w) (w' := w') (decF_sum hH.out.1 hr.out hn hl hm))
     have e6 : (!(sum4 (List.take (4 + k + n) s.data.toList) == (s.extract (4 + k + n) (8 + k + n)).toList)) = true := by
      have : (sum4 (List.take (4 + k + n) s.data.toList) == (s.extract (4 + k + n) (8 + k + n)).toList) = false := by
       rw [beq_eq_false_iff_ne, Hm1.out]; intro h; exact hm (by rw [← h, Hm0.out])
      rw [this]; rfl
     have hBW : Blk ((((w1.setCell ⟨w.heap.size, 0, none⟩ (.int .i64 0)).setCell ⟨w.heap.size, 1, none⟩ (.int .i64 0)).setCell ⟨w.heap.size, 2, none⟩ (.string ⟨#[]⟩)).alloc (.cells #[.int .i64 0, .int .i64 0, .string ⟨#[]⟩] 151)) w.heap.size 151 #[.int .i64 0, .int .i64 0, .string ⟨#[]⟩] := (((HB1.out.set 0 _).set 1 _).set 2 _).alloc _
     have hbz := hid ((((hb1.out.setCell (p := ⟨w.heap.size, 0, none⟩) (Nat.le_refl _) (.int .i64 0)).setCell (p := ⟨w.heap.size, 1, none⟩) (Nat.le_refl _) (.int .i64 0)).setCell (p := ⟨w.heap.size, 2, none⟩) (Nat.le_refl _) (.string ⟨#[]⟩)).alloc (by have := hlt; simp [World.setCell]; omega) (.cells #[.int .i64 0, .int .i64 0, .string ⟨#[]⟩] 151))
     have y0 := hBW.cell 0
     have y1 := hBW.cell 1
     have y2 := hBW.cell 2
     clear hm hBW
     rw [e6]
     go_wp2_with fail
     refine Calls.mono (rnone_any _ _) ?_
     rintro e w' ⟨rfl, rfl⟩
     go_wp2
     refine bodyPost_ret (v := .tuple #[.agg #[.int .i64 0, .int .i64 0, .string ⟨#[]⟩], .int .i64 0, .int .i64 5]) (by simp [results, Tryz.results174, go_sem, y0, y1, y2]) rfl ?_
     exact fin.out _ hbz.out
 · have fin := hid (fun (w' : World) => FDecPost.mk' (w := w) (w' := w') (decF_num hH.out.1 hr.out hx))
   have e9 : ((x : Int) != 0) = true := by simp; omega
   clear hx f4 f1
   go_wp2_with fail
   refine Calls.mono (rnone_any _ _) ?_
   rintro e w' ⟨rfl, rfl⟩
   go_wp2
   refine bodyPost_ret (v := .tuple #[.agg #[.int .i64 0, .int .i64 0, .string ⟨#[]⟩], .int .i64 0, .int .i64 x]) (by simp [results, Tryz.results174, go_sem]) rfl ?_
   exact fin.out _ (by repeat (first | exact Below.refl _ _ | refine Below.alloc ?_ (by first | (simp; done) | (simp; omega)) _ | refine Below.setCell ?_ (by first | (simp; done) | (simp; omega)) _))
end Go.Proofs.YtjgnnobccecpeaaGreatDoor
/- The walk of the reference Frames. -/
namespace Go.Proofs.YtjgnnobccecpeaaGreatDoor
open Go.Lib (hid)
open Go.RowKit
def zeroF : Value := .agg #[.int .i64 0, .int .i64 0, .string ⟨#[]⟩]
theorem infoFrame : (Tryz.prog.info? 151).map (fun i => (i.zero, i.size, i.bytes)) = some (some zeroF, 3, 32) := by kernel_rfl
theorem frmC_one (f : FrameM) : ∀ u ∈ frmC f, u.oneCell' = true := by
 intro u hu
 simp only [frmC, List.mem_cons, List.not_mem_nil, or_false] at hu
 rcases hu with rfl | rfl | rfl <;> rfl
theorem own_belowF {w w' : World} {base : Nat} {e : TypeId} {sz n : Nat} {v : Value} {xs : List Value} (h : w.ownsRow base e sz v n xs) (hb : Below w.heap.size w w') : w'.ownsRow base e sz v n xs :=
 h.kept (row := none) ⟨hb.os, hb.tape, hb.output, hb.size, fun k hk _ => hb.block k hk⟩ (by
  by_cases h : v.ownBlock = none
  · exact .inl h
  · exact .inr h)
theorem rdec_eq {s : ByteArray} {f : FrameM} {n e : Nat} (h : fdecF s = (f, n, e)) (w : World) (hs : s.size ≤ 9223372036854775807) :
 Calls Tryz.prog 174 #[.string s] w fun x w' => x = .returned (.tuple #[.agg #[.int .i64 f.ver, .int .i64 f.kind, .string f.pay], .int .i64 (n : Int), .int .i64 (e : Int)]) ∧ Below w.heap.size w w' := by
 have h1 := rdec_any s w hs
 unfold FDecPost decV at h1
 rw [h] at h1
 exact h1
theorem dec_eq {s : ByteArray} {f : FrameM} {n e : Nat} (h : fdecF s = (f, n, e)) (w : World) (hs : s.size ≤ 9223372036854775807) :
 Calls Tryz.prog 171 #[.string s] w fun x w' => x = .returned (.tuple #[.agg #[.int .i64 f.ver, .int .i64 f.kind, .string f.pay], .int .i64 (n : Int), .int .i64 (e : Int)]) ∧ Below w.heap.size w w' := by
 have h1 := dec_any s w hs
 unfold FDecPost decV at h1
 rw [h] at h1
 exact h1
def FrsPost (fs : List FrameM) (m e : Nat) (w : World) (x : Ending) (w' : World) : Prop :=
 ∃ A n c, x = .returned (.tuple #[.slice A n c, .int .i64 (m : Int), .int .i64 (e : Int)]) ∧ fs.length = n ∧ SlAt w' w'.heap.size 3 A n (rowsV frmC fs) ∧ Below w.heap.size w w'
def FInv (s : ByteArray) (fs : List FrameM) (m e : Nat) (w : World) (out at_ : Value) (wr : World) : Prop :=
 ∃ (done left : List FrameM) (A : Option Addr) (n c a m' : Nat), fs = done ++ left ∧ m = a + m' ∧ out = .slice A n c ∧ at_ = .int .i64 (a : Int) ∧ n ≤ a ∧ a ≤ s.size ∧ Frs (s.extract a s.size) left m' e ∧ wr.ownsRow w.heap.size 151 3 (.slice A n c) n (rowsV frmC done) ∧ Below w.heap.size w wr
theorem rframes_any {s : ByteArray} {fs : List FrameM} {m e : Nat} (h : Frs s fs m e) (w : World) (hs : s.size ≤ 2097152) :
 Calls Tryz.prog 99 #[.string s] w (FrsPost fs m e w) := by
 have hh := hid h
 clear h
 go_enter Tryz.func99, Tryz.ntmps99
 go_wp2
 go_loopw [2, 3, 4, 5, 6, 7, 8, 9, 10] (fun _ _ _ out at_ _ _ _ _ wr => FInv s fs m e w out at_ wr) (fun _ _ _ _ at_ _ _ _ _ _ => s.size - (intOf at_).toNat)
 case atStart => exact ⟨[], fs, none, 0, 0, 0, m, rfl, by omega, rfl, rfl, Nat.le_refl _, Nat.zero_le _, by rw [show s.extract 0 s.size = s from by simp]; exact hh.out, World.ownsRow_nil _ _ _ _, Below.refl _ _⟩
 case round =>
  obtain ⟨done, left, A, n, c, a, m', hfs, hm, rfl, rfl, hna, ha, hF, ho, hb⟩ := hrel
  have q1 : ∀ W : World, (Instr.slice 9 (.string s) (some (.int .i64 (a : Int))) none none).run Tryz.prog W = .ok (.string (s.extract a s.size)) W := fun W => by
   rw [run_slice_string_from_if (P := Tryz.prog) (w := W) 9 s .i64 (a : Int) Tryz.underlying9, if_pos ⟨by omega, by omega⟩, show ((a : Int)).toNat = a from by omega]
  have hsz := hid (show (s.extract a s.size).size ≤ 9223372036854775807 from by rw [ByteArray.size_extract]; omega)
  cases hF with
  | stop hd he =>
   have hd := hid hd
   have e1 : ((e : Int) != 0) = true := by simp; omega
   have fin := hid (show fs = done from by rw [hfs]; simp)
   have hm := hid (show m = a from hm)
   clear hfs he
   go_wp2_with fail
   refine Calls.mono (rdec_eq hd.out _ hsz.out) ?_
   rintro x w1 ⟨rfl, hb1⟩
   have ho1 := hid ((own_belowF ho hb1).alloc (.cells #[.int .i64 0, .int .i64 0, .string ⟨#[]⟩] 151))
   have hB := hid ((hb.trans (hb1.mono hb.size)).alloc (Nat.le_trans hb.size hb1.size) (.cells #[.int .i64 0, .int .i64 0, .string ⟨#[]⟩] 151))
   have hlen := hid (show done.length = n from by have := ho.1; rw [rowsV_length frmC_len] at this; omega)
   clear ho hb hb1 q1
   go_wp2
   refine bodyPost_ret (v := .tuple #[.slice A n c, .int .i64 (a : Int), .int .i64 (e : Int)]) (by simp [results, Tryz.results99, go_sem]) rfl ?_
   exact ⟨A, n, c, by rw [hm.out], by rw [fin.out]; exact hlen.out, by rw [fin.out]; exact own_slAt ho1.out, hB.out⟩
  | @step _ f n1 fs1 m1 _ hd h1 h2 hF =>
   have hd := hid hd
   rw [ByteArray.size_extract] at h2
   have hF1 := hid (show Frs (s.extract (a + n1) s.size) fs1 m1 e from by
    have e0 : (s.extract a s.size).extract n1 (s.extract a s.size).size = s.extract (a + n1) s.size := by
     rw [ByteArray.extract_extract, ByteArray.size_extract]
     congr 1
     omega
    rw [← e0]; exact hF)
   have fin := hid (show fs = (done ++ [f]) ++ fs1 from by rw [hfs]; simp)
   have hm := hid (show m = (a + n1) + m1 from by omega)
   clear hfs hF
   obtain ⟨ver, kind, pay⟩ := f
   go_wp2_with fail
   refine Calls.mono (rdec_eq hd.out _ hsz.out) ?_
   rintro x w1 ⟨rfl, hb1⟩
   dsimp only
   have ho1 := (own_belowF ho hb1).alloc (.cells #[.int .i64 (ver : Int), .int .i64 (kind : Int), .string pay] 151)
   have hB := hid ((hb.trans (hb1.mono hb.size)).alloc (Nat.le_trans hb.size hb1.size) (.cells #[.int .i64 (ver : Int), .int .i64 (kind : Int), .string pay] 151))
   have hbr := hB.out.size
   have hlt := ho1.lt
   have Hlt := hid hlt
   clear ho hb hb1 q1 hlt
   go_wp2_with (at_builtin; refine push_rec frmC rfl _ _ 147 151 zeroF 3 32 rfl Tryz.underlying147 infoFrame rfl (by decide) frmC_len frmC_one w.heap.size _ _ _ done rfl ho1 _ ⟨ver, kind, pay⟩ rfl _ (by simp) rfl (by omega) (by unfold maxLen; omega) hbr ?_; intro A2 c2 w2 ho2 hg2)
   go_roundw
   case rel => exact ⟨done ++ [⟨ver, kind, pay⟩], fs1, A2, n + 1, c2, a + n1, m1, fin.out, hm.out, rfl, by go_num, by omega, by omega, hF1.out, ho2, hB.out.trans (hg2.below hbr (fun g hg => (Hlt.out g hg).1))⟩
   case measure => simp [intOf]; omega
end Go.Proofs.YtjgnnobccecpeaaGreatDoor
/- What Apply says, case by case: plain. -/
namespace Go.Proofs.YtjgnnobccecpeaaGreatDoor
open Go.Lib (hid)
open Go.Op (bytesLess)
section
variable {α : Type} {key : α → ByteArray}
theorem rows_sorted {E : α → Int} {l : List α} (h : rowsE E key l = 0) : KSorted key l := (rows_all none l h).2
theorem mem_apply {rows set : List α} {gone : List ByteArray} {z : α} (h : z ∈ applyL key rows set gone) : z ∈ rows ∨ z ∈ set := by
 unfold applyL at h
 have gen : ∀ (set l : List α), z ∈ set.foldl (putK key) l → z ∈ l ∨ z ∈ set := by
  intro set
  induction set with
  | nil => intro l h; exact .inl h
  | cons s set ih =>
   intro l h
   rw [List.foldl_cons] at h
   rcases ih _ h with h1 | h1
   · unfold putK at h1
     rcases (mem_putFrom s z l false).1 h1 with h2 | h2
     · exact .inr (by rw [h2.2]; exact List.mem_cons_self)
     · exact .inl h2.1
   · exact .inr (List.mem_cons_of_mem _ h1)
 rcases gen _ _ h with h1 | h1
 · exact .inl (List.mem_filter.1 h1).1
 · exact .inr h1
end
theorem gone_apart {has : ByteArray → Bool} : ∀ (p : Option ByteArray) (l : List ByteArray), goneFrom has p l = 0 → (∀ x ∈ l, before p x = true) ∧ l.Pairwise fun a b => bytesLess a.toList b.toList = true
 | _, [], _ => ⟨by simp, List.Pairwise.nil⟩
 | p, s :: l, h => by
  rw [goneFrom] at h
  by_cases h1 : nameOk s = true
  · rw [if_pos h1] at h
    by_cases h2 : before p s = true
    · rw [if_pos h2] at h
      by_cases h3 : has s = true
      · rw [if_pos h3] at h; omega
      · rw [if_neg h3] at h
        obtain ⟨i1, i2⟩ := gone_apart (some s) l h
        refine ⟨fun y hy => ?_, List.pairwise_cons.2 ⟨fun y hy => i1 y hy, i2⟩⟩
        rcases List.mem_cons.1 hy with rfl | hy
        · exact h2
        · have h4 := i1 y hy
          unfold before at h2 h4 ⊢
          cases p with
          | none => rfl
          | some q => exact less_trans _ _ _ h2 h4
    · rw [if_neg h2] at h; omega
  · rw [if_neg h1] at h; omega
theorem gone_ne {has : ByteArray → Bool} {l : List ByteArray} (h : goneE has l = 0) : l.Pairwise fun a b => a ≠ b :=
 (gone_apart none l h).2.imp fun {a b} hlt e => by rw [e, less_irrefl] at hlt; cases hlt
theorem firstE_all : ∀ {l : List Int}, firstE l = 0 → ∀ e ∈ l, e = 0
 | [], _, e, he => by cases he
 | a :: l, h, e, he => by
  unfold firstE at h
  split at h
  · rename_i h0
    rcases List.mem_cons.1 he with rfl | he
    · exact h0
    · exact firstE_all h e he
  · rename_i h0; exact absurd h h0
structure ApKnow (s : StateD) (d : DeltaD) : Prop where
 sj : KSorted JobD.name s.jobs
 sn : KSorted NodeD.name s.nodes
 sl : KSorted LeaseD.job s.leases
 dj : KSorted JobD.name d.jobs
 dn : KSorted NodeD.name d.nodes
 dl : KSorted LeaseD.job d.leases
 gj : d.gj.Pairwise fun a b => a ≠ b
 gn : d.gn.Pairwise fun a b => a ≠ b
 gl : d.gl.Pairwise fun a b => a ≠ b
 nsj : s.jobs.length ≤ 40
 nsn : s.nodes.length ≤ 20
 nsl : s.leases.length ≤ 40
 ndj : d.jobs.length ≤ 40
 ndn : d.nodes.length ≤ 20
 ndl : d.leases.length ≤ 40
 ngj : d.gj.length ≤ 40
 ngn : d.gn.length ≤ 20
 ngl : d.gl.length ≤ 40
theorem check_parts {s : StateD} (h : checkE s = 0) : sizesOk s = true ∧ rowsE jobE JobD.name s.jobs = 0 ∧ rowsE nodeE NodeD.name s.nodes = 0 ∧ rowsE (leaseE s) LeaseD.job s.leases = 0 := by
 unfold checkE at h
 split at h
 · omega
 · split at h
   · omega
   · rename_i h2
     split at h
     · rename_i h3; exact absurd h h3
     · rename_i h3
       split at h
       · rename_i h4; exact absurd h h4
       · rename_i h4
         split at h
         · rename_i h5; exact absurd h h5
         · rename_i h5
           exact ⟨by simpa using h2, by simpa using h3, by simpa using h4, by simpa using h5⟩
theorem apKnow {s : StateD} {d : DeltaD} (h1 : checkE s = 0) (h2 : deltaE d = 0) : ApKnow s d := by
 obtain ⟨a1, a2, a3, a4⟩ := check_parts h1
 unfold sizesOk at a1
 simp only [Bool.and_eq_true, decide_eq_true_eq] at a1
 unfold deltaE at h2
 split at h2
 · omega
 · split at h2
   · omega
   · rename_i h3
     have h3' : dSizes d = true := by simpa using h3
     unfold dSizes at h3'
     simp only [Bool.and_eq_true, decide_eq_true_eq] at h3'
     have hr := firstE_all h2
     unfold dRows at hr
     simp only [List.mem_cons, List.not_mem_nil, or_false, forall_eq_or_imp, forall_eq] at hr
     obtain ⟨r1, r2, r3, r4, r5, r6⟩ := hr
     exact ⟨rows_sorted a2, rows_sorted a3, rows_sorted a4, rows_sorted r1, rows_sorted r2, rows_sorted r3, gone_ne r4, gone_ne r5, gone_ne r6, by omega, by omega, by omega, by omega, by omega, by omega, by omega, by omega, by omega⟩
section
variable {s : StateD} {d : DeltaD}
theorem ap_check (h : checkE s ≠ 0) : applyF s d = (zeroSt, checkE s) := by unfold applyF; rw [if_pos h]
theorem ap_delta (h : checkE s = 0) (h2 : deltaE d ≠ 0) : applyF s d = (zeroSt, deltaE d) := by unfold applyF; rw [if_neg (by simp [h]), if_pos h2]
theorem ap_old (h : checkE s = 0) (h2 : deltaE d = 0) (h3 : d.from_ ≠ s.rev) : applyF s d = (zeroSt, 10) := by unfold applyF; rw [if_neg (by simp [h]), if_neg (by simp [h2]), if_pos h3]
theorem ap_none (h : checkE s = 0) (h2 : deltaE d = 0) (h3 : d.from_ = s.rev) (h4 : (missingL JobD.name s.jobs d.gj || missingL NodeD.name s.nodes d.gn || missingL LeaseD.job s.leases d.gl) = true) : applyF s d = (zeroSt, 6) := by
 unfold applyF; rw [if_neg (by simp [h]), if_neg (by simp [h2]), if_neg (by simp [h3]), if_pos h4]
theorem ap_bad (h : checkE s = 0) (h2 : deltaE d = 0) (h3 : d.from_ = s.rev) (h4 : missingL JobD.name s.jobs d.gj = false) (h5 : missingL NodeD.name s.nodes d.gn = false) (h6 : missingL LeaseD.job s.leases d.gl = false) (h7 : checkE (applyS s d) ≠ 0) :
 applyF s d = (zeroSt, checkE (applyS s d)) := by
 unfold applyF; rw [if_neg (by simp [h]), if_neg (by simp [h2]), if_neg (by simp [h3]), if_neg (by simp [h4, h5, h6]), if_pos h7]
theorem ap_ok (h : checkE s = 0) (h2 : deltaE d = 0) (h3 : d.from_ = s.rev) (h4 : missingL JobD.name s.jobs d.gj = false) (h5 : missingL NodeD.name s.nodes d.gn = false) (h6 : missingL LeaseD.job s.leases d.gl = false) (h7 : checkE (applyS s d) = 0) :
 applyF s d = (applyS s d, 0) := by
 unfold applyF; rw [if_neg (by simp [h]), if_neg (by simp [h2]), if_neg (by simp [h3]), if_neg (by simp [h4, h5, h6]), if_neg (by simp [h7])]
end
end Go.Proofs.YtjgnnobccecpeaaGreatDoor
