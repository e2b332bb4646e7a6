/- The walks of the reference's source of bytes: a value, or a panic that bears the error. -/
import Derived.Test.YtonipllegfgdiaaReadR
import Derived.Test.YtonipllegfgdiaaRdr
import Derived.Test.YtonipllegfgdiaaTextRR
set_option linter.unusedVariables false
set_option linter.unusedSimpArgs false
namespace Go.Proofs.Ytonipllegfgdiaa
open Go.RowKit
/-- The source's block. -/
def SxAt (w : World) (g : Nat) (s : ByteArray) : Prop := Blk w g 104 #[.string s] ∧ s.size ≤ 9223372036854775807
/-- What is thrown. -/
def thrown (x : Nat) : Ending := .panicked [{ v := .iface 78 (.agg #[.int .i64 (x : Int)]), recovered := false }]
/-- What a source's method leaves. -/
def SxPost {α : Type} (g : Nat) (res : RR α) (enc : α → Value) (w : World) (e : Ending) (w' : World) : Prop :=
  w.grownBy w' (some g) ∧ match res with
  | .ok a r => e = .returned (enc a) ∧ SxAt w' g r
  | .bad x => e = thrown x
theorem SxPost.ok {α : Type} {g : Nat} {res : RR α} {enc : α → Value} {w w' : World} {e : Ending} {a : α} {r : ByteArray} (h : SxPost g res enc w e w') (hr : res = .ok a r) : e = .returned (enc a) ∧ SxAt w' g r ∧ w.grownBy w' (some g) := by
  subst hr; exact ⟨h.2.1, h.2.2, h.1⟩
theorem SxPost.bad {α : Type} {g : Nat} {res : RR α} {enc : α → Value} {w w' : World} {e : Ending} {x : Nat} (h : SxPost g res enc w e w') (hr : res = .bad x) : e = thrown x ∧ w.grownBy w' (some g) := by
  subst hr; exact ⟨h.2, h.1⟩
theorem SxPost.mkOk {α : Type} {g : Nat} {res : RR α} {enc : α → Value} {w w' : World} {a : α} {r : ByteArray} (hr : res = .ok a r) (hs : SxAt w' g r) (hg : w.grownBy w' (some g)) : SxPost g res enc w (.returned (enc a)) w' := by
  subst hr; exact ⟨hg, rfl, hs⟩
theorem SxPost.mkBad {α : Type} {g : Nat} {res : RR α} {enc : α → Value} {w w' : World} {x : Nat} (hr : res = .bad x) (hg : w.grownBy w' (some g)) : SxPost g res enc w (thrown x) w' := by
  subst hr; exact ⟨hg, rfl⟩
theorem SxAt.set {w : World} {g : Nat} {s : ByteArray} (h : SxAt w g s) (s' : ByteArray) (hs : s'.size ≤ 9223372036854775807) : SxAt (w.setCell ⟨g, 0, none⟩ (.string s')) g s' := ⟨Blk.eq (Blk.set h.1 0 _) (by simp), hs⟩
theorem SxAt.grow {w w' : World} {g b : Nat} {s : ByteArray} (h : SxAt w g s) (hg : w.grownBy w' (some b)) (hne : g ≠ b) : SxAt w' g s := ⟨grow_blk hg h.1 hne, h.2⟩
theorem SxAt.below {w w' : World} {g : Nat} {s : ByteArray} (h : SxAt w g s) (hb : Below w.heap.size w w') : SxAt w' g s := ⟨h.1.below hb h.1.lt, h.2⟩
set_option maxRecDepth 100000 in
set_option maxHeartbeats 2000000 in
theorem sxbig (g : Nat) (s : ByteArray) (w : World) (h : SxAt w g s) :
    Calls Try.prog 48 #[.pointer (some ⟨g, 0, none⟩)] w (SxPost g (numP s) (fun n : Nat => .int .u64 n) w) := by
  have y0 : w.cell? ⟨g, 0, none⟩ = some (.string s) := h.1.cell 0
  have z0 : w.frozen? ⟨g, 0, none⟩ = false := h.1.thaw 0
  have hgl := h.1.lt
  have hs := h.2
  have HA := Lib.hid h
  rcases hr : rdNum s with ⟨a, k, e⟩
  have hf := rdNum_facts hr
  have HR := Lib.hid (rread_eq hr w hs)
  by_cases he : e = 0
  · subst he
    have hk := (hf.2.2.2 rfl).2
    by_cases hl : 4611686018427387904 < a
    · have hres := Lib.hid (numP_large hr hl)
      have hd : decide ((4611686018427387904 : Int) < (a : Int)) = true := decide_eq_true (by omega)
      clear h hr
      go_enter Try.func48, Try.ntmps48
      go_wp2_with fail
      refine Calls.mono HR.out ?_
      rintro e w1 ⟨rfl, rfl⟩
      go_wp2
      exact ⟨rfl, SxPost.mkBad hres.out (grow_refl _ _)⟩
    · have hres := Lib.hid (numP_ok hr hl)
      have hd : decide ((4611686018427387904 : Int) < (a : Int)) = false := decide_eq_false (by omega)
      have hz := Lib.hid (extract_small (k := k) hs)
      clear h hr
      go_enter Try.func48, Try.ntmps48
      go_wp2_with fail
      refine Calls.mono HR.out ?_
      rintro e w1 ⟨rfl, rfl⟩
      go_wp2
      go_ret
      exact SxPost.mkOk hres.out (HA.out.set _ hz.out) (grow_set _ _ _ _)
  · have hres := Lib.hid (numP_bad hr he)
    have hne : ((e : Int) == 0) = false := by rw [beq_eq_false_iff_ne]; omega
    have hne2 : ((e : Int) != 0) = true := by rw [bne_iff_ne]; omega
    clear h hr
    go_enter Try.func48, Try.ntmps48
    go_wp2_with fail
    refine Calls.mono HR.out ?_
    rintro e' w1 ⟨rfl, rfl⟩
    go_wp2
    exact ⟨rfl, SxPost.mkBad hres.out (grow_refl _ _)⟩
set_option maxRecDepth 100000 in
set_option maxHeartbeats 2000000 in
theorem sxnum (g : Nat) (s : ByteArray) (w : World) (h : SxAt w g s) :
    Calls Try.prog 31 #[.pointer (some ⟨g, 0, none⟩)] w (SxPost g (numP s) (fun n : Nat => .int .i64 n) w) := by
  have HB := Lib.hid (sxbig g s w h)
  clear h
  rcases hr : numP s with ⟨a, r⟩ | x
  · have hle := numP_le hr
    have Hr := Lib.hid hr
    clear hr
    go_enter Try.func31, Try.ntmps31
    go_wp2_with fail
    refine Calls.mono HB.out ?_
    intro e w1 hp
    obtain ⟨rfl, hs, hg⟩ := hp.ok Hr.out
    have hs := Lib.hid hs
    have hg := Lib.hid hg
    clear hp
    go_wp2
    go_ret
    exact SxPost.mkOk rfl hs.out hg.out
  · have Hr := Lib.hid hr
    clear hr
    go_enter Try.func31, Try.ntmps31
    go_wp2_with fail
    refine Calls.mono HB.out ?_
    intro e w1 hp
    obtain ⟨rfl, hg⟩ := hp.bad Hr.out
    unfold thrown
    go_wp2
    exact ⟨rfl, SxPost.mkBad rfl hg⟩
set_option maxRecDepth 100000 in
set_option maxHeartbeats 2000000 in
theorem sxtext (g : Nat) (s : ByteArray) (w : World) (h : SxAt w g s) :
    Calls Try.prog 39 #[.pointer (some ⟨g, 0, none⟩)] w (SxPost g (textP s) (fun t => .string t) w) := by
  have y0 : w.cell? ⟨g, 0, none⟩ = some (.string s) := h.1.cell 0
  have hgl := h.1.lt
  have hs := h.2
  have HA := Lib.hid h
  rcases hr : txtR s with ⟨t, k, e⟩
  have hf := txtR_facts hr
  have hR := rtextRead_any s w hs
  unfold TrdPost at hR
  rw [hr] at hR
  have HR := Lib.hid hR
  clear hR h
  by_cases he : e = 0
  · subst he
    have hk := hf.2.2 rfl
    have hres := Lib.hid (textP_ok hr)
    have hz := Lib.hid (extract_small (k := k) hs)
    clear hr hf
    go_enter Try.func39, Try.ntmps39
    go_wp2_with fail
    refine Calls.mono HR.out ?_
    rintro e w1 ⟨rfl, hb1⟩
    have hA1 := HA.out.below hb1
    have x0 : w1.cell? ⟨g, 0, none⟩ = some (.string s) := hA1.1.cell 0
    have z0 : w1.frozen? ⟨g, 0, none⟩ = false := hA1.1.thaw 0
    have hgl1 := hA1.1.lt
    have HA1 := Lib.hid hA1
    have Hb1 := Lib.hid hb1
    clear hA1 hb1 y0
    go_wp2
    go_ret
    exact SxPost.mkOk hres.out (HA1.out.set _ hz.out) (grow_trans (grow_below g Hb1.out) (grow_set _ _ _ _))
  · have hres := Lib.hid (textP_bad hr he)
    have hne2 : ((e : Int) != 0) = true := by rw [bne_iff_ne]; omega
    clear hr hf
    go_enter Try.func39, Try.ntmps39
    go_wp2_with fail
    refine Calls.mono HR.out ?_
    rintro e' w1 ⟨rfl, hb1⟩
    go_wp2
    exact ⟨rfl, SxPost.mkBad hres.out (grow_below g hb1)⟩
end Go.Proofs.Ytonipllegfgdiaa
