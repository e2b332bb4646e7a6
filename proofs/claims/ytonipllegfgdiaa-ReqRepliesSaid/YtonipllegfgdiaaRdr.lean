/- The walks of a Reader. -/
import Derived.Test.YtonipllegfgdiaaBase
import Derived.Test.YtonipllegfgdiaaTextR
set_option linter.unusedVariables false
set_option linter.unusedSimpArgs false
namespace Go.Proofs.Ytonipllegfgdiaa
open Go.RowKit
/-- The reader's block. -/
def RxAt (w : World) (g : Nat) (s : ByteArray) (e : Nat) : Prop := Blk w g 62 #[.string s, .int .i64 (e : Int)]
/-- The reader's state: what is left, or the error that stands. -/
def RxS (w : World) (g : Nat) (σ : RR Unit) : Prop := match σ with
  | .ok _ s => RxAt w g s 0
  | .bad e => ∃ s, s.size ≤ 9223372036854775807 ∧ RxAt w g s e
def RxMax : Nat := 9223372036854775807
/-- What a reader's method leaves. -/
def RxPost {α : Type} (g : Nat) (res : RR α) (enc : α → Value) (Z : α → Prop) (w : World) (e : Ending) (w' : World) : Prop :=
  ∃ a, e = .returned (enc a) ∧ RxVal res Z a ∧ RxS w' g res.st ∧ w.grownBy w' (some g)
theorem grow_refl (w : World) (g : Nat) : w.grownBy w (some g) := ⟨rfl, rfl, rfl, Nat.le_refl _, fun _ _ _ => rfl⟩
theorem grow_trans {w w' w'' : World} {g : Nat} (h : w.grownBy w' (some g)) (h' : w'.grownBy w'' (some g)) : w.grownBy w'' (some g) :=
  ⟨h'.os.trans h.os, h'.tape.trans h.tape, h'.output.trans h.output, Nat.le_trans h.size h'.size, fun k hk hne => (h'.block k (Nat.lt_of_lt_of_le hk h.size) hne).trans (h.block k hk hne)⟩
theorem grow_below {w w' : World} (g : Nat) (h : Below w.heap.size w w') : w.grownBy w' (some g) := ⟨h.os, h.tape, h.output, h.size, fun k hk _ => h.block k hk⟩
theorem grow_blk {w w' : World} {g k : Nat} {t : TypeId} {cs : Array Value} (h : w.grownBy w' (some g)) (hk : Blk w k t cs) (hne : k ≠ g) : Blk w' k t cs :=
  (h.block k hk.lt (by simp; exact hne)).trans hk
theorem RxAt.set {w : World} {g : Nat} {s : ByteArray} {e : Nat} (h : RxAt w g s e) (s' : ByteArray) : RxAt (w.setCell ⟨g, 0, none⟩ (.string s')) g s' e := Blk.eq (Blk.set h 0 _) (by simp)
theorem RxAt.err {w : World} {g : Nat} {s : ByteArray} {e : Nat} (h : RxAt w g s e) (e' : Nat) : RxAt (w.setCell ⟨g, 1, none⟩ (.int .i64 (e' : Int))) g s e' := Blk.eq (Blk.set h 1 _) (by simp)
theorem grow_set (w : World) (g i : Nat) (v : Value) : w.grownBy (w.setCell ⟨g, i, none⟩ v) (some g) := bes_set (grow_refl w g) i v
set_option maxRecDepth 100000 in
set_option maxHeartbeats 1000000 in
theorem rxfail (g : Nat) (s : ByteArray) (e x : Nat) (w : World) (h : RxAt w g s x) :
    Calls Try.prog 46 #[.pointer (some ⟨g, 0, none⟩), .int .i64 (e : Int)] w fun en w' => en = .returned (.tuple #[]) ∧ RxAt w' g s (if x = 0 then e else x) ∧ w.grownBy w' (some g) := by
  have y1 : w.cell? ⟨g, 1, none⟩ = some (.int .i64 (x : Int)) := Blk.cell h 1
  have z1 : w.frozen? ⟨g, 1, none⟩ = false := Blk.thaw h 1
  have hgl := Blk.lt h
  obtain ⟨E', hE'⟩ : ∃ E', (if x = 0 then e else x) = E' := ⟨_, rfl⟩
  rw [hE']
  by_cases hx : x = 0
  · subst hx
    rw [if_pos rfl] at hE'
    subst hE'
    have H := Lib.hid (h.err e)
    clear h
    go_enter Try.func46, Try.ntmps46
    go_wp2
    go_end0
    exact ⟨rfl, H.out, grow_set _ _ _ _⟩
  · have hne : ((x : Int) == 0) = false := by rw [beq_eq_false_iff_ne]; omega
    rw [if_neg hx] at hE'
    subst hE'
    have H := Lib.hid h
    clear h hx
    go_enter Try.func46, Try.ntmps46
    go_wp2
    go_end0
    exact ⟨rfl, H.out, grow_refl _ _⟩
set_option maxRecDepth 100000 in
set_option maxHeartbeats 2000000 in
theorem rxnumber (g : Nat) (σ : RR Unit) (w : World) (h : RxS w g σ) (hσ : σ.Good RxMax) :
    Calls Try.prog 45 #[.pointer (some ⟨g, 0, none⟩)] w (RxPost g (σ.bind fun _ s => numP s) (fun n : Nat => .int .u64 n) (fun n => n = 0) w) := by
  cases σ with
  | bad x =>
    obtain ⟨s, hs, hA⟩ := h
    have y1 : w.cell? ⟨g, 1, none⟩ = some (.int .i64 (x : Int)) := Blk.cell hA 1
    have hne : ((x : Int) != 0) = true := by rw [bne_iff_ne]; have := hσ.1; omega
    have hA' := Lib.hid hA
    clear hA
    go_enter Try.func45, Try.ntmps45
    go_wp2
    go_ret
    exact ⟨0, rfl, rfl, ⟨s, hs, hA'.out⟩, grow_refl _ _⟩
  | ok u s =>
    have hA : RxAt w g s 0 := h
    have hs : s.size ≤ 9223372036854775807 := hσ
    have y0 : w.cell? ⟨g, 0, none⟩ = some (.string s) := Blk.cell hA 0
    have y1 : w.cell? ⟨g, 1, none⟩ = some (.int .i64 0) := Blk.cell hA 1
    have z0 : w.frozen? ⟨g, 0, none⟩ = false := Blk.thaw hA 0
    rcases hr : rdNum s with ⟨a, k, e⟩
    have hf := rdNum_facts hr
    have HA := Lib.hid hA
    have HR := Lib.hid (read_eq hr w hs)
    by_cases he : e = 0
    · subst he
      have hk := (hf.2.2.2 rfl).2
      by_cases hl : 4611686018427387904 < a
      · have hres := Lib.hid (numP_large hr hl)
        have hd : decide ((4611686018427387904 : Int) < (a : Int)) = true := decide_eq_true (by omega)
        clear hA h hr
        go_enter Try.func45, Try.ntmps45
        go_wp2_with fail
        refine Calls.mono HR.out ?_
        rintro e w1 ⟨rfl, rfl⟩
        go_wp2_with fail
        refine Calls.mono (rxfail g s 2 0 _ HA.out) ?_
        rintro e w1 ⟨rfl, hA2, hg2⟩
        go_wp2
        go_ret
        exact ⟨0, rfl, by rw [RR.bind_ok, hres.out]; rfl, by rw [RR.bind_ok, hres.out]; exact ⟨s, hs, hA2⟩, hg2⟩
      · have hres := Lib.hid (numP_ok hr hl)
        have hd : decide ((4611686018427387904 : Int) < (a : Int)) = false := decide_eq_false (by omega)
        clear hA h hr
        go_enter Try.func45, Try.ntmps45
        go_wp2_with fail
        refine Calls.mono HR.out ?_
        rintro e w1 ⟨rfl, rfl⟩
        go_wp2
        go_ret
        exact ⟨a, rfl, by rw [RR.bind_ok, hres.out]; rfl, by rw [RR.bind_ok, hres.out]; exact HA.out.set _, grow_set _ _ _ _⟩
    · have hres := Lib.hid (numP_bad hr he)
      have hne : ((e : Int) == 0) = false := by rw [beq_eq_false_iff_ne]; omega
      have hne2 : ((e : Int) != 0) = true := by rw [bne_iff_ne]; omega
      clear hA h hr
      go_enter Try.func45, Try.ntmps45
      go_wp2_with fail
      refine Calls.mono HR.out ?_
      rintro e' w1 ⟨rfl, rfl⟩
      go_wp2_with fail
      refine Calls.mono (rxfail g s e 0 _ HA.out) ?_
      rintro e' w1 ⟨rfl, hA2, hg2⟩
      go_wp2
      go_ret
      exact ⟨0, rfl, by rw [RR.bind_ok, hres.out]; rfl, by rw [RR.bind_ok, hres.out]; exact ⟨s, hs, hA2⟩, hg2⟩
theorem rxval_le {σ : RR Unit} {a : Nat} (h : RxVal (σ.bind fun _ s => numP s) (fun n => n = 0) a) : a ≤ 4611686018427387904 := by
  cases σ with
  | bad x => rw [RR.bind_bad] at h; have h : a = 0 := h; omega
  | ok u s =>
    rw [RR.bind_ok] at h
    cases hp : numP s with
    | bad x => rw [hp] at h; have h : a = 0 := h; omega
    | ok b r => rw [hp] at h; have h : a = b := h; have := numP_le hp; omega
set_option maxRecDepth 100000 in
theorem rxNumber (g : Nat) (σ : RR Unit) (w : World) (h : RxS w g σ) (hσ : σ.Good RxMax) :
    Calls Try.prog 27 #[.pointer (some ⟨g, 0, none⟩)] w (RxPost g (σ.bind fun _ s => numP s) (fun n : Nat => .int .i64 n) (fun n => n = 0) w) := by
  have H := Lib.hid (rxnumber g σ w h hσ)
  clear h
  go_enter Try.func27, Try.ntmps27
  go_wp2_with fail
  refine Calls.mono H.out ?_
  rintro e w1 ⟨a, rfl, hv, hs, hg⟩
  have hle := rxval_le hv
  have Hv := Lib.hid hv
  clear hv
  go_wp2
  go_ret
  exact ⟨a, rfl, Hv.out, hs, hg⟩
set_option maxRecDepth 100000 in
theorem rxSigned (g : Nat) (σ : RR Unit) (w : World) (h : RxS w g σ) (hσ : σ.Good RxMax) :
    Calls Try.prog 85 #[.pointer (some ⟨g, 0, none⟩)] w (RxPost g (σ.bind fun _ s => numP s) (fun n : Nat => .int .i64 (zagZ n)) (fun n => n = 0) w) := by
  have H := Lib.hid (rxnumber g σ w h hσ)
  clear h
  go_enter Try.func85, Try.ntmps85
  go_wp2_with fail
  refine Calls.mono H.out ?_
  rintro e w1 ⟨a, rfl, hv, hs, hg⟩
  have hle := rxval_le hv
  have Hv := Lib.hid hv
  clear hv
  go_wp2_with fail
  refine Calls.mono (zag_any (a : Int) (by omega) (by omega) w1) ?_
  rintro e w2 ⟨rfl, rfl⟩
  go_wp2
  go_ret
  exact ⟨a, rfl, Hv.out, hs, hg⟩
set_option maxRecDepth 100000 in
set_option maxHeartbeats 2000000 in
theorem rxText (g : Nat) (σ : RR Unit) (w : World) (h : RxS w g σ) (hσ : σ.Good RxMax) (hT : Tabs w) :
    Calls Try.prog 84 #[.pointer (some ⟨g, 0, none⟩)] w (RxPost g (σ.bind fun _ s => textP s) (fun t => .string t) (fun t => t = ⟨#[]⟩) w) := by
  cases σ with
  | bad x =>
    obtain ⟨s, hs, hA⟩ := h
    have y1 : w.cell? ⟨g, 1, none⟩ = some (.int .i64 (x : Int)) := Blk.cell hA 1
    have hne : ((x : Int) != 0) = true := by rw [bne_iff_ne]; have := hσ.1; omega
    have hA' := Lib.hid hA
    clear hA
    go_enter Try.func84, Try.ntmps84
    go_wp2
    go_ret
    exact ⟨⟨#[]⟩, rfl, rfl, ⟨s, hs, hA'.out⟩, grow_refl _ _⟩
  | ok u s =>
    have hA : RxAt w g s 0 := h
    have hs : s.size ≤ 9223372036854775807 := hσ
    have y0 : w.cell? ⟨g, 0, none⟩ = some (.string s) := Blk.cell hA 0
    have y1 : w.cell? ⟨g, 1, none⟩ = some (.int .i64 0) := Blk.cell hA 1
    have hgl := Blk.lt hA
    rcases hr : txtR s with ⟨t, k, e⟩
    have hf := txtR_facts hr
    have HA := Lib.hid hA
    have hR := readText_any s w hs hT
    unfold TrdPost at hR
    rw [hr] at hR
    have HR := Lib.hid hR
    clear hR hT h
    by_cases he : e = 0
    · subst he
      have hk := hf.2.2 rfl
      have hres := Lib.hid (textP_ok hr)
      clear hA hr hf
      go_enter Try.func84, Try.ntmps84
      go_wp2_with fail
      refine Calls.mono HR.out ?_
      rintro e w1 ⟨rfl, hb1⟩
      have hA1 : RxAt w1 g s 0 := Blk.below HA.out hb1 HA.out.lt
      have x0 : w1.cell? ⟨g, 0, none⟩ = some (.string s) := Blk.cell hA1 0
      have z0 : w1.frozen? ⟨g, 0, none⟩ = false := Blk.thaw hA1 0
      have HA1 := Lib.hid hA1
      have Hb1 := Lib.hid hb1
      clear hA1 hb1 y0 y1
      go_wp2
      go_ret
      exact ⟨t, rfl, by rw [RR.bind_ok, hres.out]; rfl, by rw [RR.bind_ok, hres.out]; exact HA1.out.set _, grow_trans (grow_below g Hb1.out) (grow_set _ _ _ _)⟩
    · have hres := Lib.hid (textP_bad hr he)
      have hne2 : ((e : Int) != 0) = true := by rw [bne_iff_ne]; omega
      clear hA hr hf
      go_enter Try.func84, Try.ntmps84
      go_wp2_with fail
      refine Calls.mono HR.out ?_
      rintro e' w1 ⟨rfl, hb1⟩
      have hA1 : RxAt w1 g s 0 := Blk.below HA.out hb1 HA.out.lt
      have HA1 := Lib.hid hA1
      have Hb1 := Lib.hid hb1
      clear hA1 hb1 y0 y1
      go_wp2_with fail
      refine Calls.mono (rxfail g s e 0 _ HA1.out) ?_
      rintro e' w2 ⟨rfl, hA2, hg2⟩
      go_wp2
      go_ret
      exact ⟨⟨#[]⟩, rfl, by rw [RR.bind_ok, hres.out]; rfl, by rw [RR.bind_ok, hres.out]; exact ⟨s, hs, hA2⟩, grow_trans (grow_below g Hb1.out) hg2⟩
end Go.Proofs.Ytonipllegfgdiaa
