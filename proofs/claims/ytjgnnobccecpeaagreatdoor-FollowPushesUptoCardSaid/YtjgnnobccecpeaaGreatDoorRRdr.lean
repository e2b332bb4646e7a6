/- Of the proof of a statement: TextR, Rdr. -/
import Derived.Test.YtjgnnobccecpeaaGreatDoorRPlRx
import Derived.Test.YtjgnnobccecpeaaGreatDoorRUtf
set_option linter.unusedVariables false
set_option linter.unusedSimpArgs false
set_option maxRecDepth 100000
set_option maxHeartbeats 8000000
/- The walks of ReadText and TextRead. -/
namespace Go.Proofs.YtjgnnobccecpeaaGreatDoor
open Go.Lib (hid)
open Go.RowKit
open Go.Lib (validD)
def TrdPost (s : ByteArray) (w : World) (e : Ending) (w' : World) : Prop := e = .returned (.tuple #[.string (txtR s).1, .int .i64 ((txtR s).2.1 : Int), .int .i64 ((txtR s).2.2 : Int)]) ∧ Below w.heap.size w w'
theorem TrdPost.mk' {s a : ByteArray} {n e : Nat} {w w' : World} (h : txtR s = (a, n, e)) (hb : Below w.heap.size w w') : TrdPost s w (.returned (.tuple #[.string a, .int .i64 (n : Int), .int .i64 (e : Int)])) w' := ⟨by rw [h], hb⟩
theorem readText_any (s : ByteArray) (w : World) (hs : s.size ≤ 9223372036854775807) (hT : Tabs w) : Calls Tryz.prog 289 #[.string s] w (TrdPost s w) := by
 obtain ⟨n, k, e, hr⟩ : ∃ n k e, rdNum s = (n, k, e) := ⟨_, _, _, rfl⟩
 have h1 := hid (read_eq hr w hs)
 obtain ⟨f1, f2, f3, f4⟩ := rdNum_facts hr
 have HR := hid hr
 clear hr
 by_cases he : e = 0
 · subst he
   have f5 := f4 rfl
   clear f4 f3
   by_cases hn : 16 < n
   · have fin := hid (TrdPost.mk' (w := w) (w' := w) (txtR_large HR.out hn) (Below.refl _ _))
     go_enter Tryz.func289, Tryz.ntmps289
     go_wp2_with fail
     refine Calls.mono h1.out ?_
     rintro x w' ⟨rfl, rfl⟩
     go_wp2
     refine bodyPost_ret (v := .tuple #[.string ⟨#[]⟩, .int .i64 0, .int .i64 2]) (by simp [results, Tryz.results289, go_sem]) rfl fin.out
   · by_cases hl : s.size < k + n
     · have fin := hid (TrdPost.mk' (w := w) (w' := w) (txtR_short HR.out hn hl) (Below.refl _ _))
       clear f1
       go_enter Tryz.func289, Tryz.ntmps289
       go_wp2_with fail
       refine Calls.mono h1.out ?_
       rintro x w' ⟨rfl, rfl⟩
       go_wp2
       refine bodyPost_ret (v := .tuple #[.string ⟨#[]⟩, .int .i64 0, .int .i64 3]) (by simp [results, Tryz.results289, go_sem]) rfl fin.out
     · clear f1
       have hV := hid (valid_any (s.extract k (k + n)) w (by rw [ByteArray.size_extract]; omega) hT)
       cases hv : validD (s.extract k (k + n)).data.toList
       · have fin := hid (fun w' => TrdPost.mk' (w := w) (w' := w') (txtR_form HR.out hn hl hv))
         rw [hv] at hV
         go_enter Tryz.func289, Tryz.ntmps289
         go_wp2_with fail
         refine Calls.mono h1.out ?_
         rintro x w' ⟨rfl, rfl⟩
         go_wp2_with fail
         refine Calls.mono hV.out ?_
         rintro x w1 ⟨rfl, hb⟩
         go_wp2
         refine bodyPost_ret (v := .tuple #[.string ⟨#[]⟩, .int .i64 0, .int .i64 4]) (by simp [results, Tryz.results289, go_sem]) rfl (fin.out _ hb)
       · have fin := hid (fun w' => TrdPost.mk' (w := w) (w' := w') (txtR_ok HR.out hn hl hv))
         rw [hv] at hV
         go_enter Tryz.func289, Tryz.ntmps289
         go_wp2_with fail
         refine Calls.mono h1.out ?_
         rintro x w' ⟨rfl, rfl⟩
         go_wp2_with fail
         refine Calls.mono hV.out ?_
         rintro x w1 ⟨rfl, hb⟩
         go_wp2
         refine bodyPost_ret (v := .tuple #[.string (s.extract k (k + n)), .int .i64 ((k : Int) + n), .int .i64 0]) (by simp [results, Tryz.results289, go_sem]) rfl ?_
         have := fin.out _ hb
         rw [Int.natCast_add] at this
         exact this
 · have fin := hid (TrdPost.mk' (w := w) (w' := w) (txtR_num HR.out he) (Below.refl _ _))
   clear f4 f1
   go_enter Tryz.func289, Tryz.ntmps289
   go_wp2_with fail
   refine Calls.mono h1.out ?_
   rintro x w' ⟨rfl, rfl⟩
   go_wp2
   refine bodyPost_ret (v := .tuple #[.string ⟨#[]⟩, .int .i64 0, .int .i64 (e : Int)]) (by simp [results, Tryz.results289, go_sem]) rfl fin.out
end Go.Proofs.YtjgnnobccecpeaaGreatDoor
/- The walks of a Reader. -/
namespace Go.Proofs.YtjgnnobccecpeaaGreatDoor
open Go.Lib (hid)
open Go.RowKit
def RxAt (w : World) (g : Nat) (s : ByteArray) (e : Nat) : Prop := Blk w g 296 #[.string s, .int .i64 (e : Int)]
def RxS (w : World) (g : Nat) (σ : RR Unit) : Prop := match σ with
 | .ok _ s => RxAt w g s 0
 | .bad e => ∃ s, s.size ≤ 9223372036854775807 ∧ RxAt w g s e
def RxMax : Nat := 9223372036854775807
def RxPost {α : Type} (g : Nat) (res : RR α) (enc : α → Value) (Z : α → Prop) (w : World) (e : Ending) (w' : World) : Prop :=
 ∃ a, e = .returned (enc a) ∧ RxVal res Z a ∧ RxS w' g res.st ∧ w.grownBy w' (some g)
theorem grow_refl (w : World) (g : Nat) : w.grownBy w (some g) := ⟨rfl, rfl, rfl, Nat.le_refl _, fun _ _ _ => rfl⟩
theorem grow_trans {w w' w'' : World} {g : Nat} (h : w.grownBy w' (some g)) (h' : w'.grownBy w'' (some g)) : w.grownBy w'' (some g) :=
 ⟨h'.os.trans h.os, h'.tape.trans h.tape, h'.output.trans h.output, Nat.le_trans h.size h'.size, fun k hk hne => (h'.block k (Nat.lt_of_lt_of_le hk h.size) hne).trans (h.block k hk hne)⟩
theorem grow_below {w w' : World} (g : Nat) (h : Below w.heap.size w w') : w.grownBy w' (some g) := ⟨h.os, h.tape, h.output, h.size, fun k hk _ => h.block k hk⟩
theorem grow_blk {w w' : World} {g k : Nat} {t : TypeId} {cs : Array Value} (h : w.grownBy w' (some g)) (hk : Blk w k t cs) (hne : k ≠ g) : Blk w' k t cs :=
 (h.block k hk.lt (by simp; exact hne)).trans hk
theorem RxAt.set {w : World} {g : Nat} {s : ByteArray} {e : Nat} (h : RxAt w g s e) (s' : ByteArray) : RxAt (w.setCell ⟨g, 0, none⟩ (.string s')) g s' e := Blk.eq (Blk.set h 0 _) (by simp)
theorem RxAt.err {w : World} {g : Nat} {s : ByteArray} {e : Nat} (h : RxAt w g s e) (e' : Nat) : RxAt (w.setCell ⟨g, 1, none⟩ (.int .i64 (e' : Int))) g s e' := Blk.eq (Blk.set h 1 _) (by simp)
theorem grow_set (w : World) (g i : Nat) (v : Value) : w.grownBy (w.setCell ⟨g, i, none⟩ v) (some g) := bes_set (grow_refl w g) i v
theorem rxfail (g : Nat) (s : ByteArray) (e x : Nat) (w : World) (h : RxAt w g s x) :
 Calls Tryz.prog 287 #[.pointer (some ⟨g, 0, none⟩), .int .i64 (e : Int)] w fun en w' => en = .returned (.tuple #[]) ∧ RxAt w' g s (if x = 0 then e else x) ∧ w.grownBy w' (some g) := by
 have y1 : w.cell? ⟨g, 1, none⟩ = some (.int .i64 (x : Int)) := Blk.cell h 1
 have z1 : w.frozen? ⟨g, 1, none⟩ = false := Blk.thaw h 1
 have hgl := Blk.lt h
 obtain ⟨E', hE'⟩ : ∃ E', (if x = 0 then e else x) = E' := ⟨_, rfl⟩
 rw [hE']
 by_cases hx : x = 0
 · subst hx
   rw [if_pos rfl] at hE'
   subst hE'
   have H := hid (h.err e)
   clear h
   go_enter Tryz.func287, Tryz.ntmps287
   go_wp2
   go_end0
   exact ⟨rfl, H.out, grow_set _ _ _ _⟩
 · have hne : ((x : Int) == 0) = false := by rw [beq_eq_false_iff_ne]; omega
   rw [if_neg hx] at hE'
   subst hE'
   have H := hid h
   clear h hx
   go_enter Tryz.func287, Tryz.ntmps287
   go_wp2
   go_end0
   exact ⟨rfl, H.out, grow_refl _ _⟩
theorem rxnumber (g : Nat) (σ : RR Unit) (w : World) (h : RxS w g σ) (hσ : σ.Good RxMax) :
 Calls Tryz.prog 286 #[.pointer (some ⟨g, 0, none⟩)] w (RxPost g (σ.bind fun _ s => numP s) (fun n : Nat => .int .u64 n) (fun n => n = 0) w) := by
 cases σ with
 | bad x =>
  obtain ⟨s, hs, hA⟩ := h
  have y1 : w.cell? ⟨g, 1, none⟩ = some (.int .i64 (x : Int)) := Blk.cell hA 1
  have hne : ((x : Int) != 0) = true := by rw [bne_iff_ne]; have := hσ.1; omega
  have hA' := hid hA
  clear hA
  go_enter Tryz.func286, Tryz.ntmps286
  go_wp2
  go_ret
  exact ⟨0, rfl, rfl, ⟨s, hs, hA'.out⟩, grow_refl _ _⟩
 | ok u s =>
  have hA : RxAt w g s 0 := h
  have hs : s.size ≤ 9223372036854775807 := hσ
  have y0 : w.cell? ⟨g, 0, none⟩ = some (.string s) := Blk.cell hA 0
  have y1 : w.cell? ⟨g, 1, none⟩ = some (.int .i64 0) := Blk.cell hA 1
  have z0 : w.frozen? ⟨g, 0, none⟩ = false := Blk.thaw hA 0
  rcases hr : rdNum s with ⟨a, k, e⟩
  have hf := rdNum_facts hr
  have HA := hid hA
  have HR := hid (read_eq hr w hs)
  by_cases he : e = 0
  · subst he
    have hk := (hf.2.2.2 rfl).2
    by_cases hl : 4611686018427387904 < a
    · have hres := hid (numP_large hr hl)
      have hd : decide ((4611686018427387904 : Int) < (a : Int)) = true := decide_eq_true (by omega)
      clear hA h hr
      go_enter Tryz.func286, Tryz.ntmps286
      go_wp2_with fail
      refine Calls.mono HR.out ?_
      rintro e w1 ⟨rfl, rfl⟩
      go_wp2_with fail
      refine Calls.mono (rxfail g s 2 0 _ HA.out) ?_
      rintro e w1 ⟨rfl, hA2, hg2⟩
      go_wp2
      go_ret
      exact ⟨0, rfl, by rw [RR.bind_ok, hres.out]; rfl, by rw [RR.bind_ok, hres.out]; exact ⟨s, hs, hA2⟩, hg2⟩
    · have hres := hid (numP_ok hr hl)
      have hd : decide ((4611686018427387904 : Int) < (a : Int)) = false := decide_eq_false (by omega)
      clear hA h hr
      go_enter Tryz.func286, Tryz.ntmps286
      go_wp2_with fail
      refine Calls.mono HR.out ?_
      rintro e w1 ⟨rfl, rfl⟩
      go_wp2
      go_ret
      exact ⟨a, rfl, by rw [RR.bind_ok, hres.out]; rfl, by rw [RR.bind_ok, hres.out]; exact HA.out.set _, grow_set _ _ _ _⟩
  · have hres := hid (numP_bad hr he)
    have hne : ((e : Int) == 0) = false := by rw [beq_eq_false_iff_ne]; omega
    have hne2 : ((e : Int) != 0) = true := by rw [bne_iff_ne]; omega
    clear hA h hr
    go_enter Tryz.func286, Tryz.ntmps286
    go_wp2_with fail
    refine Calls.mono HR.out ?_
    rintro e' w1 ⟨rfl, rfl⟩
    go_wp2_with fail
    refine Calls.mono (rxfail g s e 0 _ HA.out) ?_
    rintro e' w1 ⟨rfl, hA2, hg2⟩
    go_wp2
    go_ret
    exact ⟨0, rfl, by rw [RR.bind_ok, hres.out]; rfl, by rw [RR.bind_ok, hres.out]; exact ⟨s, hs, hA2⟩, hg2⟩
theorem rxval_le {σ : RR Unit} {a : Nat} (h : RxVal (σ.bind fun _ s => numP s) (fun n => n = 0) a) : a ≤ 4611686018427387904 := by
 cases σ with
 | bad x => rw [RR.bind_bad] at h; have h : a = 0 := h; omega
 | ok u s =>
  rw [RR.bind_ok] at h
  cases hp : numP s with
  | bad x => rw [hp] at h; have h : a = 0 := h; omega
  | ok b r => rw [hp] at h; have h : a = b := h; have := numP_le hp; omega
theorem rxNumber (g : Nat) (σ : RR Unit) (w : World) (h : RxS w g σ) (hσ : σ.Good RxMax) :
 Calls Tryz.prog 229 #[.pointer (some ⟨g, 0, none⟩)] w (RxPost g (σ.bind fun _ s => numP s) (fun n : Nat => .int .i64 n) (fun n => n = 0) w) := by
 have H := hid (rxnumber g σ w h hσ)
 clear h
 go_enter Tryz.func229, Tryz.ntmps229
 go_wp2_with fail
 refine Calls.mono H.out ?_
 rintro e w1 ⟨a, rfl, hv, hs, hg⟩
 have hle := rxval_le hv
 have Hv := hid hv
 clear hv
 go_wp2
 go_ret
 exact ⟨a, rfl, Hv.out, hs, hg⟩
theorem rxSigned (g : Nat) (σ : RR Unit) (w : World) (h : RxS w g σ) (hσ : σ.Good RxMax) :
 Calls Tryz.prog 288 #[.pointer (some ⟨g, 0, none⟩)] w (RxPost g (σ.bind fun _ s => numP s) (fun n : Nat => .int .i64 (zagZ n)) (fun n => n = 0) w) := by
 have H := hid (rxnumber g σ w h hσ)
 clear h
 go_enter Tryz.func288, Tryz.ntmps288
 go_wp2_with fail
 refine Calls.mono H.out ?_
 rintro e w1 ⟨a, rfl, hv, hs, hg⟩
 have hle := rxval_le hv
 have Hv := hid hv
 clear hv
 go_wp2_with fail
 refine Calls.mono (zag_any (a : Int) (by omega) (by omega) w1) ?_
 rintro e w2 ⟨rfl, rfl⟩
 go_wp2
 go_ret
 exact ⟨a, rfl, Hv.out, hs, hg⟩
theorem rxText (g : Nat) (σ : RR Unit) (w : World) (h : RxS w g σ) (hσ : σ.Good RxMax) (hT : Tabs w) :
 Calls Tryz.prog 242 #[.pointer (some ⟨g, 0, none⟩)] w (RxPost g (σ.bind fun _ s => textP s) (fun t => .string t) (fun t => t = ⟨#[]⟩) w) := by
 cases σ with
 | bad x =>
  obtain ⟨s, hs, hA⟩ := h
  have y1 : w.cell? ⟨g, 1, none⟩ = some (.int .i64 (x : Int)) := Blk.cell hA 1
  have hne : ((x : Int) != 0) = true := by rw [bne_iff_ne]; have := hσ.1; omega
  have hA' := hid hA
  clear hA
  go_enter Tryz.func242, Tryz.ntmps242
  go_wp2
  go_ret
  exact ⟨⟨#[]⟩, rfl, rfl, ⟨s, hs, hA'.out⟩, grow_refl _ _⟩
 | ok u s =>
  have hA : RxAt w g s 0 := h
  have hs : s.size ≤ 9223372036854775807 := hσ
  have y0 : w.cell? ⟨g, 0, none⟩ = some (.string s) := Blk.cell hA 0
  have y1 : w.cell? ⟨g, 1, none⟩ = some (.int .i64 0) := Blk.cell hA 1
  have hgl := Blk.lt hA
  rcases hr : txtR s with ⟨t, k, e⟩
  have hf := txtR_facts hr
  have HA := hid hA
  have hR := readText_any s w hs hT
  unfold TrdPost at hR
  rw [hr] at hR
  have HR := hid hR
  clear hR hT h
  by_cases he : e = 0
  · subst he
    have hk := hf.2.2 rfl
    have hres := hid (textP_ok hr)
    clear hA hr hf
    go_enter Tryz.func242, Tryz.ntmps242
    go_wp2_with fail
    refine Calls.mono HR.out ?_
    rintro e w1 ⟨rfl, hb1⟩
    have hA1 : RxAt w1 g s 0 := Blk.below HA.out hb1 HA.out.lt
    have x0 : w1.cell? ⟨g, 0, none⟩ = some (.string s) := Blk.cell hA1 0
    have z0 : w1.frozen? ⟨g, 0, none⟩ = false := Blk.thaw hA1 0
    have HA1 := hid hA1
    have Hb1 := hid hb1
    clear hA1 hb1 y0 y1
    go_wp2
    go_ret
    exact ⟨t, rfl, by rw [RR.bind_ok, hres.out]; rfl, by rw [RR.bind_ok, hres.out]; exact HA1.out.set _, grow_trans (grow_below g Hb1.out) (grow_set _ _ _ _)⟩
  · have hres := hid (textP_bad hr he)
    have hne2 : ((e : Int) != 0) = true := by rw [bne_iff_ne]; omega
    clear hA hr hf
    go_enter Tryz.func242, Tryz.ntmps242
    go_wp2_with fail
    refine Calls.mono HR.out ?_
    rintro e' w1 ⟨rfl, hb1⟩
    have hA1 : RxAt w1 g s 0 := Blk.below HA.out hb1 HA.out.lt
    have HA1 := hid hA1
    have Hb1 := hid hb1
    clear hA1 hb1 y0 y1
    go_wp2_with fail
    refine Calls.mono (rxfail g s e 0 _ HA1.out) ?_
    rintro e' w2 ⟨rfl, hA2, hg2⟩
    go_wp2
    go_ret
    exact ⟨⟨#[]⟩, rfl, by rw [RR.bind_ok, hres.out]; rfl, by rw [RR.bind_ok, hres.out]; exact ⟨s, hs, hA2⟩, grow_trans (grow_below g Hb1.out) hg2⟩
end Go.Proofs.YtjgnnobccecpeaaGreatDoor
