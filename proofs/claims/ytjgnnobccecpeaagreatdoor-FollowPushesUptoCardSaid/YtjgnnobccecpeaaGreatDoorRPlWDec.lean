/- Of the proof of a statement: PlWDec, SrcA. -/
import Derived.Test.YtjgnnobccecpeaaGreatDoorRRPhG
set_option linter.unusedVariables false
set_option linter.unusedSimpArgs false
set_option maxRecDepth 100000
set_option maxHeartbeats 8000000
/- What Decode of a state says: plain. -/
namespace Go.Proofs.YtjgnnobccecpeaaGreatDoor
open Go.Lib (hid)
theorem repP_all {α : Type} {p : ByteArray → RR α} : ∀ {n : Nat} {s r : ByteArray} {l : List α}, repP p n s = .ok l r → l.length = n ∧ ∀ x ∈ l, ∃ s r, p s = .ok x r
 | 0, s, r, l, h => by
  unfold repP at h
  injection h with h1 h2
  subst h1
  exact ⟨rfl, fun x hx => by cases hx⟩
 | n + 1, s, r, l, h => by
  unfold repP at h
  cases hp : p s with
  | bad x => rw [hp] at h; cases h
  | ok a r1 =>
   rw [hp, RR.bind_ok] at h
   cases hq : repP p n r1 with
   | bad x => rw [hq] at h; cases h
   | ok l' r2 =>
    rw [hq, RR.bind_ok] at h
    injection h with h1 h2
    subst h1
    obtain ⟨i1, i2⟩ := repP_all hq
    refine ⟨by simp [i1], fun x hx => ?_⟩
    rcases List.mem_cons.1 hx with rfl | hx
    · exact ⟨_, _, hp⟩
    · exact i2 x hx
theorem takeP_all {α : Type} {p : ByteArray → RR α} {most : Nat} {s r : ByteArray} {l : List α} (h : takeP most p s = .ok l r) : l.length ≤ most ∧ ∀ x ∈ l, ∃ s r, p s = .ok x r := by
 unfold takeP manyP at h
 cases hn : numP s with
 | bad x => rw [hn] at h; cases h
 | ok n r1 =>
  rw [hn, RR.bind_ok] at h
  by_cases hb : most < n
  · rw [if_pos hb] at h; cases h
  · rw [if_neg hb, RR.bind_ok] at h
    obtain ⟨i1, i2⟩ := repP_all h
    exact ⟨by omega, i2⟩
theorem jobP_size {v : Int} {s r : ByteArray} {j : JobD} (h : jobP v s = .ok j r) : j.name.size ≤ 16 ∧ j.tag.size ≤ 16 := by
 unfold jobP at h
 cases h1 : textP s with
 | bad x => rw [h1] at h; cases h
 | ok a1 s1 =>
  rw [h1, RR.bind_ok] at h
  cases h2 : numP s1 with
  | bad x => rw [h2] at h; cases h
  | ok a2 s2 =>
   rw [h2, RR.bind_ok] at h
   cases h3 : numP s2 with
   | bad x => rw [h3] at h; cases h
   | ok a3 s3 =>
    rw [h3, RR.bind_ok] at h
    cases h4 : (if 1 < v then numP s3 else .ok 0 s3) with
    | bad x => rw [h4] at h; cases h
    | ok a4 s4 =>
     rw [h4, RR.bind_ok] at h
     cases h5 : (if 2 < v then textP s4 else .ok ⟨#[]⟩ s4) with
     | bad x => rw [h5] at h; cases h
     | ok a5 s5 =>
      rw [h5, RR.bind_ok] at h
      injection h with e1 e2
      subst e1
      refine ⟨textP_le h1, ?_⟩
      by_cases hv : 2 < v
      · rw [if_pos hv] at h5; exact textP_le h5
      · rw [if_neg hv] at h5; injection h5 with e3 e4; subst e3; show (0 : Nat) ≤ 16; omega
theorem nodeP_size {v : Int} {s r : ByteArray} {j : NodeD} (h : nodeP v s = .ok j r) : j.name.size ≤ 16 ∧ j.zone.size ≤ 16 := by
 unfold nodeP at h
 cases h1 : textP s with
 | bad x => rw [h1] at h; cases h
 | ok a1 s1 =>
  rw [h1, RR.bind_ok] at h
  cases h2 : numP s1 with
  | bad x => rw [h2] at h; cases h
  | ok a2 s2 =>
   rw [h2, RR.bind_ok] at h
   cases h5 : (if 1 < v then textP s2 else .ok ⟨#[]⟩ s2) with
   | bad x => rw [h5] at h; cases h
   | ok a5 s5 =>
    rw [h5, RR.bind_ok] at h
    injection h with e1 e2
    subst e1
    refine ⟨textP_le h1, ?_⟩
    by_cases hv : 1 < v
    · rw [if_pos hv] at h5; exact textP_le h5
    · rw [if_neg hv] at h5; injection h5 with e3 e4; subst e3; show (0 : Nat) ≤ 16; omega
theorem leaseP_size {s r : ByteArray} {j : LeaseD} (h : leaseP s = .ok j r) : j.job.size ≤ 16 ∧ j.node.size ≤ 16 := by
 unfold leaseP at h
 cases h1 : textP s with
 | bad x => rw [h1] at h; cases h
 | ok a1 s1 =>
  rw [h1, RR.bind_ok] at h
  cases h2 : textP s1 with
  | bad x => rw [h2] at h; cases h
  | ok a2 s2 =>
   rw [h2, RR.bind_ok] at h
   cases h3 : numP s2 with
   | bad x => rw [h3] at h; cases h
   | ok a3 s3 =>
    rw [h3, RR.bind_ok] at h
    injection h with e1 e2
    subst e1
    exact ⟨textP_le h1, textP_le h2⟩
def revP (v : Int) (s : ByteArray) : RR Nat := if 2 < v then numP s else .ok 0 s
def stP (v : Int) (s : ByteArray) : RR StateD :=
 (revP v s).bind fun rev s => (takeP 40 (jobP v) s).bind fun j s => (takeP 20 (nodeP v) s).bind fun n s => (takeP 40 leaseP s).bind fun l s => .ok ⟨rev, j, n, l⟩ s
def endP {α : Type} (x : RR α) : RR α := x.bind fun a s => if s.size = 0 then .ok a s else .bad 4
def zeroSt : StateD := ⟨0, [], [], []⟩
def decF (b : ByteArray) (v : Int) : StateD × Int := if v < 1 ∨ 3 < v then (zeroSt, 1) else match endP (stP v b) with
 | .bad e => (zeroSt, e)
 | .ok st _ => if checkE st = 0 then (st, 0) else (zeroSt, checkE st)
theorem decF_arg {b : ByteArray} {v : Int} (h : v < 1 ∨ 3 < v) : decF b v = (zeroSt, 1) := by unfold decF; rw [if_pos h]
theorem decF_bad {b : ByteArray} {v : Int} {e : Nat} (h : ¬ (v < 1 ∨ 3 < v)) (h2 : endP (stP v b) = .bad e) : decF b v = (zeroSt, (e : Int)) := by unfold decF; rw [if_neg h, h2]
theorem decF_check {b r : ByteArray} {v : Int} {st : StateD} (h : ¬ (v < 1 ∨ 3 < v)) (h2 : endP (stP v b) = .ok st r) (h3 : checkE st ≠ 0) : decF b v = (zeroSt, checkE st) := by unfold decF; rw [if_neg h, h2]; simp only; rw [if_neg h3]
theorem decF_ok {b r : ByteArray} {v : Int} {st : StateD} (h : ¬ (v < 1 ∨ 3 < v)) (h2 : endP (stP v b) = .ok st r) (h3 : checkE st = 0) : decF b v = (st, 0) := by unfold decF; rw [if_neg h, h2]; simp only; rw [if_pos h3]
theorem bad_eq {α β : Type} {x y : Nat} (h : (RR.bad x : RR α) = .bad y) : (RR.bad x : RR β) = .bad y := by injection h with e; rw [e]
theorem st_join {v : Int} {b : ByteArray} {r1 : RR Nat} {r2 : RR (List JobD)} {r3 : RR (List NodeD)} {r4 : RR (List LeaseD)}
 (e1 : r1 = revP v b) (e2 : r2 = r1.st.bind fun _ s => takeP 40 (jobP v) s) (e3 : r3 = r2.st.bind fun _ s => takeP 20 (nodeP v) s) (e4 : r4 = r3.st.bind fun _ s => takeP 40 leaseP s) :
 (∀ x, r4.st = .bad x → stP v b = .bad x) ∧ (∀ s, r4.st = .ok () s → ∃ rev j n l s1 s2 s3, r1 = .ok rev s1 ∧ (r2 = .ok j s2 ∧ takeP 40 (jobP v) s1 = .ok j s2) ∧ (r3 = .ok n s3 ∧ takeP 20 (nodeP v) s2 = .ok n s3) ∧ (r4 = .ok l s ∧ takeP 40 leaseP s3 = .ok l s) ∧ stP v b = .ok ⟨rev, j, n, l⟩ s) := by
 unfold stP
 rw [← e1]
 cases r1 with
 | bad x =>
  subst e2; subst e3; subst e4
  exact ⟨fun y hy => bad_eq hy, fun s hs => by cases hs⟩
 | ok rev s1 =>
  rw [RR.bind_ok]
  have e2' : r2 = takeP 40 (jobP v) s1 := e2
  rw [← e2']
  cases r2 with
  | bad x =>
   subst e3; subst e4
   exact ⟨fun y hy => bad_eq hy, fun s hs => by cases hs⟩
  | ok j s2 =>
   rw [RR.bind_ok]
   have e3' : r3 = takeP 20 (nodeP v) s2 := e3
   rw [← e3']
   cases r3 with
   | bad x =>
    subst e4
    exact ⟨fun y hy => bad_eq hy, fun s hs => by cases hs⟩
   | ok n s3 =>
    rw [RR.bind_ok]
    have e4' : r4 = takeP 40 leaseP s3 := e4
    rw [← e4']
    cases r4 with
    | bad x => exact ⟨fun y hy => bad_eq hy, fun s hs => by cases hs⟩
    | ok l s4 =>
     refine And.intro (fun y hy => by cases hy) (fun s hs => ?_)
     have hs : RR.ok () s4 = RR.ok () s := hs
     injection hs with _ h2
     subst h2
     exact ⟨rev, j, n, l, s1, s2, s3, rfl, ⟨rfl, e2'.symm⟩, ⟨rfl, e3'.symm⟩, ⟨rfl, e4'.symm⟩, rfl⟩
def endE (σ : RR Unit) : Nat := match σ with
 | .ok _ s => if s.size = 0 then 0 else 4
 | .bad x => x
theorem endE_ok0 {s : ByteArray} (h : s.size = 0) : endE (.ok () s) = 0 := by unfold endE; simp only; rw [if_pos h]
theorem endE_ok4 {s : ByteArray} (h : s.size ≠ 0) : endE (.ok () s) = 4 := by unfold endE; simp only; rw [if_neg h]
theorem isEmpty_no {s : ByteArray} (h : s.size ≠ 0) : s.toList.isEmpty = false := by
 have := beq_nil h
 cases hl : s.toList with
 | nil => rw [hl] at this; exact absurd this (by decide)
 | cons a l => rfl
end Go.Proofs.YtjgnnobccecpeaaGreatDoor
/- The walks of the reference's source of bytes: a value, or a panic that bears the error. -/
namespace Go.Proofs.YtjgnnobccecpeaaGreatDoor
open Go.Lib (hid)
open Go.RowKit
def SxAt (w : World) (g : Nat) (s : ByteArray) : Prop := Blk w g 230 #[.string s] ∧ s.size ≤ 9223372036854775807
def thrown (x : Nat) : Ending := .panicked [{ v := .iface 227 (.agg #[.int .i64 (x : Int)]), recovered := false }]
def SxPost {α : Type} (g : Nat) (res : RR α) (enc : α → Value) (w : World) (e : Ending) (w' : World) : Prop :=
 w.grownBy w' (some g) ∧ match res with
 | .ok a r => e = .returned (enc a) ∧ SxAt w' g r
 | .bad x => e = thrown x
theorem SxPost.ok {α : Type} {g : Nat} {res : RR α} {enc : α → Value} {w w' : World} {e : Ending} {a : α} {r : ByteArray} (h : SxPost g res enc w e w') (hr : res = .ok a r) : e = .returned (enc a) ∧ SxAt w' g r ∧ w.grownBy w' (some g) := by
 subst hr; exact ⟨h.2.1, h.2.2, h.1⟩
theorem SxPost.bad {α : Type} {g : Nat} {res : RR α} {enc : α → Value} {w w' : World} {e : Ending} {x : Nat} (h : SxPost g res enc w e w') (hr : res = .bad x) : e = thrown x ∧ w.grownBy w' (some g) := by
 subst hr; exact ⟨h.2, h.1⟩
theorem SxPost.mkOk {α : Type} {g : Nat} {res : RR α} {enc : α → Value} {w w' : World} {a : α} {r : ByteArray} (hr : res = .ok a r) (hs : SxAt w' g r) (hg : w.grownBy w' (some g)) : SxPost g res enc w (.returned (enc a)) w' := by
 subst hr; exact ⟨hg, rfl, hs⟩
theorem SxPost.mkBad {α : Type} {g : Nat} {res : RR α} {enc : α → Value} {w w' : World} {x : Nat} (hr : res = .bad x) (hg : w.grownBy w' (some g)) : SxPost g res enc w (thrown x) w' := by
 subst hr; exact ⟨hg, rfl⟩
theorem SxAt.set {w : World} {g : Nat} {s : ByteArray} (h : SxAt w g s) (s' : ByteArray) (hs : s'.size ≤ 9223372036854775807) : SxAt (w.setCell ⟨g, 0, none⟩ (.string s')) g s' := ⟨Blk.eq (Blk.set h.1 0 _) (by simp), hs⟩
theorem SxAt.grow {w w' : World} {g b : Nat} {s : ByteArray} (h : SxAt w g s) (hg : w.grownBy w' (some b)) (hne : g ≠ b) : SxAt w' g s := ⟨grow_blk hg h.1 hne, h.2⟩
theorem SxAt.below {w w' : World} {g : Nat} {s : ByteArray} (h : SxAt w g s) (hb : Below w.heap.size w w') : SxAt w' g s := ⟨h.1.below hb h.1.lt, h.2⟩
theorem sxbig (g : Nat) (s : ByteArray) (w : World) (h : SxAt w g s) :
 Calls Tryz.prog 246 #[.pointer (some ⟨g, 0, none⟩)] w (SxPost g (numP s) (fun n : Nat => .int .u64 n) w) := by
 have y0 : w.cell? ⟨g, 0, none⟩ = some (.string s) := h.1.cell 0
 have z0 : w.frozen? ⟨g, 0, none⟩ = false := h.1.thaw 0
 have hgl := h.1.lt
 have hs := h.2
 have HA := hid h
 rcases hr : rdNum s with ⟨a, k, e⟩
 have hf := rdNum_facts hr
 have HR := hid (rread_eq hr w hs)
 by_cases he : e = 0
 · subst he
   have hk := (hf.2.2.2 rfl).2
   by_cases hl : 4611686018427387904 < a
   · have hres := hid (numP_large hr hl)
     have hd : decide ((4611686018427387904 : Int) < (a : Int)) = true := decide_eq_true (by omega)
     clear h hr
     go_enter Tryz.func246, Tryz.ntmps246
     go_wp2_with fail
     refine Calls.mono HR.out ?_
     rintro e w1 ⟨rfl, rfl⟩
     go_wp2
     exact ⟨rfl, SxPost.mkBad hres.out (grow_refl _ _)⟩
   · have hres := hid (numP_ok hr hl)
     have hd : decide ((4611686018427387904 : Int) < (a : Int)) = false := decide_eq_false (by omega)
     have hz := hid (extract_small (k := k) hs)
     clear h hr
     go_enter Tryz.func246, Tryz.ntmps246
     go_wp2_with fail
     refine Calls.mono HR.out ?_
     rintro e w1 ⟨rfl, rfl⟩
     go_wp2
     go_ret
     exact SxPost.mkOk hres.out (HA.out.set _ hz.out) (grow_set _ _ _ _)
 · have hres := hid (numP_bad hr he)
   have hne : ((e : Int) == 0) = false := by rw [beq_eq_false_iff_ne]; omega
   have hne2 : ((e : Int) != 0) = true := by rw [bne_iff_ne]; omega
   clear h hr
   go_enter Tryz.func246, Tryz.ntmps246
   go_wp2_with fail
   refine Calls.mono HR.out ?_
   rintro e' w1 ⟨rfl, rfl⟩
   go_wp2
   exact ⟨rfl, SxPost.mkBad hres.out (grow_refl _ _)⟩
theorem sxnum (g : Nat) (s : ByteArray) (w : World) (h : SxAt w g s) :
 Calls Tryz.prog 176 #[.pointer (some ⟨g, 0, none⟩)] w (SxPost g (numP s) (fun n : Nat => .int .i64 n) w) := by
 have HB := hid (sxbig g s w h)
 clear h
 rcases hr : numP s with ⟨a, r⟩ | x
 · have hle := numP_le hr
   have Hr := hid hr
   clear hr
   go_enter Tryz.func176, Tryz.ntmps176
   go_wp2_with fail
   refine Calls.mono HB.out ?_
   intro e w1 hp
   obtain ⟨rfl, hs, hg⟩ := hp.ok Hr.out
   have hs := hid hs
   have hg := hid hg
   clear hp
   go_wp2
   go_ret
   exact SxPost.mkOk rfl hs.out hg.out
 · have Hr := hid hr
   clear hr
   go_enter Tryz.func176, Tryz.ntmps176
   go_wp2_with fail
   refine Calls.mono HB.out ?_
   intro e w1 hp
   obtain ⟨rfl, hg⟩ := hp.bad Hr.out
   unfold thrown
   go_wp2
   exact ⟨rfl, SxPost.mkBad rfl hg⟩
theorem sxtext (g : Nat) (s : ByteArray) (w : World) (h : SxAt w g s) :
 Calls Tryz.prog 180 #[.pointer (some ⟨g, 0, none⟩)] w (SxPost g (textP s) (fun t => .string t) w) := by
 have y0 : w.cell? ⟨g, 0, none⟩ = some (.string s) := h.1.cell 0
 have hgl := h.1.lt
 have hs := h.2
 have HA := hid h
 rcases hr : txtR s with ⟨t, k, e⟩
 have hf := txtR_facts hr
 have hR := rtextRead_any s w hs
 unfold TrdPost at hR
 rw [hr] at hR
 have HR := hid hR
 clear hR h
 by_cases he : e = 0
 · subst he
   have hk := hf.2.2 rfl
   have hres := hid (textP_ok hr)
   have hz := hid (extract_small (k := k) hs)
   clear hr hf
   go_enter Tryz.func180, Tryz.ntmps180
   go_wp2_with fail
   refine Calls.mono HR.out ?_
   rintro e w1 ⟨rfl, hb1⟩
   have hA1 := HA.out.below hb1
   have x0 : w1.cell? ⟨g, 0, none⟩ = some (.string s) := hA1.1.cell 0
   have z0 : w1.frozen? ⟨g, 0, none⟩ = false := hA1.1.thaw 0
   have hgl1 := hA1.1.lt
   have HA1 := hid hA1
   have Hb1 := hid hb1
   clear hA1 hb1 y0
   go_wp2
   go_ret
   exact SxPost.mkOk hres.out (HA1.out.set _ hz.out) (grow_trans (grow_below g Hb1.out) (grow_set _ _ _ _))
 · have hres := hid (textP_bad hr he)
   have hne2 : ((e : Int) != 0) = true := by rw [bne_iff_ne]; omega
   clear hr hf
   go_enter Tryz.func180, Tryz.ntmps180
   go_wp2_with fail
   refine Calls.mono HR.out ?_
   rintro e' w1 ⟨rfl, hb1⟩
   go_wp2
   exact ⟨rfl, SxPost.mkBad hres.out (grow_below g hb1)⟩
end Go.Proofs.YtjgnnobccecpeaaGreatDoor
