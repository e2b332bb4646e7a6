/- Of the proof of a statement: SrcA, CkSz, PlGood, StTop, Quote. -/
import Derived.Lib.ValidLaws
import Derived.Laws.Bits64b
import Derived.Laws.BitsAllLaws
import Derived.Below
import Derived.Test.YtcodhhabfacnjaaGreatDoorSStChk
import Derived.Test.YtcodhhabfacnjaaGreatDoorSStChkS
import Derived.Test.YtcodhhabfacnjaaGreatDoorSTake
set_option linter.unusedVariables false
set_option linter.unusedSimpArgs false
/- The walks of the reference's source of bytes: a value, or a panic that bears the error. -/
namespace Go.Proofs.YtcodhhabfacnjaaGreatDoor
open Go.RowKit
/-- The source's block. -/
def SxAt (w : World) (g : Nat) (s : ByteArray) : Prop := Blk w g 87 #[.string s] ∧ s.size ≤ 9223372036854775807
/-- What is thrown. -/
def thrown (x : Nat) : Ending := .panicked [{ v := .iface 84 (.agg #[.int .i64 (x : Int)]), recovered := false }]
/-- What a source's method leaves. -/
def SxPost {α : Type} (g : Nat) (res : RR α) (enc : α → Value) (w : World) (e : Ending) (w' : World) : Prop :=
  w.grownBy w' (some g) ∧ match res with
  | .ok a r => e = .returned (enc a) ∧ SxAt w' g r
  | .bad x => e = thrown x
theorem SxPost.ok {α : Type} {g : Nat} {res : RR α} {enc : α → Value} {w w' : World} {e : Ending} {a : α} {r : ByteArray} (h : SxPost g res enc w e w') (hr : res = .ok a r) : e = .returned (enc a) ∧ SxAt w' g r ∧ w.grownBy w' (some g) := by
  subst hr; exact ⟨h.2.1, h.2.2, h.1⟩
theorem SxPost.bad {α : Type} {g : Nat} {res : RR α} {enc : α → Value} {w w' : World} {e : Ending} {x : Nat} (h : SxPost g res enc w e w') (hr : res = .bad x) : e = thrown x ∧ w.grownBy w' (some g) := by
  subst hr; exact ⟨h.2, h.1⟩
theorem SxPost.mkOk {α : Type} {g : Nat} {res : RR α} {enc : α → Value} {w w' : World} {a : α} {r : ByteArray} (hr : res = .ok a r) (hs : SxAt w' g r) (hg : w.grownBy w' (some g)) : SxPost g res enc w (.returned (enc a)) w' := by
  subst hr; exact ⟨hg, rfl, hs⟩
theorem SxPost.mkBad {α : Type} {g : Nat} {res : RR α} {enc : α → Value} {w w' : World} {x : Nat} (hr : res = .bad x) (hg : w.grownBy w' (some g)) : SxPost g res enc w (thrown x) w' := by
  subst hr; exact ⟨hg, rfl⟩
theorem SxAt.set {w : World} {g : Nat} {s : ByteArray} (h : SxAt w g s) (s' : ByteArray) (hs : s'.size ≤ 9223372036854775807) : SxAt (w.setCell ⟨g, 0, none⟩ (.string s')) g s' := ⟨Blk.eq (Blk.set h.1 0 _) (by simp), hs⟩
theorem SxAt.grow {w w' : World} {g b : Nat} {s : ByteArray} (h : SxAt w g s) (hg : w.grownBy w' (some b)) (hne : g ≠ b) : SxAt w' g s := ⟨grow_blk hg h.1 hne, h.2⟩
theorem SxAt.below {w w' : World} {g : Nat} {s : ByteArray} (h : SxAt w g s) (hb : Below w.heap.size w w') : SxAt w' g s := ⟨h.1.below hb h.1.lt, h.2⟩
end Go.Proofs.YtcodhhabfacnjaaGreatDoor
/- How many rows a state that may be has. -/
namespace Go.Proofs.YtcodhhabfacnjaaGreatDoor
open Go.RowKit
theorem ck_sizes {st : StateD} (h : checkE st = 0) : st.jobs.length ≤ 40 ∧ st.nodes.length ≤ 20 ∧ st.leases.length ≤ 40 := by
  have hz : sizesOk st = true := by
    cases hr : ranged st.rev 0 1099511627776 with
    | false => rw [ck_rev hr] at h; exact absurd h (by decide)
    | true =>
      cases hs : sizesOk st with
      | true => rfl
      | false => rw [ck_large hr hs] at h; exact absurd h (by decide)
  unfold sizesOk at hz
  simp at hz
  omega
theorem StAt.upE {w w' : World} {st : StateD} {x : StA} (hS : StAt w w.heap.size st x) (hb : Below w.heap.size w w') : StAt w' w'.heap.size st x := (hS.below hb).more hb.size
end Go.Proofs.YtcodhhabfacnjaaGreatDoor
/- What a check that says yes gives: plain. -/
namespace Go.Proofs.YtcodhhabfacnjaaGreatDoor
theorem nameOk_size {s : ByteArray} (h : nameOk s = true) : s.size ≤ 16 := by
  by_cases hs : s.size ≤ 16
  · exact hs
  · unfold nameOk at h; rw [txtOk_long hs] at h; simp at h
theorem txtOk_size {s : ByteArray} (h : txtOk s = true) : s.size ≤ 16 := by
  by_cases hs : s.size ≤ 16
  · exact hs
  · rw [txtOk_long hs] at h; simp at h
theorem jobE_zero {j : JobD} (h : jobE j = 0) : nameOk j.name = true ∧ txtOk j.tag = true ∧ (-1000 ≤ j.prio ∧ j.prio ≤ 1000) ∧ (0 ≤ j.need ∧ j.need ≤ 1000000) ∧ (0 ≤ j.tries ∧ j.tries ≤ 100) := by
  unfold jobE at h
  by_cases h1 : (nameOk j.name && txtOk j.tag) = true
  · rw [if_pos h1] at h
    by_cases h2 : (ranged j.prio (-1000) 1000 && ranged j.need 0 1000000 && ranged j.tries 0 100) = true
    · simp only [Bool.and_eq_true] at h1 h2
      exact ⟨h1.1, h1.2, ranged_iff.1 h2.1.1, ranged_iff.1 h2.1.2, ranged_iff.1 h2.2⟩
    · rw [if_neg h2] at h; exact absurd h (by decide)
  · rw [if_neg h1] at h; exact absurd h (by decide)
theorem nodeE_zero {n : NodeD} (h : nodeE n = 0) : nameOk n.name = true ∧ txtOk n.zone = true ∧ (0 ≤ n.room ∧ n.room ≤ 1000000) := by
  unfold nodeE at h
  by_cases h1 : (nameOk n.name && txtOk n.zone) = true
  · rw [if_pos h1] at h
    by_cases h2 : ranged n.room 0 1000000 = true
    · simp only [Bool.and_eq_true] at h1
      exact ⟨h1.1, h1.2, ranged_iff.1 h2⟩
    · rw [if_neg h2] at h; exact absurd h (by decide)
  · rw [if_neg h1] at h; exact absurd h (by decide)
end Go.Proofs.YtcodhhabfacnjaaGreatDoor
/- The walks of state.Check and of the law's bad state. -/
namespace Go.Proofs.YtcodhhabfacnjaaGreatDoor
open Go.RowKit
set_option maxRecDepth 100000 in
set_option maxHeartbeats 1000000 in
theorem scheck_any (st : StateD) (x : StA) (w : World) (hS : StAt w w.heap.size st x) (hT : Tabs w) :
    Calls Tryz.prog 15 #[.agg (stC st x)] w fun e w' => e = .returned (.int .i64 (checkE st)) ∧ Below w.heap.size w w' := by
  have hb1 : Below w.heap.size w (w.alloc (.cells (stC st x) 26)) := (Below.refl _ _).alloc (Nat.le_refl _) _
  have hC := Lib.hid (check_any st x _ ((hS.below hb1).more hb1.size) (hT.below hb1))
  have Hb1 := Lib.hid hb1
  clear hb1 hS hT
  obtain ⟨E, hE⟩ : ∃ E, checkE st = E := ⟨_, rfl⟩
  rw [hE]
  have HE := Lib.hid hE
  clear hE
  obtain ⟨rev, jobs, nodes, leases⟩ := st
  obtain ⟨aj, nj, cj, an, nn, cn, al, nl, cl⟩ := x
  simp only [stC] at *
  go_enter Tryz.func15, Tryz.ntmps15
  go_wp2_with fail
  refine Calls.mono hC.out ?_
  rintro e w1 ⟨hb, hcase⟩
  have Hb := Lib.hid (Hb1.out.trans (hb.mono Hb1.out.size))
  clear hb hC
  rw [HE.out] at hcase
  clear HE
  rcases hcase with ⟨hE, rfl⟩ | ⟨rfl, T, b1, b2, b3, n1, n2, n3, g3, rfl, -, -⟩
  · go_wp2
    refine bodyPost_ret (v := .int .i64 E) (by simp [results, Tryz.results15, go_sem]) rfl ⟨rfl, Hb.out⟩
  · go_wp2
    refine bodyPost_ret (v := .int .i64 0) (by simp [results, Tryz.results15, go_sem]) rfl ⟨rfl, Hb.out⟩
end Go.Proofs.YtcodhhabfacnjaaGreatDoor
/- The walk of json.Quote. -/
namespace Go.Proofs.YtcodhhabfacnjaaGreatDoor
open Go.RowKit
theorem Quote_any (s : ByteArray) (w : World) (hs : 6 * s.size + 8 ≤ 140737488355328) :
    Calls Tryz.prog 30 #[.string s] w fun e w' => e = .returned (.string ⟨(quoteL s.data.toList).toArray⟩) ∧ Below w.heap.size w w' := by
  have Hs := Lib.hid hs
  clear hs
  go_enter Tryz.func30, Tryz.ntmps30
  go_wp2_with fail
  refine Calls.mono (quote_any w.heap.size none 0 0 [] s w (World.ownsRow_nil _ _ _ _) (by have := Hs.out; omega) (Nat.le_refl _)) ?_
  rintro e w' ⟨A', m', c', rfl, ho, hg⟩
  have hb : Below w.heap.size w w' := hg.below (Nat.le_refl _) (fun g h => by simp [Value.ownBlock] at h)
  have hrun := run_string_own Tryz.underlying78 Tryz.underlying5 Tryz.underlying9 ho
  clear ho hg
  go_wp2
  go_ret
  exact ⟨rfl, hb⟩
end Go.Proofs.YtcodhhabfacnjaaGreatDoor
