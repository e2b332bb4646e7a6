/- What Encode of a delta says: plain. -/
import Derived.Test.YtonipllegfgdiaaDoorWPut
import Derived.Test.YtonipllegfgdiaaDoorDChk
namespace Go.Proofs.YtonipllegfgdiaaDoor
open Go.RowKit
theorem firstE_all : ∀ {l : List Int}, firstE l = 0 → ∀ e ∈ l, e = 0
  | [], _, e, he => by cases he
  | x :: l, h, e, he => by
    by_cases hx : x = 0
    · rw [firstE_zero hx] at h
      rcases List.mem_cons.1 he with rfl | he
      · exact hx
      · exact firstE_all h e he
    · rw [firstE_stop hx] at h; exact absurd h hx
theorem nameOk_size {s : ByteArray} (h : nameOk s = true) : s.size ≤ 16 := by
  by_cases hs : s.size ≤ 16
  · exact hs
  · unfold nameOk at h; rw [txtOk_long hs] at h; simp at h
theorem txtOk_size {s : ByteArray} (h : txtOk s = true) : s.size ≤ 16 := by
  by_cases hs : s.size ≤ 16
  · exact hs
  · rw [txtOk_long hs] at h; simp at h
theorem jobE_zero {j : JobD} (h : jobE j = 0) : nameOk j.name = true ∧ txtOk j.tag = true ∧ (-1000 ≤ j.prio ∧ j.prio ≤ 1000) ∧ (0 ≤ j.need ∧ j.need ≤ 1000000) ∧ (0 ≤ j.tries ∧ j.tries ≤ 100) := by
  unfold jobE at h
  by_cases h1 : (nameOk j.name && txtOk j.tag) = true
  · rw [if_pos h1] at h
    by_cases h2 : (ranged j.prio (-1000) 1000 && ranged j.need 0 1000000 && ranged j.tries 0 100) = true
    · simp only [Bool.and_eq_true] at h1 h2
      exact ⟨h1.1, h1.2, ranged_iff.1 h2.1.1, ranged_iff.1 h2.1.2, ranged_iff.1 h2.2⟩
    · rw [if_neg h2] at h; exact absurd h (by decide)
  · rw [if_neg h1] at h; exact absurd h (by decide)
theorem nodeE_zero {n : NodeD} (h : nodeE n = 0) : nameOk n.name = true ∧ txtOk n.zone = true ∧ (0 ≤ n.room ∧ n.room ≤ 1000000) := by
  unfold nodeE at h
  by_cases h1 : (nameOk n.name && txtOk n.zone) = true
  · rw [if_pos h1] at h
    by_cases h2 : ranged n.room 0 1000000 = true
    · simp only [Bool.and_eq_true] at h1
      exact ⟨h1.1, h1.2, ranged_iff.1 h2⟩
    · rw [if_neg h2] at h; exact absurd h (by decide)
  · rw [if_neg h1] at h; exact absurd h (by decide)
theorem lsE_zero {l : LeaseD} (h : lsE l = 0) : nameOk l.job = true ∧ nameOk l.node = true ∧ (0 ≤ l.till ∧ l.till ≤ 1099511627776) := by
  unfold lsE at h
  by_cases h1 : (nameOk l.job && nameOk l.node) = true
  · rw [if_pos h1] at h
    by_cases h2 : ranged l.till 0 1099511627776 = true
    · simp only [Bool.and_eq_true] at h1
      exact ⟨h1.1, h1.2, ranged_iff.1 h2⟩
    · rw [if_neg h2] at h; exact absurd h (by decide)
  · rw [if_neg h1] at h; exact absurd h (by decide)
theorem jobW_of {j : JobD} (h : jobE j = 0) : JobW j := by
  obtain ⟨h1, h2, h3, h4, h5⟩ := jobE_zero h
  have := nameOk_size h1
  have := txtOk_size h2
  exact ⟨by omega, by omega, by omega, by omega, by omega⟩
theorem nodeW_of {n : NodeD} (h : nodeE n = 0) : NodeW n := by
  obtain ⟨h1, h2, h3⟩ := nodeE_zero h
  have := nameOk_size h1
  have := txtOk_size h2
  exact ⟨by omega, by omega, by omega⟩
theorem leaseW_of {l : LeaseD} (h : lsE l = 0) : LeaseW l := by
  obtain ⟨h1, h2, h3⟩ := lsE_zero h
  have := nameOk_size h1
  have := nameOk_size h2
  exact ⟨by omega, by omega, by omega⟩
def deltaL (d : DeltaD) : List UInt8 := numL d.from_.toNat ++ numL (d.to_ - d.from_).toNat ++ putL (fun x => jobL x 3) d.jobs ++ putL (fun x => nodeL x 3) d.nodes ++ putL leaseL d.leases ++ putL txtL d.gj ++ putL txtL d.gn ++ putL txtL d.gl
def encD (d : DeltaD) : ByteArray × Int := if deltaE d = 0 then (if 6000 < (deltaL d).length then (⟨#[]⟩, 2) else (⟨(deltaL d).toArray⟩, 0)) else (⟨#[]⟩, deltaE d)
def DEPost (d : DeltaD) (w : World) (e : Ending) (w' : World) : Prop := e = .returned (.tuple #[.string (encD d).1, .int .i64 (encD d).2]) ∧ Below w.heap.size w w'
theorem DEPost.bad {d : DeltaD} {w w' : World} {E : Int} (h : deltaE d = E) (hE : E ≠ 0) (hb : Below w.heap.size w w') : DEPost d w (.returned (.tuple #[.string ⟨#[]⟩, .int .i64 E])) w' := by
  refine ⟨?_, hb⟩; unfold encD; rw [if_neg (by rw [h]; exact hE), h]
theorem DEPost.large {d : DeltaD} {w w' : World} (h : deltaE d = 0) (hL : 6000 < (deltaL d).length) (hb : Below w.heap.size w w') : DEPost d w (.returned (.tuple #[.string ⟨#[]⟩, .int .i64 2])) w' := by
  refine ⟨?_, hb⟩; unfold encD; rw [if_pos h, if_pos hL]
theorem DEPost.ok {d : DeltaD} {w w' : World} {s : ByteArray} (h : deltaE d = 0) (hL : ¬ 6000 < (deltaL d).length) (hs : s = ⟨(deltaL d).toArray⟩) (hb : Below w.heap.size w w') : DEPost d w (.returned (.tuple #[.string s, .int .i64 0])) w' := by
  refine ⟨?_, hb⟩; unfold encD; rw [if_pos h, if_neg hL, hs]
/-- What a delta that may be is. -/
structure DGood (d : DeltaD) : Prop where
  t0 : 0 ≤ d.from_
  t1 : d.from_ < d.to_
  t2 : d.to_ ≤ 1099511627776
  nj : d.jobs.length ≤ 40
  nn : d.nodes.length ≤ 20
  nl : d.leases.length ≤ 40
  ngj : d.gj.length ≤ 40
  ngn : d.gn.length ≤ 20
  ngl : d.gl.length ≤ 40
  jobs : ∀ x ∈ d.jobs, JobW x
  nodes : ∀ x ∈ d.nodes, NodeW x
  leases : ∀ x ∈ d.leases, LeaseW x
theorem dgood {d : DeltaD} (h : deltaE d = 0) : DGood d := by
  have ht : dTimes d = true := by
    cases hh : dTimes d
    · rw [de_time hh] at h; exact absurd h (by decide)
    · rfl
  have hs : dSizes d = true := by
    cases hh : dSizes d
    · rw [de_large ht hh] at h; exact absurd h (by decide)
    · rfl
  rw [de_rows ht hs] at h
  have hall := firstE_all h
  unfold dTimes at ht
  unfold dSizes at hs
  simp only [Bool.and_eq_true, decide_eq_true_eq, ranged_iff] at ht hs
  have hj := (rows_all (E := jobE) (key := JobD.name) none d.jobs (hall _ (by simp [dRows, rowsE]))).1
  have hn := (rows_all (E := nodeE) (key := NodeD.name) none d.nodes (hall _ (by simp [dRows, rowsE]))).1
  have hl := (rows_all (E := lsE) (key := LeaseD.job) none d.leases (hall _ (by simp [dRows, rowsE]))).1
  exact ⟨by omega, by omega, by omega, by omega, by omega, by omega, by omega, by omega, by omega, fun x hx => jobW_of (hj x hx).1, fun x hx => nodeW_of (hn x hx).1, fun x hx => leaseW_of (hl x hx).1⟩
end Go.Proofs.YtonipllegfgdiaaDoor
