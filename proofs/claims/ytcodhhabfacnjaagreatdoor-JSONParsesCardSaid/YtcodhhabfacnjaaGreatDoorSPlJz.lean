/- Of the proof of a statement: PlJz, PlJq. -/
import Derived.Test.YtcodhhabfacnjaaGreatDoorSPlJr
import Derived.Test.YtcodhhabfacnjaaGreatDoorSSGood
set_option linter.unusedVariables false
set_option linter.unusedSimpArgs false
/- The texts that the program's reader of JSON reads are no longer than what it reads of: plain. -/
namespace Go.Proofs.YtcodhhabfacnjaaGreatDoor
open Go.Lib (hasPrefix trimPrefix)
theorem txStep_room (acc l : List UInt8) : (txStep acc l).1.length + (txStep acc l).2.1.length ≤ acc.length + l.length := by
  by_cases hl : l = []
  · subst hl; rw [txStep_nil]; exact Nat.le_refl _
  · have h0 : 0 < l.length := List.length_pos_iff.2 hl
    unfold txStep
    rw [if_neg hl]
    split
    · split
      · simp only [List.length_drop]; omega
      · rename_i h1
        simp only [List.length_drop] at h1
        split <;> (simp only [List.length_drop, List.length_append, List.length_singleton]; omega)
    · split
      · split
        · simp only [List.length_nil]; omega
        · rename_i d r hd
          have := congrArg List.length hd
          rw [List.length_drop, List.length_cons] at this
          simp only [List.length_append, List.length_singleton]
          omega
      · simp only [List.length_drop, List.length_append, List.length_take]; omega
theorem txRun_room : ∀ (n : Nat) (a : List UInt8 × JS), (txRun n a).1.length ≤ a.1.length + a.2.1.length
  | 0, a => by simp only [txRun]; omega
  | n + 1, a => by
    rw [txRun]
    split
    · simp only; omega
    · split
      · simp only; omega
      · exact Nat.le_trans (txRun_room n _) (txStep_room _ _)
theorem text_room (σ : JS) : (textJ σ).1.length ≤ σ.1.length := by
  unfold textJ
  have h1 := txRun_room ((mustJ [34] σ).1.length + 1) ([], mustJ [34] σ)
  have h2 := must_len [34] σ
  simp only [List.length_nil, Nat.zero_add] at h1
  omega
def SmallV (N : Nat) (v : FV) : Prop := match v with
  | .num _ => True
  | .txt s => s.size ≤ N
theorem fv_small {v : FV} {σ : JS} {N : Nat} (h : σ.1.length ≤ N) : SmallV N (fvJ v σ).1 := by
  cases v with
  | num n => trivial
  | txt s =>
    show (BA (textJ σ).1).size ≤ N
    rw [BA_size]
    exact Nat.le_trans (text_room σ) h
theorem flds_small {N : Nat} : ∀ (fs : Flds) (a : Flds × JS), a.2.1.length ≤ N → (∀ f ∈ a.1, SmallV N f.2) → ∀ f ∈ (fs.foldl fldJ a).1, SmallV N f.2
  | [], a, _, h => h
  | f :: fs, a, hl, h => by
    rw [List.foldl_cons]
    refine flds_small fs (fldJ a f) (Nat.le_trans (fld_len a f) hl) fun g hg => ?_
    rcases List.mem_append.1 (show g ∈ a.1 ++ [_] from hg) with hg | hg
    · exact h g hg
    · rw [List.mem_singleton] at hg
      subst hg
      refine fv_small (Nat.le_trans (must_len _ _) ?_)
      split
      · exact hl
      · exact Nat.le_trans (must_len _ _) hl
theorem obj_small {fs : Flds} {σ : JS} {N : Nat} (h : σ.1.length ≤ N) : ∀ f ∈ (objJ fs σ).1, SmallV N f.2 := by
  show ∀ f ∈ (fs.foldl fldJ ([], mustJ [123] σ)).1, _
  exact flds_small fs _ (Nat.le_trans (must_len _ _) h) (fun f hf => by cases hf)
theorem el_small {fs : Flds} {N : Nat} : ∀ (n : Nat) (a : List Flds × JS), a.2.1.length ≤ N → (∀ l ∈ a.1, ∀ f ∈ l, SmallV N f.2) → ∀ l ∈ (elRun fs n a).1, ∀ f ∈ l, SmallV N f.2
  | 0, a, _, h => h
  | n + 1, a, hl, h => by
    have hl2 : (if a.1 = [] then a.2 else mustJ [44] a.2).1.length ≤ N := by
      split
      · exact hl
      · exact Nat.le_trans (must_len _ _) hl
    rw [elRun]
    split
    · exact h
    · split
      · exact h
      · refine el_small n _ (Nat.le_trans (obj_len _ _) hl2) fun l hm => ?_
        rcases List.mem_append.1 hm with hm | hm
        · exact h l hm
        · rw [List.mem_singleton] at hm
          subst hm
          exact obj_small hl2
theorem els_small {name : ByteArray} {fs : Flds} {σ : JS} (h : σ.1.length ≤ 60000) : ∀ l ∈ (elsJ name fs σ).1, ∀ f ∈ l, SmallV 60000 f.2 :=
  el_small _ _ (Nat.le_trans (must_len _ _) h) (fun l hl => by cases hl)
theorem fTxt_small {l : Flds} (h : ∀ f ∈ l, SmallV 60000 f.2) (i : Nat) : (fTxt (fAt l i)).size ≤ 9223372036854775807 := by
  have hs : SmallV 60000 (fAt l i).2 := by
    unfold fAt
    rw [List.getD_eq_getElem?_getD]
    cases hx : l[i]? with
    | none => trivial
    | some f => exact h f (List.mem_of_getElem? hx)
  unfold fTxt
  split
  · rename_i s hx
    rw [hx] at hs
    have hs : s.size ≤ 60000 := hs
    omega
  · decide
theorem els_jobs {name : ByteArray} {σ : JS} (h : σ.1.length ≤ 60000) : JobsOk ((elsJ name jobZ σ).1.map jobOfF) := fun x hx => by
  obtain ⟨l, hl, rfl⟩ := List.mem_map.1 hx
  exact ⟨fTxt_small (els_small h l hl) 0, fTxt_small (els_small h l hl) 4⟩
theorem els_nodes {name : ByteArray} {σ : JS} (h : σ.1.length ≤ 60000) : NodesOk ((elsJ name nodeZ σ).1.map nodeOfF) := fun x hx => by
  obtain ⟨l, hl, rfl⟩ := List.mem_map.1 hx
  exact ⟨fTxt_small (els_small h l hl) 0, fTxt_small (els_small h l hl) 2⟩
theorem els_leases {name : ByteArray} {σ : JS} (h : σ.1.length ≤ 60000) : LeasesOk ((elsJ name leaseZ σ).1.map leaseOfF) := fun x hx => by
  obtain ⟨l, hl, rfl⟩ := List.mem_map.1 hx
  exact ⟨fTxt_small (els_small h l hl) 0, fTxt_small (els_small h l hl) 1⟩
end Go.Proofs.YtcodhhabfacnjaaGreatDoor
/- Both readers of JSON give the same: plain. -/
namespace Go.Proofs.YtcodhhabfacnjaaGreatDoor
open Classical
/-- What Parse says: the state that prints as the text, if there is one. -/
noncomputable def parseF (t : ByteArray) : StateD × Int :=
  if 60000 < t.size then (zeroSt, 2) else if h : ∃ st, checkE st = 0 ∧ (⟨(printL st).toArray⟩ : ByteArray) = t then (h.choose, 0) else (zeroSt, 4)
theorem mid_of {st : StateD} (h : checkE st = 0) : MidS st := by
  have g := sgood h
  have hr0 := g.r0
  have hr1 := g.r1
  refine ⟨?_, fun x hx => ?_, fun x hx => ?_, fun x hx => ?_⟩
  · show -1000000000000000000 < st.rev ∧ st.rev < 1000000000000000000; omega
  · obtain ⟨h1, h2, h3, h4, h5⟩ := g.job hx
    show (-1000000000000000000 < x.prio ∧ x.prio < 1000000000000000000) ∧ (-1000000000000000000 < x.need ∧ x.need < 1000000000000000000) ∧ (-1000000000000000000 < x.tries ∧ x.tries < 1000000000000000000)
    omega
  · obtain ⟨h1, h2, h3⟩ := g.node hx
    show -1000000000000000000 < x.room ∧ x.room < 1000000000000000000
    omega
  · obtain ⟨h1, h2, h3⟩ := g.lease hx
    show -1000000000000000000 < x.till ∧ x.till < 1000000000000000000
    omega
theorem text_of {st : StateD} {t : ByteArray} (h : (⟨(printL st).toArray⟩ : ByteArray) = t) : printL st = t.data.toList := by rw [← h]
theorem print_one {st st' : StateD} (h : checkE st = 0) (h' : checkE st' = 0) (he : printL st = printL st') : st = st' := by
  have h1 := parse_back st (mid_of h)
  rw [he, parse_back st' (mid_of h')] at h1
  injection h1 with h1 _
  exact h1.symm
theorem parseF_large {t : ByteArray} (h : 60000 < t.size) : parseF t = (zeroSt, 2) := by unfold parseF; rw [if_pos h]
theorem parseF_ok {st : StateD} {t : ByteArray} (hl : ¬ 60000 < t.size) (h : checkE st = 0) (ht : (⟨(printL st).toArray⟩ : ByteArray) = t) : parseF t = (st, 0) := by
  unfold parseF
  have hx : ∃ st, checkE st = 0 ∧ (⟨(printL st).toArray⟩ : ByteArray) = t := ⟨st, h, ht⟩
  rw [if_neg hl, dif_pos hx]
  have hc := hx.choose_spec
  rw [print_one hc.1 h ((text_of hc.2).trans (text_of ht).symm)]
theorem parseF_no {t : ByteArray} (hl : ¬ 60000 < t.size) (h : ∀ st, checkE st = 0 → (⟨(printL st).toArray⟩ : ByteArray) ≠ t) : parseF t = (zeroSt, 4) := by
  unfold parseF
  rw [if_neg hl, dif_neg]
  rintro ⟨st, h1, h2⟩
  exact h st h1 h2
/-- The program: what was read is no such state. -/
theorem parseF_p {t : ByteArray} (hl : ¬ 60000 < t.size) (h : (parseS t.data.toList).2.2 = true ∨ (parseS t.data.toList).2.1 ≠ [] ∨ checkE (parseS t.data.toList).1 ≠ 0 ∨ (⟨(printL (parseS t.data.toList).1).toArray⟩ : ByteArray) ≠ t) : parseF t = (zeroSt, 4) := by
  refine parseF_no hl fun st hc ht => ?_
  have e := parse_back st (mid_of hc)
  rw [text_of ht] at e
  rw [e] at h
  rcases h with h | h | h | h
  · cases h
  · exact h rfl
  · exact h hc
  · exact h ht
/-- The reference: the reading fell. -/
theorem parseF_rbad {t : ByteArray} {x : Nat} (hl : ¬ 60000 < t.size) (h : stateR t = .bad x) : parseF t = (zeroSt, 4) := by
  refine parseF_no hl fun st hc ht => ?_
  have e := stateR_back st (mid_of hc)
  rw [text_of ht, BA_data] at e
  rw [e] at h; cases h
theorem parseF_r {t r : ByteArray} {st : StateD} (hl : ¬ 60000 < t.size) (hs : stateR t = .ok st r) (h : r.size ≠ 0 ∨ checkE st ≠ 0 ∨ (⟨(printL st).toArray⟩ : ByteArray) ≠ t) : parseF t = (zeroSt, 4) := by
  refine parseF_no hl fun st' hc ht => ?_
  have e := stateR_back st' (mid_of hc)
  rw [text_of ht, BA_data, hs] at e
  injection e with e1 e2
  subst e1; subst e2
  rcases h with h | h | h
  · exact h rfl
  · exact h hc
  · exact h ht
end Go.Proofs.YtcodhhabfacnjaaGreatDoor
