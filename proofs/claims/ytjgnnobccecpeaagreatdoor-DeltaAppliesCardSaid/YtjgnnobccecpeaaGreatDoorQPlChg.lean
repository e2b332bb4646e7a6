/- Of the proof of a statement: PlChg. -/
import Derived.Sort.Statements
import Derived.Shelf.SlSortCmp.WholeK
import Derived.Test.YtjgnnobccecpeaaGreatDoorQCmp
set_option linter.unusedVariables false
set_option linter.unusedSimpArgs false
/- What changed leaves: plain. -/
namespace Go.Proofs.YtjgnnobccecpeaaGreatDoor
open Go.Sort
theorem find_isSome_any {α : Type} (p : α → Bool) : ∀ l : List α, (l.find? p).isSome = l.any p
  | [] => rfl
  | a :: l => by
    rw [List.find?_cons, List.any_cons]
    cases p a
    · exact find_isSome_any p l
    · rfl
section
variable {α : Type} (key : α → ByteArray)
def cfK (x y : α) : Int := cmpI (key x) (key y)
theorem ltOf_cfK (x y : α) : ltOf (cfK key) x y = kless (key x) (key y) := by
  unfold ltOf cfK
  cases h : kless (key x) (key y)
  · exact decide_eq_false (fun h' => by rw [cmpI_neg, h] at h'; cases h')
  · exact decide_eq_true (cmpI_neg.2 h)
theorem swoK : SWO (ltOf (cfK key)) where
  irrefl x := by rw [ltOf_cfK, kless_irrefl]
  trans x y z h1 h2 := by rw [ltOf_cfK] at *; exact kless_trans h1 h2
  ntrans x y z h1 h2 := by
    rw [ltOf_cfK] at *
    cases h : kless (key x) (key z)
    · rfl
    · by_cases e : key x = key y
      · rw [← e, h] at h2; exact h2
      · rw [kless_trans (kless_of_not h1 e) h] at h2; exact h2
variable {key}
/-- What came out of the table, sorted: the reference's list. -/
theorem sorted_apply [Inhabited α] {rows set xs : List α} {gone : List ByteArray} {d' : Array α} (hr : KSorted key rows) (hs : KSorted key set)
    (hnd : xs.Pairwise fun a b => key a ≠ key b) (hm : ∀ z, z ∈ xs ↔ tabG key rows gone set (key z) = some z)
    (hp : PermIn 0 xs.toArray.size xs.toArray d') (ho : SortedIn (ltOf (cfK key)) 0 xs.toArray.size d') : d'.toList = applyL key rows set gone := by
  have hsz : d'.size = xs.length := by simpa using hp.1
  have hperm : d'.toList.Perm xs := by
    have h := hp.2.2
    have e1 : d'.extract 0 xs.toArray.size = d' := by rw [Array.extract_eq_self_of_le (by simp [hsz])]
    have e2 : xs.toArray.extract 0 xs.toArray.size = xs.toArray := Array.extract_eq_self_of_le (Nat.le_refl _)
    rw [e1, e2] at h
    simpa using h
  refine applyL_eq hr hs ?_ (fun z => by rw [hperm.mem_iff, hm])
  have hnd' : d'.toList.Pairwise fun a b => key a ≠ key b := (hperm.pairwise_iff (fun {a b} h => Ne.symm h)).2 hnd
  refine List.pairwise_iff_getElem.2 fun i j hi hj hij => ?_
  have hi' : i < d'.size := by simpa using hi
  have hj' : j < d'.size := by simpa using hj
  have h1 := ho i j (Nat.zero_le _) hij (by simpa [hsz] using hj')
  have h2 := List.pairwise_iff_getElem.1 hnd' i j hi hj hij
  rw [ltOf_cfK, getElem!_pos d' j hj', getElem!_pos d' i hi'] at h1
  simp only [Array.getElem_toList] at h2 ⊢
  exact kless_of_not h1 (fun e => h2 e.symm)
theorem tabG_row {rows : List α} (hp : rows.Pairwise fun a b => key a ≠ key b) {k : Nat} {x : α} (h : rows[k]? = some x) (s : ByteArray) :
    tabG key (rows.take (k + 1)) [] [] s = if s = key x then some x else tabG key (rows.take k) [] [] s := by
  unfold tabG
  simp only [List.find?_nil, List.any_nil, Bool.false_eq_true, if_false]
  exact find_take key hp h s
theorem tabG_gone {rows : List α} {gone : List ByteArray} {k : Nat} {q : ByteArray} (h : gone[k]? = some q) (s : ByteArray) :
    tabG key rows (gone.take (k + 1)) [] s = if s = q then none else tabG key rows (gone.take k) [] s := by
  have e : gone.take (k + 1) = gone.take k ++ [q] := by
    obtain ⟨hlt, rfl⟩ := List.getElem?_eq_some_iff.1 h
    exact (List.take_append_getElem hlt).symm
  unfold tabG
  rw [e]
  simp only [List.find?_nil, List.any_append, List.any_cons, List.any_nil, Bool.or_false]
  by_cases hs : s = q
  · subst hs; simp
  · rw [if_neg hs, decide_eq_false (fun e => hs e.symm), Bool.or_false]
theorem tabG_set {rows set : List α} {gone : List ByteArray} (hp : set.Pairwise fun a b => key a ≠ key b) {k : Nat} {x : α} (h : set[k]? = some x) (s : ByteArray) :
    tabG key rows gone (set.take (k + 1)) s = if s = key x then some x else tabG key rows gone (set.take k) s := by
  unfold tabG
  rw [find_take key hp h s]
  by_cases hs : s = key x
  · rw [if_pos hs, if_pos hs]
  · rw [if_neg hs, if_neg hs]
/-- A name that is to go: is it there? -/
theorem tabG_is {rows : List α} {gone : List ByteArray} (hg : gone.Pairwise fun a b => a ≠ b) {k : Nat} {q : ByteArray} (h : gone[k]? = some q) :
    (tabG key rows (gone.take k) [] q).isSome = rows.any fun r => decide (key r = q) := by
  have hn : ((gone.take k).any fun a => decide (a = q)) = false := by
    rw [List.any_eq_false]
    intro a ha hd
    have e : a = q := by simpa using hd
    obtain ⟨hlt, rfl⟩ := List.getElem?_eq_some_iff.1 h
    obtain ⟨i, hi, rfl⟩ := List.mem_iff_getElem.1 ha
    rw [List.length_take] at hi
    rw [List.getElem_take] at e
    exact List.pairwise_iff_getElem.1 hg i k (by omega) hlt (by omega) e
  unfold tabG
  rw [hn]
  simp only [List.find?_nil, Bool.false_eq_true, if_false]
  exact find_isSome_any _ rows
theorem missing_step {rows : List α} {gone : List ByteArray} {k : Nat} {q : ByteArray} (h : gone[k]? = some q) (h0 : missingL key rows (gone.take k) = false) (h1 : (rows.any fun r => decide (key r = q)) = true) :
    missingL key rows (gone.take (k + 1)) = false := by
  have e : gone.take (k + 1) = gone.take k ++ [q] := by
    obtain ⟨hlt, rfl⟩ := List.getElem?_eq_some_iff.1 h
    exact (List.take_append_getElem hlt).symm
  unfold missingL at h0 ⊢
  rw [e, List.any_append, h0]
  simp [h1]
theorem missing_hit {rows : List α} {gone : List ByteArray} {k : Nat} {q : ByteArray} (h : gone[k]? = some q) (h1 : (rows.any fun r => decide (key r = q)) = false) : missingL key rows gone = true := by
  unfold missingL
  exact List.any_eq_true.2 ⟨q, List.mem_of_getElem? h, by simp [h1]⟩
theorem missing_all {rows : List α} {gone : List ByteArray} {k : Nat} (h0 : missingL key rows (gone.take k) = false) (hk : gone.length ≤ k) : missingL key rows gone = false := by rwa [List.take_of_length_le hk] at h0
end
/-- All that a table holds has come, each once. -/
def CameOf {α : Type} (key : α → ByteArray) (g : ByteArray → Option α) (xs : List α) : Prop := (xs.Pairwise fun a b => key a ≠ key b) ∧ ∀ z, z ∈ xs ↔ g (key z) = some z
end Go.Proofs.YtjgnnobccecpeaaGreatDoor
