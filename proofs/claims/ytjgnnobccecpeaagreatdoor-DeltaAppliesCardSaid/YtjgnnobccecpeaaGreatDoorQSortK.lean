/- Of the proof of a statement: SortK, Take. -/
import Derived.Shelf.SlSortCmp.WholeK
import Derived.Test.YtjgnnobccecpeaaGreatDoorQPlApply
import Derived.Test.YtjgnnobccecpeaaGreatDoorQRowsL
set_option linter.unusedVariables false
set_option linter.unusedSimpArgs false
/- A row of the call's own, of elements of several cells, handed to the library's sort, and what it owns behind it. -/
namespace Go.Proofs.YtjgnnobccecpeaaGreatDoor
open Go.RowKit Go.Sort
section
variable {α : Type} [Inhabited α] {enc : α → List Value} {k : Nat}
theorem flatK_toList (hk : ∀ x, (enc x).length = k) (hk0 : 0 < k) (l : List α) : (flatK enc k l.toArray).toList = rowsV enc l := by
  apply List.ext_getElem?
  intro t
  have hl := rowsV_length hk l
  by_cases ht : t < l.length * k
  · have hi : t / k < l.length := Nat.div_lt_of_lt_mul (by rwa [Nat.mul_comm] at ht)
    have hj : t % k < k := Nat.mod_lt _ hk0
    have h1 := rowsV_get hk l (t / k) (t % k) l[t / k] (List.getElem?_eq_getElem hi) hj
    rw [Nat.div_add_mod'] at h1
    have hj2 : t % k < (enc l[t / k]).length := by rw [hk]; exact hj
    rw [h1, List.getElem?_eq_getElem hj2]
    have h2 : t < (flatK enc k l.toArray).size := by simpa using ht
    rw [Array.getElem?_toList, Array.getElem?_eq_getElem h2]
    have h3 := get_flatK enc k l.toArray t (by simpa using ht)
    rw [getElem!_pos (flatK enc k l.toArray) t h2] at h3
    rw [h3]
    simp [hi, hj2]
  · rw [List.getElem?_eq_none (l := rowsV enc l) (by rw [hl]; omega), List.getElem?_eq_none (by simp; omega)]
theorem holdsK_own {w : World} {g : Nat} {cur : Array Value} {e : TypeId} {l : List α} (hk : ∀ x, (enc x).length = k) (hk0 : 0 < k) (hb : w.heap[g]? = some (.cells cur e (0, 0))) (ht : cur.toList.take (l.length * k) = rowsV enc l) :
    HoldsK enc k w g 0 l.toArray := by
  intro j hj
  have hj' : j < l.length * k := by simpa using hj
  refine ⟨?_, by simp [World.frozen?, hb]⟩
  have h1 : (cur.toList.take (l.length * k))[j]? = (flatK enc k l.toArray).toList[j]? := by rw [ht, flatK_toList hk hk0]
  rw [List.getElem?_take_of_lt hj', Array.getElem?_toList, Array.getElem?_toList, Array.getElem?_eq_getElem hj] at h1
  simp only [World.cell?, hb, Nat.zero_add, Option.isSome_none, Bool.false_eq_true, if_false]
  rw [h1, getElem!_pos (flatK enc k l.toArray) j hj]
  rfl
theorem heap_sortedK {w : World} {g n : Nat} {os : Array Obj} {cur : Array Value} {e : TypeId} {fr : Nat × Nat} (d : Array α) (hb : w.heap[g]? = some (.cells cur e fr)) :
    (sortWorldK enc k w g 0 n d os).heap[g]? = some (.cells (putCells id 0 (flatK enc k d) cur) e fr) := by
  have hg : g < w.heap.size := (Array.getElem?_eq_some_iff.1 hb).1
  unfold sortWorldK putRowK
  rw [heap_grow_old _ _ (by simpa using hg)]
  simp [putRow, mapBlock, Sort.ahead, Array.getElem?_modify, hb, onCells]
theorem grownBy_sortedK {w : World} {g n : Nat} {os : Array Obj} (d : Array α) : w.grownBy (sortWorldK enc k w g 0 n d os) (some g) := by
  unfold sortWorldK putRowK
  refine ⟨rfl, rfl, rfl, by simp, fun j hj hne => ?_⟩
  rw [heap_grow_old _ _ (by simpa using hj)]
  have : g ≠ j := fun e => hne (by rw [e])
  simp [putRow, mapBlock, Sort.ahead, Array.getElem?_modify, this]
theorem take_putCellsV (cur F : Array Value) (h : F.size ≤ cur.size) : (putCells id 0 F cur).toList.take F.size = F.toList := by
  apply List.ext_getElem?
  intro j
  by_cases hj : j < F.size
  · rw [List.getElem?_take_of_lt hj, Array.getElem?_toList]
    simp [putCells, hj, show j < cur.size by omega]
  · rw [List.getElem?_take_eq_none (by omega), List.getElem?_eq_none (by simp; omega)]
theorem own_sortedK {w : World} {base g cap n : Nat} {e : TypeId} {os : Array Obj} {cur : Array Value} {l : List α} {d : Array α} (hk : ∀ x, (enc x).length = k) (hk0 : 0 < k) (hl : d.size = l.length) (hbase : base ≤ g)
    (hb : w.heap[g]? = some (.cells cur e (0, 0))) (h1 : l.length ≤ cap) (h2 : cap ≤ maxLen) (h3 : cur.size = cap * k) :
    (sortWorldK enc k w g 0 n d os).ownsRow base e k (.slice (some ⟨g, 0, none⟩) l.length cap) l.length (rowsV enc d.toList) := by
  have hF := flatK_toList hk hk0 d.toList
  have hs : (flatK enc k d).size = l.length * k := by rw [size_flatK, hl]
  refine ⟨by rw [rowsV_length hk, Array.length_toList, hl], .inr ⟨g, cap, _, rfl, hbase, heap_sortedK _ hb, h1, h2, by simp [putCells, h3], ?_⟩⟩
  rw [← hs, take_putCellsV _ _ (by rw [hs, h3]; exact Nat.mul_le_mul_right k h1), ← hF]
end
/-- A block that the sort does not turn. -/
theorem cell_grownOther {w w' : World} {g b o : Nat} {v : Value} (hg : w.grownBy w' (some g)) (hne : b ≠ g) (h : w.cell? ⟨b, o, none⟩ = some v) : w'.cell? ⟨b, o, none⟩ = some v :=
  (World.cell?_of_block (hg.block b (block_lt_of_cell h) (by simp [hne]))).trans h
end Go.Proofs.YtjgnnobccecpeaaGreatDoor
/- The walks of Take: the rows of a table, read one by one. -/
namespace Go.Proofs.YtjgnnobccecpeaaGreatDoor
open Go.RowKit
theorem infoJobT : (Tryz.prog.info? 38).map (fun i => (i.zero, i.size, i.bytes)) = some (some (.agg #[.string ⟨#[]⟩, .int .i64 0, .int .i64 0, .int .i64 0, .string ⟨#[]⟩]), 5, 56) := by kernel_rfl
theorem infoNodeT : (Tryz.prog.info? 40).map (fun i => (i.zero, i.size, i.bytes)) = some (some (.agg #[.string ⟨#[]⟩, .int .i64 0, .string ⟨#[]⟩]), 3, 40) := by kernel_rfl
theorem infoLeaseT : (Tryz.prog.info? 42).map (fun i => (i.zero, i.size, i.bytes)) = some (some (.agg #[.string ⟨#[]⟩, .string ⟨#[]⟩, .int .i64 0]), 3, 40) := by kernel_rfl
theorem jobV_oneT (x : JobD) : ∀ u ∈ jobV x, u.oneCell' = true := by intro u hu; simp [jobV] at hu; rcases hu with rfl | rfl | rfl | rfl | rfl <;> rfl
theorem nodeV_oneT (x : NodeD) : ∀ u ∈ nodeV x, u.oneCell' = true := by intro u hu; simp [nodeV] at hu; rcases hu with rfl | rfl | rfl <;> rfl
theorem leaseV_oneT (x : LeaseD) : ∀ u ∈ leaseV x, u.oneCell' = true := by intro u hu; simp [leaseV] at hu; rcases hu with rfl | rfl | rfl <;> rfl
/-- Rows of the call's own, where another block turned. -/
theorem ownT_grow {w w' : World} {base g n sz : Nat} {e : TypeId} {v : Value} {xs : List Value} (ho : w.ownsRow base e sz v n xs) (hg : w.grownBy w' (some g)) (hgb : g < base) : w'.ownsRow base e sz v n xs := by
  rcases ho with ⟨h1, h | ⟨q, cap, cur, hv, hq, hgq, r⟩⟩
  · exact ⟨h1, .inl h⟩
  · have hlt : q < w.heap.size := (Array.getElem?_eq_some_iff.1 hgq).1
    exact ⟨h1, .inr ⟨q, cap, cur, hv, hq, (hg.block q hlt (by simp; omega)).trans hgq, r⟩⟩
end Go.Proofs.YtjgnnobccecpeaaGreatDoor
