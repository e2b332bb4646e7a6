/- Of the proof of a statement: PlChk, PlRows, Recs, SortK, EqInt, EqErr. -/
import Derived.Lib.ValidLaws
import Derived.Deep.AppendLies
import Derived.Shelf.SlSortCmp.WholeK
import Derived.Test.YtjgnnobccecpeaaGreatDoorRPush
set_option linter.unusedVariables false
set_option linter.unusedSimpArgs false
set_option maxRecDepth 100000
set_option maxHeartbeats 8000000
/- What the checks of rows say: plain. -/
namespace Go.Proofs.YtjgnnobccecpeaaGreatDoor
open Go.Lib (hid)
open Go.Lib (validD)
def txtOk (s : ByteArray) : Bool := decide (s.size ≤ 16) && validD s.data.toList
def nameOk (s : ByteArray) : Bool := decide (s.size ≠ 0) && txtOk s
def ranged (n lo hi : Int) : Bool := decide (lo ≤ n) && decide (n ≤ hi)
structure JobD where
 name : ByteArray
 prio : Int
 need : Int
 tries : Int
 tag : ByteArray
structure NodeD where
 name : ByteArray
 room : Int
 zone : ByteArray
structure LeaseD where
 job : ByteArray
 node : ByteArray
 till : Int
def jobV (j : JobD) : List Value := [.string j.name, .int .i64 j.prio, .int .i64 j.need, .int .i64 j.tries, .string j.tag]
def nodeV (n : NodeD) : List Value := [.string n.name, .int .i64 n.room, .string n.zone]
def leaseV (l : LeaseD) : List Value := [.string l.job, .string l.node, .int .i64 l.till]
def jobE (j : JobD) : Int := if nameOk j.name && txtOk j.tag then (if ranged j.prio (-1000) 1000 && ranged j.need 0 1000000 && ranged j.tries 0 100 then 0 else 1) else 4
def nodeE (n : NodeD) : Int := if nameOk n.name && txtOk n.zone then (if ranged n.room 0 1000000 then 0 else 1) else 4
theorem empty_of {s : ByteArray} (h : s.size = 0) : s = ⟨#[]⟩ := ByteArray.ext (Array.eq_empty_of_size_eq_zero h)
theorem beq_nil {s : ByteArray} (h : s.size ≠ 0) : (s.toList == []) = false := by
 rw [beq_eq_false_iff_ne, ByteArray.toList_eq]
 intro e
 have := congrArg List.length e
 rw [Array.length_toList] at this
 exact h this
theorem beq_empty {s : ByteArray} (h : s.size ≠ 0) : (s.toList == ByteArray.toList ⟨#[]⟩) = false := by
 rw [show ByteArray.toList ⟨#[]⟩ = [] from by rw [ByteArray.toList_eq]]; exact beq_nil h
theorem nameOk_empty {s : ByteArray} (h : s.size = 0) : nameOk s = false := by unfold nameOk; rw [decide_eq_false (by omega)]; rfl
theorem nameOk_more {s : ByteArray} (h : s.size ≠ 0) : nameOk s = txtOk s := by unfold nameOk; rw [decide_eq_true h]; rfl
theorem txtOk_long {s : ByteArray} (h : ¬ s.size ≤ 16) : txtOk s = false := by unfold txtOk; rw [decide_eq_false h]; rfl
theorem txtOk_short {s : ByteArray} (h : s.size ≤ 16) : txtOk s = validD s.data.toList := by unfold txtOk; rw [decide_eq_true h]; rfl
theorem ranged_iff {n lo hi : Int} : ranged n lo hi = true ↔ lo ≤ n ∧ n ≤ hi := by unfold ranged; simp
theorem ranged_not {n lo hi : Int} : ranged n lo hi = false ↔ n < lo ∨ hi < n := by
 rw [← Bool.not_eq_true, ranged_iff]; omega
end Go.Proofs.YtjgnnobccecpeaaGreatDoor
/- Rows of a table, each as it should be and in order: plain. -/
namespace Go.Proofs.YtjgnnobccecpeaaGreatDoor
open Go.Lib (hid)
open Go.Op (bytesLess)
theorem less_total : ∀ a b : List UInt8, (!bytesLess a b) = (bytesLess b a || b == a)
 | [], [] => by simp [bytesLess]
 | [], _ :: _ => by simp [bytesLess]
 | _ :: _, [] => by simp [bytesLess]
 | x :: a, y :: b => by
  have ih := less_total a b
  simp only [bytesLess]
  by_cases h1 : x < y
  · have h2 : ¬ y < x := fun h => absurd (UInt8.lt_trans h1 h) (UInt8.lt_irrefl _)
    have h3 : ¬ y = x := fun h => by subst h; exact absurd h1 (UInt8.lt_irrefl _)
    simp [h1, h2, h3]
  · by_cases h2 : y < x
    · have h3 : ¬ x = y := fun h => by subst h; exact absurd h2 (UInt8.lt_irrefl _)
      simp [h1, h2, h3]
    · have h3 : x = y := UInt8.le_antisymm (UInt8.not_lt.1 h2) (UInt8.not_lt.1 h1)
      subst h3
      simpa [h1] using ih
section
variable {α : Type} (E : α → Int) (key : α → ByteArray)
def before (p : Option ByteArray) (s : ByteArray) : Bool := match p with
 | none => true
 | some q => bytesLess q.toList s.toList
def rowsFrom : Option ByteArray → List α → Int
 | _, [] => 0
 | p, x :: l => if E x = 0 then (if before p (key x) = true then rowsFrom (some (key x)) l else 8) else E x
def rowsE (l : List α) : Int := rowsFrom E key none l
def prevK (l : List α) (k : Nat) : Option ByteArray := if k = 0 then none else l[k - 1]?.map key
variable {E key} {l : List α} {k : Nat} {x : α}
theorem drop_cons (h : l[k]? = some x) : l.drop k = x :: l.drop (k + 1) := by
 obtain ⟨hlt, rfl⟩ := List.getElem?_eq_some_iff.1 h
 exact List.drop_eq_getElem_cons hlt
theorem rows_err (h : l[k]? = some x) (he : E x ≠ 0) : rowsFrom E key (prevK key l k) (l.drop k) = E x := by
 rw [drop_cons h, rowsFrom, if_neg he]
theorem rows_order {y : α} (h : l[k]? = some x) (he : E x = 0) (hk : k ≠ 0) (hy : l[k - 1]? = some y) (hl : bytesLess (key y).toList (key x).toList = false) : rowsFrom E key (prevK key l k) (l.drop k) = 8 := by
 rw [drop_cons h, rowsFrom, if_pos he, if_neg]
 unfold prevK before
 rw [if_neg hk, hy]
 simp [hl]
theorem rows_next (h : l[k]? = some x) (he : E x = 0) (hb : k = 0 ∨ ∃ y, l[k - 1]? = some y ∧ bytesLess (key y).toList (key x).toList = true) :
 rowsFrom E key (prevK key l k) (l.drop k) = rowsFrom E key (prevK key l (k + 1)) (l.drop (k + 1)) := by
 have e1 : prevK key l (k + 1) = some (key x) := by unfold prevK; rw [if_neg (by omega), Nat.add_sub_cancel, h]; rfl
 rw [drop_cons h, rowsFrom, if_pos he, e1, if_pos]
 unfold prevK before
 rcases hb with rfl | ⟨y, hy, hl⟩
 · rfl
 · by_cases hk : k = 0
   · rw [if_pos hk]
   · rw [if_neg hk, hy]; exact hl
theorem rows_end (h : l.length ≤ k) (p : Option ByteArray) : rowsFrom E key p (l.drop k) = 0 := by
 rw [List.drop_of_length_le h]; rfl
end
theorem jobV_len (j : JobD) : (jobV j).length = 5 := rfl
theorem nodeV_len (n : NodeD) : (nodeV n).length = 3 := rfl
theorem leaseV_len (l : LeaseD) : (leaseV l).length = 3 := rfl
end Go.Proofs.YtjgnnobccecpeaaGreatDoor
/- Rows of records: lists of elements of several cells each. -/
namespace Go.Proofs.YtjgnnobccecpeaaGreatDoor
open Go.Lib (hid)
open Go.RowKit
def rowsV {α : Type} (enc : α → List Value) (l : List α) : List Value := l.flatMap enc
section
variable {α : Type} {enc : α → List Value} {sz : Nat}
theorem rowsV_append (l k : List α) : rowsV enc (l ++ k) = rowsV enc l ++ rowsV enc k := List.flatMap_append
theorem rowsV_one (a : α) : rowsV enc [a] = enc a := by simp [rowsV]
theorem rowsV_length (h : ∀ a, (enc a).length = sz) : ∀ l : List α, (rowsV enc l).length = l.length * sz
 | [] => by simp [rowsV]
 | a :: l => by
  have := rowsV_length h l
  unfold rowsV at this ⊢
  rw [List.flatMap_cons, List.length_append, this, h, List.length_cons, Nat.add_mul]; omega
theorem rowsV_get (h : ∀ a, (enc a).length = sz) : ∀ (l : List α) (i j : Nat) (a : α), l[i]? = some a → j < sz → (rowsV enc l)[i * sz + j]? = (enc a)[j]?
 | [], i, j, a, hi, _ => by simp at hi
 | b :: l, 0, j, a, hi, hj => by
  simp only [List.getElem?_cons_zero, Option.some.injEq] at hi
  subst hi
  unfold rowsV
  rw [List.flatMap_cons, Nat.zero_mul, Nat.zero_add, List.getElem?_append_left (by rw [h]; exact hj)]
 | b :: l, i + 1, j, a, hi, hj => by
  have := rowsV_get h l i j a (by simpa using hi) hj
  unfold rowsV at this ⊢
  rw [List.flatMap_cons, List.getElem?_append_right (by rw [h, Nat.add_mul]; omega), h, show (i + 1) * sz + j - sz = i * sz + j from by rw [Nat.add_mul]; omega]
  exact this
theorem SlAt.rec_ {w : World} {B n : Nat} {A : Option Addr} {l : List α} (hz : ∀ a, (enc a).length = sz) (h : SlAt w B sz A n (rowsV enc l)) (hl : l.length = n) {i : Nat} {a : α} (hi : l[i]? = some a) :
 ∃ b off, A = some ⟨b, off, none⟩ ∧ b < B ∧ ∀ j u, (enc a)[j]? = some u → w.cell? ⟨b, off + i * sz + j, none⟩ = some u := by
 have hin : i < n := by
  rw [← hl]
  rcases Nat.lt_or_ge i l.length with h1 | h1
  · exact h1
  · rw [List.getElem?_eq_none h1] at hi; cases hi
 obtain ⟨b, off, e, hB, hr⟩ := h.at_ (by omega)
 refine ⟨b, off, e, hB, fun j u hu => ?_⟩
 rw [Nat.add_assoc]
 refine hr _ _ ?_
 have hj : j < sz := by
  rw [← hz a]
  rcases Nat.lt_or_ge j (enc a).length with h1 | h1
  · exact h1
  · rw [List.getElem?_eq_none h1] at hu; cases hu
 rw [rowsV_get hz l i j a hi hj]; exact hu
end
theorem own_slAt {w : World} {base : Nat} {e : TypeId} {sz n c : Nat} {A : Option Addr} {xs : List Value} (h : w.ownsRow base e sz (.slice A n c) n xs) : SlAt w w.heap.size sz A n xs :=
 ⟨h.1, fun hn => by
  obtain ⟨g, cap, hv, hb, hg⟩ := h.form hn
  injection hv with hA _ hc
  subst hA; subst hc
  refine ⟨g, 0, rfl, hg, fun j u hu => ?_⟩
  have hj : j < n * sz := by
   rw [← h.1]
   rcases Nat.lt_or_ge j xs.length with h1 | h1
   · exact h1
   · rw [List.getElem?_eq_none h1] at hu; cases hu
  rw [Nat.zero_add, h.cellAt j hj]; exact hu⟩
section
variable {P : Program} {w : World} {ops : Array Oper} {rest : List Oper} {o : Oper} {a : Act} {Q : Exit → Act → World → Prop}
theorem push_rec {α : Type} (enc : α → List Value) (hgd : o.guard = none) (s x : Operand) (t e : TypeId) (z : Value) (sz bytes : Nat) (ho : o.op = .call { callee := .builtin .append, args := #[s, x], argTypes := #[t, t] })
 (ht : P.underlying t = some (.slice e)) (hinfo : (P.info? e).map (fun i => (i.zero, i.size, i.bytes)) = some (some z, sz, bytes)) (hzs : z.cells.size = sz) (hsz : 0 < sz)
 (henc : ∀ a, (enc a).length = sz) (h1 : ∀ a, ∀ u ∈ enc a, u.oneCell' = true)
 (base : Nat) (A : Option Addr) (m c : Nat) (l : List α) (hs : a.eval s = .slice A m c) (hown : w.ownsRow base e sz (.slice A m c) m (rowsV enc l))
 (cs : Array Value) (b : α) (hu : cs.toList = enc b) (g : Nat) (hg : w.heap.size = g) (hx : a.eval x = .slice (some ⟨g, 0, none⟩) 1 1) (hm : (m + 1) * bytes ≤ 140737488355328) (h63 : m + 1 ≤ maxLen) (hbase : base ≤ w.heap.size)
 (h : ∀ A' c' w', w'.ownsRow base e sz (.slice A' (m + 1) c') (m + 1) (rowsV enc (l ++ [b])) → Grew w w' (.slice A m c) (.slice A' (m + 1) c') → wpList P ops Q rest (a.put o.dst (.slice A' (m + 1) c')) w') :
 wpList P ops Q (o :: rest) a (w.alloc (.cells cs e)) := by
 subst hg
 obtain ⟨i0, hi, hz0, hz1, hz2⟩ := info_parts hinfo
 have hcs : cs.size = 1 * sz := by rw [← Array.length_toList, hu, henc, Nat.one_mul]
 refine wpList_push hgd s x t ho base e i0 z sz bytes ht hi hz0 hz1 hz2 hzs hsz _ m _ hs hown cs 1 (by omega) hx hcs (fun u hu' => ?_) h63 hm hbase (fun v' w' o' g' b' _ => ?_)
 · rw [hu] at hu'
   exact h1 _ _ hu'
 · have e1 : rowsV enc l ++ cs.toList = rowsV enc (l ++ [b]) := by rw [hu, rowsV_append, rowsV_one]
   rw [e1] at o'
   obtain ⟨g, cap, hv, _⟩ := o'.form (by omega)
   subst hv
   exact h _ _ _ o' ⟨g', b'⟩
end
end Go.Proofs.YtjgnnobccecpeaaGreatDoor
/- A row of the call's own, of elements of several cells, handed to the library's sort, and what it owns behind it. -/
namespace Go.Proofs.YtjgnnobccecpeaaGreatDoor
open Go.Lib (hid)
open Go.RowKit Go.Sort
section
variable {α : Type} [Inhabited α] {enc : α → List Value} {k : Nat}
theorem flatK_toList (hk : ∀ x, (enc x).length = k) (hk0 : 0 < k) (l : List α) : (flatK enc k l.toArray).toList = rowsV enc l := by
 apply List.ext_getElem?
 intro t
 have hl := rowsV_length hk l
 by_cases ht : t < l.length * k
 · have hi : t / k < l.length := Nat.div_lt_of_lt_mul (by rwa [Nat.mul_comm] at ht)
   have hj : t % k < k := Nat.mod_lt _ hk0
   have h1 := rowsV_get hk l (t / k) (t % k) l[t / k] (List.getElem?_eq_getElem hi) hj
   rw [Nat.div_add_mod'] at h1
   have hj2 : t % k < (enc l[t / k]).length := by rw [hk]; exact hj
   rw [h1, List.getElem?_eq_getElem hj2]
   have h2 : t < (flatK enc k l.toArray).size := by simpa using ht
   rw [Array.getElem?_toList, Array.getElem?_eq_getElem h2]
   have h3 := get_flatK enc k l.toArray t (by simpa using ht)
   rw [getElem!_pos (flatK enc k l.toArray) t h2] at h3
   rw [h3]
   simp [hi, hj2]
 · rw [List.getElem?_eq_none (l := rowsV enc l) (by rw [hl]; omega), List.getElem?_eq_none (by simp; omega)]
theorem holdsK_own {w : World} {g : Nat} {cur : Array Value} {e : TypeId} {l : List α} (hk : ∀ x, (enc x).length = k) (hk0 : 0 < k) (hb : w.heap[g]? = some (.cells cur e (0, 0))) (ht : cur.toList.take (l.length * k) = rowsV enc l) :
 HoldsK enc k w g 0 l.toArray := by
 intro j hj
 have hj' : j < l.length * k := by simpa using hj
 refine ⟨?_, by simp [World.frozen?, hb]⟩
 have h1 : (cur.toList.take (l.length * k))[j]? = (flatK enc k l.toArray).toList[j]? := by rw [ht, flatK_toList hk hk0]
 rw [List.getElem?_take_of_lt hj', Array.getElem?_toList, Array.getElem?_toList, Array.getElem?_eq_getElem hj] at h1
 simp only [World.cell?, hb, Nat.zero_add, Option.isSome_none, Bool.false_eq_true, if_false]
 rw [h1, getElem!_pos (flatK enc k l.toArray) j hj]
 rfl
theorem heap_sortedK {w : World} {g n : Nat} {os : Array Obj} {cur : Array Value} {e : TypeId} {fr : Nat × Nat} (d : Array α) (hb : w.heap[g]? = some (.cells cur e fr)) :
 (sortWorldK enc k w g 0 n d os).heap[g]? = some (.cells (putCells id 0 (flatK enc k d) cur) e fr) := by
 have hg : g < w.heap.size := (Array.getElem?_eq_some_iff.1 hb).1
 unfold sortWorldK putRowK
 rw [heap_grow_old _ _ (by simpa using hg)]
 simp [putRow, mapBlock, Sort.ahead, Array.getElem?_modify, hb, onCells]
theorem grownBy_sortedK {w : World} {g n : Nat} {os : Array Obj} (d : Array α) : w.grownBy (sortWorldK enc k w g 0 n d os) (some g) := by
 unfold sortWorldK putRowK
 refine ⟨rfl, rfl, rfl, by simp, fun j hj hne => ?_⟩
 rw [heap_grow_old _ _ (by simpa using hj)]
 have : g ≠ j := fun e => hne (by rw [e])
 simp [putRow, mapBlock, Sort.ahead, Array.getElem?_modify, this]
theorem take_putCellsV (cur F : Array Value) (h : F.size ≤ cur.size) : (putCells id 0 F cur).toList.take F.size = F.toList := by
 apply List.ext_getElem?
 intro j
 by_cases hj : j < F.size
 · rw [List.getElem?_take_of_lt hj, Array.getElem?_toList]
   simp [putCells, hj, show j < cur.size by omega]
 · rw [List.getElem?_take_eq_none (by omega), List.getElem?_eq_none (by simp; omega)]
theorem own_sortedK {w : World} {base g cap n : Nat} {e : TypeId} {os : Array Obj} {cur : Array Value} {l : List α} {d : Array α} (hk : ∀ x, (enc x).length = k) (hk0 : 0 < k) (hl : d.size = l.length) (hbase : base ≤ g)
 (hb : w.heap[g]? = some (.cells cur e (0, 0))) (h1 : l.length ≤ cap) (h2 : cap ≤ maxLen) (h3 : cur.size = cap * k) :
 (sortWorldK enc k w g 0 n d os).ownsRow base e k (.slice (some ⟨g, 0, none⟩) l.length cap) l.length (rowsV enc d.toList) := by
 have hF := flatK_toList hk hk0 d.toList
 have hs : (flatK enc k d).size = l.length * k := by rw [size_flatK, hl]
 refine ⟨by rw [rowsV_length hk, Array.length_toList, hl], .inr ⟨g, cap, _, rfl, hbase, heap_sortedK _ hb, h1, h2, by simp [putCells, h3], ?_⟩⟩
 rw [← hs, take_putCellsV _ _ (by rw [hs, h3]; exact Nat.mul_le_mul_right k h1), ← hF]
end
theorem cell_grownOther {w w' : World} {g b o : Nat} {v : Value} (hg : w.grownBy w' (some g)) (hne : b ≠ g) (h : w.cell? ⟨b, o, none⟩ = some v) : w'.cell? ⟨b, o, none⟩ = some v :=
 (World.cell?_of_block (hg.block b (block_lt_of_cell h) (by simp [hne]))).trans h
end Go.Proofs.YtjgnnobccecpeaaGreatDoor
/- Eq at int; the law Names. -/
namespace Go.Proofs.YtjgnnobccecpeaaGreatDoor
open Go.Lib (hid)
open Go.RowKit
def ints (zs : List Int) : List Value := zs.map (.int .i64)
theorem ints_get {zs : List Int} {j : Nat} {u : Value} (h : (ints zs)[j]? = some u) : ∃ z, zs[j]? = some z ∧ u = .int .i64 z := by
 unfold ints at h; rw [List.getElem?_map] at h
 cases hz : zs[j]? with
 | none => rw [hz] at h; cases h
 | some z => rw [hz] at h; injection h with h; exact ⟨z, rfl, h.symm⟩
theorem take_succ_of {α : Type} {xs : List α} {k : Nat} {x : α} (h : xs[k]? = some x) : xs.take (k + 1) = xs.take k ++ [x] := by
 rw [List.take_add_one, h]; rfl
theorem take_eq_step {α : Type} {xs ys : List α} {k : Nat} {x : α} (hx : xs[k]? = some x) (hy : ys[k]? = some x) (h : xs.take k = ys.take k) : xs.take (k + 1) = ys.take (k + 1) := by
 rw [take_succ_of hx, take_succ_of hy, h]
theorem ne_of_at {α : Type} {xs ys : List α} {k : Nat} {x y : α} (hx : xs[k]? = some x) (hy : ys[k]? = some y) (h : x ≠ y) : xs ≠ ys := by
 rintro rfl; rw [hx] at hy; injection hy with hy; exact h hy
theorem eq_int_any (xs ys : List Int) (A A' : Option Addr) (n m c c' B : Nat) (w : World) (hx : SlAt w B 1 A n (ints xs)) (hy : SlAt w B 1 A' m (ints ys)) (hn : n ≤ 9223372036854775807) (hm : m ≤ 9223372036854775807) :
 Calls Tryz.prog 25 #[.slice A n c, .slice A' m c'] w fun e w' => e = .returned (.bool (decide (xs = ys))) ∧ w = w' := by
 have lx : xs.length = n := by simpa [ints] using hx.len
 have ly : ys.length = m := by simpa [ints] using hy.len
 by_cases h : n = m
 · subst h
   have h0 : ((n : Int) != n) = false := by simp
   have Lx := hid lx
   have Ly := hid ly
   clear lx ly
   go_enter Tryz.func25, Tryz.ntmps25
   go_wp2
   go_loop [5, 6, 14] (fun _ _ i => ∃ k : Nat, k ≤ n ∧ i = .int .i64 k ∧ xs.take k = ys.take k) (fun _ _ i => n - (intOf i).toNat)
   case atStart => exact ⟨0, Nat.zero_le _, rfl, rfl⟩
   case round =>
    obtain ⟨k, hk, rfl, he⟩ := hrel
    have He := hid he
    clear he
    by_cases hlt : k < n
    · obtain ⟨b, off, u, rfl, hb, hu, hc⟩ := hx.cell (j := k) (by omega)
      obtain ⟨b', off', u', rfl, hb', hu', hc'⟩ := hy.cell (j := k) (by omega)
      obtain ⟨x, hxk, rfl⟩ := ints_get hu
      obtain ⟨y, hyk, rfl⟩ := ints_get hu'
      have Hx := hid hxk
      have Hy := hid hyk
      clear hxk hyk hu hu' hx hy
      by_cases hxy : x = y
      · subst hxy
        have e1 : (x != x) = false := by simp
        go_wp2
        go_round
        case rel => exact ⟨k + 1, by omega, by go_num, take_eq_step Hx.out Hy.out He.out⟩
        case measure => simp [intOf]; omega
      · have e1 : (x != y) = true := by simpa using hxy
        have fin := hid (show decide (xs = ys) = false from decide_eq_false (ne_of_at Hx.out Hy.out hxy))
        clear hxy
        go_wp2
        go_ret
        exact ⟨ret_bool fin.out.symm, rfl⟩
    · have fin := hid (show decide (xs = ys) = true from decide_eq_true (by
       have e := He.out
       rwa [List.take_of_length_le (by rw [Lx.out]; omega), List.take_of_length_le (by rw [Ly.out]; omega)] at e))
      go_wp2
      go_ret
      exact ⟨ret_bool fin.out.symm, rfl⟩
 · have h0 : ((n : Int) != m) = true := by simp; omega
   have fin := hid (show decide (xs = ys) = false from decide_eq_false (by rintro rfl; omega))
   clear lx ly
   go_enter Tryz.func25, Tryz.ntmps25
   go_wp2
   go_ret
   exact ⟨ret_bool fin.out.symm, rfl⟩
end Go.Proofs.YtjgnnobccecpeaaGreatDoor
/- Eq at Errno. -/
namespace Go.Proofs.YtjgnnobccecpeaaGreatDoor
open Go.Lib (hid)
open Go.RowKit
theorem eq_err_any (xs ys : List Int) (A A' : Option Addr) (n m c c' B : Nat) (w : World) (hx : SlAt w B 1 A n (ints xs)) (hy : SlAt w B 1 A' m (ints ys)) (hn : n ≤ 9223372036854775807) (hm : m ≤ 9223372036854775807) :
 Calls Tryz.prog 26 #[.slice A n c, .slice A' m c'] w fun e w' => e = .returned (.bool (decide (xs = ys))) ∧ w = w' := by
 have lx : xs.length = n := by simpa [ints] using hx.len
 have ly : ys.length = m := by simpa [ints] using hy.len
 by_cases h : n = m
 · subst h
   have h0 : ((n : Int) != n) = false := by simp
   have Lx := hid lx
   have Ly := hid ly
   clear lx ly
   go_enter Tryz.func26, Tryz.ntmps26
   go_wp2
   go_loop [5, 6, 14] (fun _ _ i => ∃ k : Nat, k ≤ n ∧ i = .int .i64 k ∧ xs.take k = ys.take k) (fun _ _ i => n - (intOf i).toNat)
   case atStart => exact ⟨0, Nat.zero_le _, rfl, rfl⟩
   case round =>
    obtain ⟨k, hk, rfl, he⟩ := hrel
    have He := hid he
    clear he
    by_cases hlt : k < n
    · obtain ⟨b, off, u, rfl, hb, hu, hc⟩ := hx.cell (j := k) (by omega)
      obtain ⟨b', off', u', rfl, hb', hu', hc'⟩ := hy.cell (j := k) (by omega)
      obtain ⟨x, hxk, rfl⟩ := ints_get hu
      obtain ⟨y, hyk, rfl⟩ := ints_get hu'
      have Hx := hid hxk
      have Hy := hid hyk
      clear hxk hyk hu hu' hx hy
      by_cases hxy : x = y
      · subst hxy
        have e1 : (x != x) = false := by simp
        go_wp2
        go_round
        case rel => exact ⟨k + 1, by omega, by go_num, take_eq_step Hx.out Hy.out He.out⟩
        case measure => simp [intOf]; omega
      · have e1 : (x != y) = true := by simpa using hxy
        have fin := hid (show decide (xs = ys) = false from decide_eq_false (ne_of_at Hx.out Hy.out hxy))
        clear hxy
        go_wp2
        go_ret
        exact ⟨ret_bool fin.out.symm, rfl⟩
    · have fin := hid (show decide (xs = ys) = true from decide_eq_true (by
       have e := He.out
       rwa [List.take_of_length_le (by rw [Lx.out]; omega), List.take_of_length_le (by rw [Ly.out]; omega)] at e))
      go_wp2
      go_ret
      exact ⟨ret_bool fin.out.symm, rfl⟩
 · have h0 : ((n : Int) != m) = true := by simp; omega
   have fin := hid (show decide (xs = ys) = false from decide_eq_false (by rintro rfl; omega))
   clear lx ly
   go_enter Tryz.func26, Tryz.ntmps26
   go_wp2
   go_ret
   exact ⟨ret_bool fin.out.symm, rfl⟩
end Go.Proofs.YtjgnnobccecpeaaGreatDoor
