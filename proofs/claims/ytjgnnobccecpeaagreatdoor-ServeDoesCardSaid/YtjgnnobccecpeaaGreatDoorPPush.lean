/- Of the proof of a statement: Kit, Mem, Push, Blk, PlChk, PlRows. -/
import Derived.Test.YtjgnnobccecpeaaGreatDoorRows
import Derived.WalkKit
import Derived.Lib.Hide
import Derived.WalkSpells
import Derived.WalkLawsBesides
import Derived.Laws.OwnMore
import Derived.Laws.Rows
import Derived.Outline
import Derived.Maps.AppendAt
import Derived.Laws.IdiomStrings
import Derived.Lib.BufferRead
import Derived.Lib.ValidLaws
set_option linter.unusedVariables false
set_option linter.unusedSimpArgs false
set_option maxRecDepth 100000
set_option maxHeartbeats 8000000
/- Small words that all walks use: an ending by its value. -/
namespace Go.Proofs.YtjgnnobccecpeaaGreatDoor
open Go.Lib (hid)
open Go.RowKit
theorem ret_int {k : IntKind} {a b : Int} (h : a = b) : Ending.returned (.int k a) = .returned (.int k b) := by rw [h]
theorem ret_bool {a b : Bool} (h : a = b) : Ending.returned (.bool a) = .returned (.bool b) := by rw [h]
end Go.Proofs.YtjgnnobccecpeaaGreatDoor
/- Words for memory: a row of cells, and a slice that reads as a list of cells. -/
namespace Go.Proofs.YtjgnnobccecpeaaGreatDoor
open Go.Lib (hid)
open Go.RowKit
def RowAt (w : World) (b off : Nat) (xs : List Value) : Prop := ∀ j u, xs[j]? = some u → w.cell? ⟨b, off + j, none⟩ = some u
structure SlAt (w : World) (B sz : Nat) (A : Option Addr) (n : Nat) (xs : List Value) : Prop where
 len : xs.length = n * sz
 at_ : 0 < n → ∃ b off, A = some ⟨b, off, none⟩ ∧ b < B ∧ RowAt w b off xs
section
variable {w w' : World} {B B' b off sz n : Nat} {A : Option Addr} {xs : List Value}
theorem RowAt.cell {j : Nat} {u : Value} (h : RowAt w b off xs) (hu : xs[j]? = some u) : w.cell? ⟨b, off + j, none⟩ = some u := h j u hu
theorem RowAt.below (h : RowAt w b off xs) (hb : Below B w w') (hB : b < B) : RowAt w' b off xs := fun j u hu => (hb.cell (p := ⟨b, off + j, none⟩) hB).trans (h j u hu)
theorem RowAt.drop (h : RowAt w b off xs) (k : Nat) : RowAt w b (off + k) (xs.drop k) := fun j u hu => by
 rw [Nat.add_assoc]; exact h (k + j) u (by rw [← hu, List.getElem?_drop])
theorem RowAt.take (h : RowAt w b off xs) (k : Nat) : RowAt w b off (xs.take k) := fun j u hu => h j u (by
 rw [List.getElem?_take] at hu; split at hu
 · exact hu
 · cases hu)
theorem SlAt.below (h : SlAt w B sz A n xs) (hb : Below B w w') : SlAt w' B sz A n xs :=
 ⟨h.len, fun hn => by obtain ⟨b, off, e, hB, hr⟩ := h.at_ hn; exact ⟨b, off, e, hB, hr.below hb hB⟩⟩
theorem SlAt.more (h : SlAt w B sz A n xs) (hB : B ≤ B') : SlAt w B' sz A n xs :=
 ⟨h.len, fun hn => by obtain ⟨b, off, e, hb, hr⟩ := h.at_ hn; exact ⟨b, off, e, by omega, hr⟩⟩
theorem SlAt.nil : SlAt w B sz A 0 [] := ⟨by simp, fun h => absurd h (by omega)⟩
theorem SlAt.cell (h : SlAt w B sz A n xs) {j : Nat} (hj : j < n * sz) : ∃ b off u, A = some ⟨b, off, none⟩ ∧ b < B ∧ xs[j]? = some u ∧ w.cell? ⟨b, off + j, none⟩ = some u := by
 have hn : 0 < n := by
  rcases Nat.eq_zero_or_pos n with h0 | h0
  · subst h0; omega
  · exact h0
 obtain ⟨b, off, e, hB, hr⟩ := h.at_ hn
 have hl : j < xs.length := by rw [h.len]; exact hj
 exact ⟨b, off, xs[j], e, hB, List.getElem?_eq_getElem hl, hr j _ (List.getElem?_eq_getElem hl)⟩
theorem RowAt.new (w : World) (t : TypeId) (cs : Array Value) : RowAt (w.alloc (.cells cs t)) w.heap.size 0 cs.toList := fun j u hu => by
 rw [cell_of_row (w.alloc (.cells cs t)) w.heap.size (0 + j) cs t (0, 0) (heap_alloc_new w _), Nat.zero_add]
 simpa using hu
theorem SlAt.new (w : World) (t : TypeId) (cs : Array Value) (h : cs.size = n * sz) : SlAt (w.alloc (.cells cs t)) (w.heap.size + 1) sz (some ⟨w.heap.size, 0, none⟩) n cs.toList :=
 ⟨by simpa using h, fun _ => ⟨_, _, rfl, by omega, RowAt.new w t cs⟩⟩
theorem SlAt.alloc (h : SlAt w B sz A n xs) (hB : B ≤ w.heap.size) (o : Obj) : SlAt (w.alloc o) B sz A n xs := h.below ((Below.refl B w).alloc hB o)
theorem SlAt.drew (h : SlAt w B sz A n xs) : SlAt w.drew B sz A n xs := ⟨h.len, h.at_⟩
theorem RowAt.drew (h : RowAt w b off xs) : RowAt w.drew b off xs := h
end
theorem bcell {B : Nat} {W w1 : World} (hb : Below B W w1) : (∀ b o, b < B → w1.cell? ⟨b, o, none⟩ = W.cell? ⟨b, o, none⟩) ∧ (∀ b o, b < B → w1.frozen? ⟨b, o, none⟩ = W.frozen? ⟨b, o, none⟩) :=
 ⟨fun b o h => hb.cell (p := ⟨b, o, none⟩) h, fun b o h => hb.frozen (p := ⟨b, o, none⟩) h⟩
end Go.Proofs.YtjgnnobccecpeaaGreatDoor
/- append of one element to a row of the call's own. -/
namespace Go.Proofs.YtjgnnobccecpeaaGreatDoor
open Go.Lib (hid)
open Go.RowKit
structure Grew (w w' : World) (v v' : Value) : Prop where
 grown : w.grownBy w' v.ownBlock
 own : v'.ownBlock = v.ownBlock ∨ ∃ g, v'.ownBlock = some g ∧ w.heap.size ≤ g
theorem Grew.refl (w : World) (v : Value) : Grew w w v v := ⟨World.grownBy.refl w _, .inl rfl⟩
theorem Grew.trans {a b c : World} {u v x : Value} (h : Grew a b u v) (k : Grew b c v x) : Grew a c u x := by
 refine ⟨⟨k.grown.os.trans h.grown.os, k.grown.tape.trans h.grown.tape, k.grown.output.trans h.grown.output, Nat.le_trans h.grown.size k.grown.size, fun i hi hne => ?_⟩, ?_⟩
 · refine (k.grown.block i (Nat.lt_of_lt_of_le hi h.grown.size) ?_).trans (h.grown.block i hi hne)
   rcases h.own with e | ⟨g, e, hg⟩
   · rw [e]; exact hne
   · rw [e]; intro h'; injection h' with h'; omega
 · rcases k.own with e | ⟨g, e, hg⟩
   · rw [e]; exact h.own
   · exact .inr ⟨g, e, Nat.le_trans h.grown.size hg⟩
theorem Grew.below {w w' : World} {v v' : Value} {B : Nat} (h : Grew w w' v v') (hB : B ≤ w.heap.size) (hv : ∀ g, v.ownBlock = some g → B ≤ g) : Below B w w' :=
 ⟨h.grown.os, h.grown.tape, h.grown.output, h.grown.size, fun k hk => h.grown.block k (by omega) (fun e => by have := hv k e.symm; omega)⟩
section
variable {P : Program} {w : World} {ops : Array Oper} {rest : List Oper} {o : Oper} {a : Act} {Q : Exit → Act → World → Prop}
theorem wpList_push (hgd : o.guard = none) (s x : Operand) (t : TypeId)
 (ho : o.op = .call { callee := .builtin .append, args := #[s, x], argTypes := #[t, t] })
 (base : Nat) (e : TypeId) (i : TypeInfo) (z : Value) (size bytes : Nat) (ht : P.underlying t = some (.slice e)) (hi : P.info? e = some i) (hz : i.zero = some z)
 (hsize : i.size = size) (hby : i.bytes = bytes) (hzs : z.cells.size = size) (hsz : 0 < size)
 (v : Value) (n : Nat) (xs : List Value) (hs : a.eval s = v) (hown : w.ownsRow base e size v n xs)
 (cs : Array Value) (k : Nat) (hk : 0 < k) (hx : a.eval x = .slice (some ⟨w.heap.size, 0, none⟩) k k) (hl : cs.size = k * size) (h1 : ∀ u ∈ cs.toList, u.oneCell' = true)
 (h63 : n + k ≤ maxLen) (hbytes : (n + k) * bytes ≤ 140737488355328) (hbase : base ≤ w.heap.size)
 (h : ∀ v' w', w'.ownsRow base e size v' (n + k) (xs ++ cs.toList) → w.grownBy w' v.ownBlock → (v'.ownBlock = v.ownBlock ∨ ∃ g, v'.ownBlock = some g ∧ w.heap.size ≤ g) → v' ≠ .slice none 0 0 → wpList P ops Q rest (a.put o.dst v') w') :
 wpList P ops Q (o :: rest) a (w.alloc (.cells cs e)) := by
 have hr := RowAt.new w e cs
 refine wpList_append_own_at _ hgd s x t ho base e i z size bytes ht hi hz hsize hby hzs hsz v n xs hs (hown.alloc _) ⟨w.heap.size, 0, none⟩ k k cs.toList hx (by simpa using hl)
  (fun j u hu => ?_) h1 h63 hbytes (by simp; omega) (fun v' w' o' g' hnil hb => h v' w' o' ?_ ?_ ?_)
 · have := hr j u hu
   unfold Addr.add
   split
   · rename_i hj; subst hj; simpa using this
   · simpa using this
 · have g0 : w.grownBy (w.alloc (.cells cs e)) v.ownBlock := ⟨rfl, rfl, rfl, by simp, fun k hk _ => Below.heap_alloc _ _ _ hk⟩
   exact ⟨g'.os.trans g0.os, g'.tape.trans g0.tape, g'.output.trans g0.output, Nat.le_trans g0.size g'.size, fun k hk hne => (g'.block k (by simp; omega) hne).trans (g0.block k hk hne)⟩
 · rcases hb with hb | hb
   · exact .inl hb
   · exact .inr ⟨_, hb, by simp⟩
 · intro e0
   have := (hnil.1 e0).2
   omega
end
section
variable {w : World} {ops : Array Oper} {rest : List Oper} {o : Oper} {a : Act} {Q : Exit → Act → World → Prop}
end
end Go.Proofs.YtjgnnobccecpeaaGreatDoor
/- Blocks that are known whole; worlds that keep all blocks but one. -/
namespace Go.Proofs.YtjgnnobccecpeaaGreatDoor
open Go.Lib (hid)
open Go.RowKit
def Blk (w : World) (g : Nat) (t : TypeId) (cs : Array Value) : Prop := w.heap[g]? = some (.cells cs t (0, 0))
theorem Blk.below {w w' : World} {g B : Nat} {t : TypeId} {cs : Array Value} (h : Blk w g t cs) (hb : Below B w w') (hg : g < B) : Blk w' g t cs := (hb.block g hg).trans h
theorem Blk.lt {w : World} {g : Nat} {t : TypeId} {cs : Array Value} (h : Blk w g t cs) : g < w.heap.size := by
 rcases Nat.lt_or_ge g w.heap.size with h1 | h1
 · exact h1
 · unfold Blk at h; rw [Array.getElem?_eq_none h1] at h; cases h
theorem Blk.cell {w : World} {g : Nat} {t : TypeId} {cs : Array Value} (h : Blk w g t cs) (i : Nat) : w.cell? ⟨g, i, none⟩ = cs[i]? := cell_of_row w g i cs t (0, 0) h
theorem Blk.thaw {w : World} {g : Nat} {t : TypeId} {cs : Array Value} (h : Blk w g t cs) (i : Nat) : w.frozen? ⟨g, i, none⟩ = false := by unfold Blk at h; simp [World.frozen?, h]
theorem Blk.set {w : World} {g : Nat} {t : TypeId} {cs : Array Value} (h : Blk w g t cs) (i : Nat) (v : Value) : Blk (w.setCell ⟨g, i, none⟩ v) g t (cs.setIfInBounds i v) := by
 unfold Blk at h ⊢
 simp [World.setCell, Array.getElem?_modify, h]
theorem Blk.alloc {w : World} {g : Nat} {t : TypeId} {cs : Array Value} (h : Blk w g t cs) (o : Obj) : Blk (w.alloc o) g t cs := h.below ((Below.refl w.heap.size w).alloc (Nat.le_refl _) o) h.lt
theorem Blk.eq {w : World} {g : Nat} {t : TypeId} {cs cs' : Array Value} (h : Blk w g t cs) (e : cs = cs') : Blk w g t cs' := e ▸ h
section
variable {w a b : World} {g : Nat}
theorem bes_below (h : w.grownBy a (some g)) (hb : Below a.heap.size a b) : w.grownBy b (some g) :=
 ⟨hb.os.trans h.os, hb.tape.trans h.tape, hb.output.trans h.output, Nat.le_trans h.size hb.size, fun k hk hne => (hb.block k (Nat.lt_of_lt_of_le hk h.size)).trans (h.block k hk hne)⟩
theorem bes_set (h : w.grownBy a (some g)) (i : Nat) (v : Value) : w.grownBy (a.setCell ⟨g, i, none⟩ v) (some g) :=
 ⟨h.os, h.tape, h.output, by have := h.size; simp [World.setCell]; omega, fun k hk hne => (Below.heap_setCell a ⟨g, i, none⟩ v k (fun e => hne (by rw [e]))).trans (h.block k hk hne)⟩
theorem Blk.grew {v v' : Value} {t : TypeId} {cs : Array Value} (h : Blk a g t cs) (hg : Grew a b v v') (hv : ∀ k, v.ownBlock = some k → g < k) : Blk b g t cs :=
 (hg.grown.block g h.lt (fun e => by have := hv g e.symm; omega)).trans h
end
end Go.Proofs.YtjgnnobccecpeaaGreatDoor
/- What the checks of rows say: plain. -/
namespace Go.Proofs.YtjgnnobccecpeaaGreatDoor
open Go.Lib (hid)
open Go.Lib (validD)
def txtOk (s : ByteArray) : Bool := decide (s.size ≤ 16) && validD s.data.toList
def nameOk (s : ByteArray) : Bool := decide (s.size ≠ 0) && txtOk s
def ranged (n lo hi : Int) : Bool := decide (lo ≤ n) && decide (n ≤ hi)
structure JobD where
 name : ByteArray
 prio : Int
 need : Int
 tries : Int
 tag : ByteArray
structure NodeD where
 name : ByteArray
 room : Int
 zone : ByteArray
structure LeaseD where
 job : ByteArray
 node : ByteArray
 till : Int
def jobV (j : JobD) : List Value := [.string j.name, .int .i64 j.prio, .int .i64 j.need, .int .i64 j.tries, .string j.tag]
def nodeV (n : NodeD) : List Value := [.string n.name, .int .i64 n.room, .string n.zone]
def leaseV (l : LeaseD) : List Value := [.string l.job, .string l.node, .int .i64 l.till]
def jobE (j : JobD) : Int := if nameOk j.name && txtOk j.tag then (if ranged j.prio (-1000) 1000 && ranged j.need 0 1000000 && ranged j.tries 0 100 then 0 else 1) else 4
def nodeE (n : NodeD) : Int := if nameOk n.name && txtOk n.zone then (if ranged n.room 0 1000000 then 0 else 1) else 4
theorem empty_of {s : ByteArray} (h : s.size = 0) : s = ⟨#[]⟩ := ByteArray.ext (Array.eq_empty_of_size_eq_zero h)
theorem beq_nil {s : ByteArray} (h : s.size ≠ 0) : (s.toList == []) = false := by
 rw [beq_eq_false_iff_ne, ByteArray.toList_eq]
 intro e
 have := congrArg List.length e
 rw [Array.length_toList] at this
 exact h this
theorem beq_empty {s : ByteArray} (h : s.size ≠ 0) : (s.toList == ByteArray.toList ⟨#[]⟩) = false := by
 rw [show ByteArray.toList ⟨#[]⟩ = [] from by rw [ByteArray.toList_eq]]; exact beq_nil h
theorem nameOk_empty {s : ByteArray} (h : s.size = 0) : nameOk s = false := by unfold nameOk; rw [decide_eq_false (by omega)]; rfl
theorem nameOk_more {s : ByteArray} (h : s.size ≠ 0) : nameOk s = txtOk s := by unfold nameOk; rw [decide_eq_true h]; rfl
theorem txtOk_long {s : ByteArray} (h : ¬ s.size ≤ 16) : txtOk s = false := by unfold txtOk; rw [decide_eq_false h]; rfl
theorem txtOk_short {s : ByteArray} (h : s.size ≤ 16) : txtOk s = validD s.data.toList := by unfold txtOk; rw [decide_eq_true h]; rfl
theorem ranged_iff {n lo hi : Int} : ranged n lo hi = true ↔ lo ≤ n ∧ n ≤ hi := by unfold ranged; simp
theorem ranged_not {n lo hi : Int} : ranged n lo hi = false ↔ n < lo ∨ hi < n := by
 rw [← Bool.not_eq_true, ranged_iff]; omega
end Go.Proofs.YtjgnnobccecpeaaGreatDoor
/- Rows of a table, each as it should be and in order: plain. -/
namespace Go.Proofs.YtjgnnobccecpeaaGreatDoor
open Go.Lib (hid)
open Go.Op (bytesLess)
theorem less_total : ∀ a b : List UInt8, (!bytesLess a b) = (bytesLess b a || b == a)
 | [], [] => by simp [bytesLess]
 | [], _ :: _ => by simp [bytesLess]
 | _ :: _, [] => by simp [bytesLess]
 | x :: a, y :: b => by
  have ih := less_total a b
  simp only [bytesLess]
  by_cases h1 : x < y
  · have h2 : ¬ y < x := fun h => absurd (UInt8.lt_trans h1 h) (UInt8.lt_irrefl _)
    have h3 : ¬ y = x := fun h => by subst h; exact absurd h1 (UInt8.lt_irrefl _)
    simp [h1, h2, h3]
  · by_cases h2 : y < x
    · have h3 : ¬ x = y := fun h => by subst h; exact absurd h2 (UInt8.lt_irrefl _)
      simp [h1, h2, h3]
    · have h3 : x = y := UInt8.le_antisymm (UInt8.not_lt.1 h2) (UInt8.not_lt.1 h1)
      subst h3
      simpa [h1] using ih
section
variable {α : Type} (E : α → Int) (key : α → ByteArray)
def before (p : Option ByteArray) (s : ByteArray) : Bool := match p with
 | none => true
 | some q => bytesLess q.toList s.toList
def rowsFrom : Option ByteArray → List α → Int
 | _, [] => 0
 | p, x :: l => if E x = 0 then (if before p (key x) = true then rowsFrom (some (key x)) l else 8) else E x
def rowsE (l : List α) : Int := rowsFrom E key none l
def prevK (l : List α) (k : Nat) : Option ByteArray := if k = 0 then none else l[k - 1]?.map key
variable {E key} {l : List α} {k : Nat} {x : α}
theorem drop_cons (h : l[k]? = some x) : l.drop k = x :: l.drop (k + 1) := by
 obtain ⟨hlt, rfl⟩ := List.getElem?_eq_some_iff.1 h
 exact List.drop_eq_getElem_cons hlt
theorem rows_err (h : l[k]? = some x) (he : E x ≠ 0) : rowsFrom E key (prevK key l k) (l.drop k) = E x := by
 rw [drop_cons h, rowsFrom, if_neg he]
theorem rows_order {y : α} (h : l[k]? = some x) (he : E x = 0) (hk : k ≠ 0) (hy : l[k - 1]? = some y) (hl : bytesLess (key y).toList (key x).toList = false) : rowsFrom E key (prevK key l k) (l.drop k) = 8 := by
 rw [drop_cons h, rowsFrom, if_pos he, if_neg]
 unfold prevK before
 rw [if_neg hk, hy]
 simp [hl]
theorem rows_next (h : l[k]? = some x) (he : E x = 0) (hb : k = 0 ∨ ∃ y, l[k - 1]? = some y ∧ bytesLess (key y).toList (key x).toList = true) :
 rowsFrom E key (prevK key l k) (l.drop k) = rowsFrom E key (prevK key l (k + 1)) (l.drop (k + 1)) := by
 have e1 : prevK key l (k + 1) = some (key x) := by unfold prevK; rw [if_neg (by omega), Nat.add_sub_cancel, h]; rfl
 rw [drop_cons h, rowsFrom, if_pos he, e1, if_pos]
 unfold prevK before
 rcases hb with rfl | ⟨y, hy, hl⟩
 · rfl
 · by_cases hk : k = 0
   · rw [if_pos hk]
   · rw [if_neg hk, hy]; exact hl
theorem rows_end (h : l.length ≤ k) (p : Option ByteArray) : rowsFrom E key p (l.drop k) = 0 := by
 rw [List.drop_of_length_le h]; rfl
end
theorem jobV_len (j : JobD) : (jobV j).length = 5 := rfl
theorem nodeV_len (n : NodeD) : (nodeV n).length = 3 := rfl
theorem leaseV_len (l : LeaseD) : (leaseV l).length = 3 := rfl
end Go.Proofs.YtjgnnobccecpeaaGreatDoor
