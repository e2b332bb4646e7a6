/- Small words that all walks use: an ending by its value. Words for memory: a row of cells, and a slice that reads as a list of cells. append of one element to a row of the call's own. Blocks that are known whole; worlds that keep all blocks but one. Rows of records: lists of elements of several cells each. Plain arithmetic for the walks of package prim: no program in sight. Numbers as bytes: plain lists. Reading a number: plain. What reading a number gives: its bounds. What the reference's test of UTF-8 says, byte by byte, is what the library's decoder says: plain lemmas. What the checks of rows say: plain. Rows of a table, each as it should be and in order: plain. What the check of a state says: plain. Names that are to go: in order, and none that is set: plain. What ReadText gives: plain. The walks of Zig and Zag, in the program and in the reference. What a reader of bytes gives: plain. What Decode of a state says: plain. What Decode of a delta says: plain. What the loops over rows hold. Maps keyed by texts that the call itself has made: what they hold, as a function. -/
import Derived.Test.YtoeejfhdjmkpcaaDoorRows
import Derived.WalkKit
import Derived.Lib.Hide
import Derived.WalkSpells
import Derived.WalkLawsBesides
import Derived.Laws.OwnMore
import Derived.Laws.Rows
import Derived.Outline
import Derived.Maps.AppendAt
import Derived.Laws.IdiomStrings
import Derived.Lib.BufferRead
import Derived.Deep.AppendLies
import Derived.Laws.BitsAllLaws
import Derived.Below
import Derived.Laws.Bits64b
import Derived.Lib.ValidLaws
import Derived.Maps.OwnSet
import Derived.StringKeys
set_option linter.unusedVariables false
set_option linter.unusedSimpArgs false
namespace Go.Proofs.YtoeejfhdjmkpcaaDoor
open Go.RowKit
theorem ret_int {k : IntKind} {a b : Int} (h : a = b) : Ending.returned (.int k a) = .returned (.int k b) := by rw [h]
theorem ret_bool {a b : Bool} (h : a = b) : Ending.returned (.bool a) = .returned (.bool b) := by rw [h]
theorem ret_str {a b : ByteArray} (h : a = b) : Ending.returned (.string a) = .returned (.string b) := by rw [h]
end Go.Proofs.YtoeejfhdjmkpcaaDoor
namespace Go.Proofs.YtoeejfhdjmkpcaaDoor
open Go.RowKit

/-- From address (b, off) on the cells hold xs. -/
def RowAt (w : World) (b off : Nat) (xs : List Value) : Prop := ∀ j u, xs[j]? = some u → w.cell? ⟨b, off + j, none⟩ = some u
/-- A slice of n elements, sz cells each, that reads as xs, in blocks below B. -/
structure SlAt (w : World) (B sz : Nat) (A : Option Addr) (n : Nat) (xs : List Value) : Prop where
  len : xs.length = n * sz
  at_ : 0 < n → ∃ b off, A = some ⟨b, off, none⟩ ∧ b < B ∧ RowAt w b off xs
section
variable {w w' : World} {B B' b off sz n : Nat} {A : Option Addr} {xs : List Value}
theorem RowAt.cell {j : Nat} {u : Value} (h : RowAt w b off xs) (hu : xs[j]? = some u) : w.cell? ⟨b, off + j, none⟩ = some u := h j u hu
theorem RowAt.below (h : RowAt w b off xs) (hb : Below B w w') (hB : b < B) : RowAt w' b off xs := fun j u hu => (hb.cell (p := ⟨b, off + j, none⟩) hB).trans (h j u hu)
theorem RowAt.drop (h : RowAt w b off xs) (k : Nat) : RowAt w b (off + k) (xs.drop k) := fun j u hu => by
  rw [Nat.add_assoc]; exact h (k + j) u (by rw [← hu, List.getElem?_drop])
theorem RowAt.take (h : RowAt w b off xs) (k : Nat) : RowAt w b off (xs.take k) := fun j u hu => h j u (by
  rw [List.getElem?_take] at hu; split at hu
  · exact hu
  · cases hu)
theorem SlAt.below (h : SlAt w B sz A n xs) (hb : Below B w w') : SlAt w' B sz A n xs :=
  ⟨h.len, fun hn => by obtain ⟨b, off, e, hB, hr⟩ := h.at_ hn; exact ⟨b, off, e, hB, hr.below hb hB⟩⟩
theorem SlAt.more (h : SlAt w B sz A n xs) (hB : B ≤ B') : SlAt w B' sz A n xs :=
  ⟨h.len, fun hn => by obtain ⟨b, off, e, hb, hr⟩ := h.at_ hn; exact ⟨b, off, e, by omega, hr⟩⟩
theorem SlAt.nil : SlAt w B sz A 0 [] := ⟨by simp, fun h => absurd h (by omega)⟩
theorem SlAt.cell (h : SlAt w B sz A n xs) {j : Nat} (hj : j < n * sz) : ∃ b off u, A = some ⟨b, off, none⟩ ∧ b < B ∧ xs[j]? = some u ∧ w.cell? ⟨b, off + j, none⟩ = some u := by
  have hn : 0 < n := by
    rcases Nat.eq_zero_or_pos n with h0 | h0
    · subst h0; omega
    · exact h0
  obtain ⟨b, off, e, hB, hr⟩ := h.at_ hn
  have hl : j < xs.length := by rw [h.len]; exact hj
  exact ⟨b, off, xs[j], e, hB, List.getElem?_eq_getElem hl, hr j _ (List.getElem?_eq_getElem hl)⟩
theorem RowAt.new (w : World) (t : TypeId) (cs : Array Value) : RowAt (w.alloc (.cells cs t)) w.heap.size 0 cs.toList := fun j u hu => by
  rw [cell_of_row (w.alloc (.cells cs t)) w.heap.size (0 + j) cs t (0, 0) (heap_alloc_new w _), Nat.zero_add]
  simpa using hu
theorem SlAt.new (w : World) (t : TypeId) (cs : Array Value) (h : cs.size = n * sz) : SlAt (w.alloc (.cells cs t)) (w.heap.size + 1) sz (some ⟨w.heap.size, 0, none⟩) n cs.toList :=
  ⟨by simpa using h, fun _ => ⟨_, _, rfl, by omega, RowAt.new w t cs⟩⟩
theorem SlAt.new' {g : Nat} {cs : Array Value} {t : TypeId} (hg : w.heap.size = g) (hB : g < B) (hx : cs.toList = xs) (h : cs.size = n * sz) : SlAt (w.alloc (.cells cs t)) B sz (some ⟨g, 0, none⟩) n xs := by
  subst hx; subst hg; exact (SlAt.new w t cs h).more hB
theorem SlAt.alloc (h : SlAt w B sz A n xs) (hB : B ≤ w.heap.size) (o : Obj) : SlAt (w.alloc o) B sz A n xs := h.below ((Below.refl B w).alloc hB o)
theorem SlAt.drew (h : SlAt w B sz A n xs) : SlAt w.drew B sz A n xs := ⟨h.len, h.at_⟩
theorem RowAt.drew (h : RowAt w b off xs) : RowAt w.drew b off xs := h
end
/-- What lay below a block number still lies there: as two rules for the walk. -/
theorem bcell {B : Nat} {W w1 : World} (hb : Below B W w1) : (∀ b o, b < B → w1.cell? ⟨b, o, none⟩ = W.cell? ⟨b, o, none⟩) ∧ (∀ b o, b < B → w1.frozen? ⟨b, o, none⟩ = W.frozen? ⟨b, o, none⟩) :=
  ⟨fun b o h => hb.cell (p := ⟨b, o, none⟩) h, fun b o h => hb.frozen (p := ⟨b, o, none⟩) h⟩
end Go.Proofs.YtoeejfhdjmkpcaaDoor
namespace Go.Proofs.YtoeejfhdjmkpcaaDoor
open Go.RowKit

/-- From world w and slice v the call has come to w' and v': of the old blocks only v's own may have turned; v' lies there, or in a new block. -/
structure Grew (w w' : World) (v v' : Value) : Prop where
  grown : w.grownBy w' v.ownBlock
  own : v'.ownBlock = v.ownBlock ∨ ∃ g, v'.ownBlock = some g ∧ w.heap.size ≤ g
theorem Grew.refl (w : World) (v : Value) : Grew w w v v := ⟨World.grownBy.refl w _, .inl rfl⟩
theorem Grew.trans {a b c : World} {u v x : Value} (h : Grew a b u v) (k : Grew b c v x) : Grew a c u x := by
  refine ⟨⟨k.grown.os.trans h.grown.os, k.grown.tape.trans h.grown.tape, k.grown.output.trans h.grown.output, Nat.le_trans h.grown.size k.grown.size, fun i hi hne => ?_⟩, ?_⟩
  · refine (k.grown.block i (Nat.lt_of_lt_of_le hi h.grown.size) ?_).trans (h.grown.block i hi hne)
    rcases h.own with e | ⟨g, e, hg⟩
    · rw [e]; exact hne
    · rw [e]; intro h'; injection h' with h'; omega
  · rcases k.own with e | ⟨g, e, hg⟩
    · rw [e]; exact h.own
    · exact .inr ⟨g, e, Nat.le_trans h.grown.size hg⟩
theorem Grew.below {w w' : World} {v v' : Value} {B : Nat} (h : Grew w w' v v') (hB : B ≤ w.heap.size) (hv : ∀ g, v.ownBlock = some g → B ≤ g) : Below B w w' :=
  ⟨h.grown.os, h.grown.tape, h.grown.output, h.grown.size, fun k hk => h.grown.block k (by omega) (fun e => by have := hv k e.symm; omega)⟩

section
variable {P : Program} {w : World} {ops : Array Oper} {rest : List Oper} {o : Oper} {a : Act} {Q : Exit → Act → World → Prop}
/-- An append of k elements: the source is a literal of k elements, laid just before. -/
theorem wpList_push (hgd : o.guard = none) (s x : Operand) (t : TypeId)
    (ho : o.op = .call { callee := .builtin .append, args := #[s, x], argTypes := #[t, t] })
    (base : Nat) (e : TypeId) (i : TypeInfo) (z : Value) (size bytes : Nat) (ht : P.underlying t = some (.slice e)) (hi : P.info? e = some i) (hz : i.zero = some z)
    (hsize : i.size = size) (hby : i.bytes = bytes) (hzs : z.cells.size = size) (hsz : 0 < size)
    (v : Value) (n : Nat) (xs : List Value) (hs : a.eval s = v) (hown : w.ownsRow base e size v n xs)
    (cs : Array Value) (k : Nat) (hk : 0 < k) (hx : a.eval x = .slice (some ⟨w.heap.size, 0, none⟩) k k) (hl : cs.size = k * size) (h1 : ∀ u ∈ cs.toList, u.oneCell' = true)
    (h63 : n + k ≤ maxLen) (hbytes : (n + k) * bytes ≤ 140737488355328) (hbase : base ≤ w.heap.size)
    (h : ∀ v' w', w'.ownsRow base e size v' (n + k) (xs ++ cs.toList) → w.grownBy w' v.ownBlock → (v'.ownBlock = v.ownBlock ∨ ∃ g, v'.ownBlock = some g ∧ w.heap.size ≤ g) → v' ≠ .slice none 0 0 → wpList P ops Q rest (a.put o.dst v') w') :
    wpList P ops Q (o :: rest) a (w.alloc (.cells cs e)) := by
  have hr := RowAt.new w e cs
  refine wpList_append_own_at _ hgd s x t ho base e i z size bytes ht hi hz hsize hby hzs hsz v n xs hs (hown.alloc _) ⟨w.heap.size, 0, none⟩ k k cs.toList hx (by simpa using hl)
    (fun j u hu => ?_) h1 h63 hbytes (by simp; omega) (fun v' w' o' g' hnil hb => h v' w' o' ?_ ?_ ?_)
  · have := hr j u hu
    unfold Addr.add
    split
    · rename_i hj; subst hj; simpa using this
    · simpa using this
  · have g0 : w.grownBy (w.alloc (.cells cs e)) v.ownBlock := ⟨rfl, rfl, rfl, by simp, fun k hk _ => Below.heap_alloc _ _ _ hk⟩
    exact ⟨g'.os.trans g0.os, g'.tape.trans g0.tape, g'.output.trans g0.output, Nat.le_trans g0.size g'.size, fun k hk hne => (g'.block k (by simp; omega) hne).trans (g0.block k hk hne)⟩
  · rcases hb with hb | hb
    · exact .inl hb
    · exact .inr ⟨_, hb, by simp⟩
  · intro e0
    have := (hnil.1 e0).2
    omega
end
/-- The cells of bytes. -/
def bytesV (l : List UInt8) : List Value := l.map fun c => .int .u8 (c.toNat : Int)
theorem bytesV_append (l k : List UInt8) : bytesV (l ++ k) = bytesV l ++ bytesV k := by simp [bytesV]
theorem bytesV_length (l : List UInt8) : (bytesV l).length = l.length := by simp [bytesV]

section
variable {w : World} {ops : Array Oper} {rest : List Oper} {o : Oper} {a : Act} {Q : Exit → Act → World → Prop}
theorem Tryd.infoU8 : (Tryd.prog.info? 5).map (fun i => (i.zero, i.size, i.bytes)) = some (some (.int .u8 0), 1, 1) := by kernel_rfl
/-- Bytes pushed. -/
theorem push_bytes (hgd : o.guard = none) (s x : Operand) (ho : o.op = .call { callee := .builtin .append, args := #[s, x], argTypes := #[47, 47] })
    (base : Nat) (A : Option Addr) (m c : Nat) (l : List UInt8) (hs : a.eval s = .slice A m c) (hown : w.ownsRow base 5 1 (.slice A m c) m (bytesV l))
    (cs : Array Value) (k : Nat) (hk : 0 < k) (b : List UInt8) (hu : cs.toList = bytesV b) (hbk : b.length = k) (hx : a.eval x = .slice (some ⟨w.heap.size, 0, none⟩) k k) (hm : m + k ≤ 140737488355328) (hbase : base ≤ w.heap.size)
    (h : ∀ A' c' w', w'.ownsRow base 5 1 (.slice A' (m + k) c') (m + k) (bytesV (l ++ b)) → Grew w w' (.slice A m c) (.slice A' (m + k) c') → wpList Tryd.prog ops Q rest (a.put o.dst (.slice A' (m + k) c')) w') :
    wpList Tryd.prog ops Q (o :: rest) a (w.alloc (.cells cs 5)) := by
  obtain ⟨i0, hi, hz0, hz1, hz2⟩ := info_parts Tryd.infoU8
  have hcs : cs.size = k := by rw [← Array.length_toList, hu, bytesV_length, hbk]
  refine wpList_push hgd s x 47 ho base 5 i0 (.int .u8 0) 1 1 Tryd.underlying47 hi hz0 hz1 hz2 rfl (by decide) _ m _ hs hown cs k hk hx (by omega) (fun u hu' => ?_) (by unfold maxLen; omega) (by omega) hbase (fun v' w' o' g' b' _ => ?_)
  · rw [hu] at hu'
    obtain ⟨c, _, rfl⟩ := List.mem_map.1 hu'
    rfl
  · have e1 : bytesV l ++ cs.toList = bytesV (l ++ b) := by rw [hu, bytesV_append]
    rw [e1] at o'
    rcases o'.2 with ⟨_, h0⟩ | ⟨g, cap, cur, hv, _⟩
    · omega
    · subst hv
      exact h _ _ _ o' ⟨g', b'⟩
/-- Bytes of a row appended, at an operation: whatever the world. -/
theorem wp_bytes {K : Act → World → Prop} (s x : Operand) (ho : o.op = .call { callee := .builtin .append, args := #[s, x], argTypes := #[47, 47] })
    (base : Nat) (A : Option Addr) (m c : Nat) (l : List UInt8) (hs : a.eval s = .slice A m c) (hown : w.ownsRow base 5 1 (.slice A m c) m (bytesV l))
    (g off k c2 : Nat) (b : List UInt8) (hr : RowAt w g off (bytesV b)) (hk : 0 < k) (hbk : b.length = k) (hx : a.eval x = .slice (some ⟨g, off, none⟩) k c2) (hm : m + k ≤ 140737488355328) (hbase : base ≤ w.heap.size)
    (h : ∀ A' c' w', w'.ownsRow base 5 1 (.slice A' (m + k) c') (m + k) (bytesV (l ++ b)) → Grew w w' (.slice A m c) (.slice A' (m + k) c') → K (a.put o.dst (.slice A' (m + k) c')) w') :
    o.wp Tryd.prog a w K Q := by
  obtain ⟨i0, hi, hz0, hz1, hz2⟩ := info_parts Tryd.infoU8
  obtain ⟨v', w', hrun, h2, h3, h4, h5⟩ := run_append_own_at (P := Tryd.prog) w base 47 o.type 5 i0 (.int .u8 0) 1 1 Tryd.underlying47 hi hz0 hz1 hz2 rfl (by decide) _ m _ hown ⟨g, off, none⟩ k c2 (bytesV b) (by rw [bytesV_length, hbk, Nat.mul_one]) (fun j u hu => by
    have := hr j u hu
    unfold Addr.add
    split
    · rename_i hj; subst hj; simpa using this
    · exact this) (fun u hu => by obtain ⟨c, _, rfl⟩ := List.mem_map.1 hu; rfl) (by unfold maxLen; omega) (by omega) hbase
  rw [← bytesV_append] at h2
  unfold Oper.wp execOp
  simp only [ho, resolve, invoke, builtin, Sem.run_bind, Sem.run_pure, Result.andThen_ok, List.map_toArray, List.map_cons, List.map_nil, hs, hx, hrun]
  rcases h2.2 with ⟨_, h0⟩ | ⟨g, cap, cur, hv, _⟩
  · omega
  · subst hv
    refine h _ _ _ h2 ⟨h3, ?_⟩
    rcases h5 with h5 | h5
    · exact .inl h5
    · exact .inr ⟨_, h5, Nat.le_refl _⟩
/-- Likewise, as a step of a region that draws its order: the source a literal laid before. -/
theorem step_bytes {K : Act → World → Prop} {E : Prop} (hgd : o.guard = none) (s x : Operand) (ho : o.op = .call { callee := .builtin .append, args := #[s, x], argTypes := #[47, 47] })
    (base : Nat) (A : Option Addr) (m c : Nat) (l : List UInt8) (hs : a.eval s = .slice A m c) (hown : w.ownsRow base 5 1 (.slice A m c) m (bytesV l))
    (cs : Array Value) (k c2 : Nat) (b : List UInt8) (hcs : cs.toList = bytesV b) (hk : 0 < k) (hbk : b.length = k) (hx : a.eval x = .slice (some ⟨w.heap.size, 0, none⟩) k c2) (hm : m + k ≤ 140737488355328) (hbase : base ≤ w.heap.size)
    (h : ∀ A' c' w', w'.ownsRow base 5 1 (.slice A' (m + k) c') (m + k) (bytesV (l ++ b)) → Grew w w' (.slice A m c) (.slice A' (m + k) c') → K (a.put o.dst (.slice A' (m + k) c')) w') :
    if Region.wanted o (yielded ops a.tmps) = true then Oper.wp Tryd.prog o a (w.alloc (.cells cs 5)).drew K Q else E := by
  have hw : Region.wanted o (yielded ops a.tmps) = true := by simp [Region.wanted, hgd]
  rw [if_pos hw]
  refine wp_bytes (w := (w.alloc (.cells cs 5)).drew) s x ho base A m c l hs (hown.alloc _) w.heap.size 0 k c2 b ?_ hk hbk hx hm (by simpa using Nat.le_succ_of_le hbase) (fun A' c' w' o' g' => h A' c' w' o' ?_)
  · rw [← hcs]; exact (RowAt.new w 5 cs).drew
  · refine Grew.trans (b := (w.alloc (.cells cs 5)).drew) (v := .slice A m c) ⟨⟨rfl, rfl, rfl, by simp, fun k hk _ => ?_⟩, .inl rfl⟩ g'
    exact Below.heap_alloc _ _ _ hk
/-- A byte pushed. -/
theorem push_u8 (hgd : o.guard = none) (s x : Operand) (ho : o.op = .call { callee := .builtin .append, args := #[s, x], argTypes := #[47, 47] })
    (base : Nat) (A : Option Addr) (m c : Nat) (l : List UInt8) (hs : a.eval s = .slice A m c) (hown : w.ownsRow base 5 1 (.slice A m c) m (bytesV l))
    (u : Int) (b : UInt8) (hu : u = (b.toNat : Int)) (hx : a.eval x = .slice (some ⟨w.heap.size, 0, none⟩) 1 1) (hm : m + 1 ≤ 140737488355328) (hbase : base ≤ w.heap.size)
    (h : ∀ A' c' w', w'.ownsRow base 5 1 (.slice A' (m + 1) c') (m + 1) (bytesV (l ++ [b])) → Grew w w' (.slice A m c) (.slice A' (m + 1) c') → wpList Tryd.prog ops Q rest (a.put o.dst (.slice A' (m + 1) c')) w') :
    wpList Tryd.prog ops Q (o :: rest) a (w.alloc (.cells #[.int .u8 u] 5)) :=
  push_bytes hgd s x ho base A m c l hs hown #[.int .u8 u] 1 (by decide) [b] (by subst hu; rfl) rfl hx hm hbase h
end

/-- string(b) of a row of the call's own. -/
theorem run_string_own {P : Program} {w : World} {base : Nat} {src dst e : TypeId} {A : Option Addr} {n c : Nat} {l : List UInt8} (hs : P.underlying src = some (.slice e)) (he : P.underlying e = some (.int .u8)) (hd : P.underlying dst = some .string)
    (hown : w.ownsRow base e 1 (.slice A n c) n (bytesV l)) : (convert src dst (.slice A n c)).run P w = .ok (.string ⟨l.toArray⟩) w := by
  have hn : l.length = n := by have := hown.1; simpa [bytesV] using this
  rcases hown.2 with ⟨h0, hn0⟩ | ⟨g, cap, cur, hv, _⟩
  · injection h0 with h1 h2 h3
    subst h1; subst h2; subst h3
    have hl0 : l = [] := List.eq_nil_of_length_eq_zero hn
    subst hl0
    exact Lib.run_convert_nil_bytes w src dst e 0 hs he hd
  · injection hv with h1 h2 h3
    subst h1
    subst hn
    refine run_convert_bytes_back w src dst e ⟨g, 0, none⟩ c l hs he hd (fun j hj => ?_)
    exact hown.cells (g := g) rfl j _ (by simp [bytesV, hj])
/-- string(b) of a row that holds bytes. -/
theorem run_string_row {P : Program} {w : World} {src dst e : TypeId} {b off n c : Nat} {l : List UInt8} (hs : P.underlying src = some (.slice e)) (he : P.underlying e = some (.int .u8)) (hd : P.underlying dst = some .string)
    (hr : RowAt w b off (bytesV l)) (hn : l.length = n) : (convert src dst (.slice (some ⟨b, off, none⟩) n c)).run P w = .ok (.string ⟨l.toArray⟩) w := by
  subst hn
  refine run_convert_bytes_back w src dst e ⟨b, off, none⟩ c l hs he hd (fun j hj => ?_)
  have h := hr j _ (show (bytesV l)[j]? = some (.int .u8 (l[j].toNat : Int)) by simp [bytesV, hj])
  unfold Addr.add
  split
  · rename_i h0; subst h0; simpa using h
  · exact h
/-- string(b) of a literal laid just before. -/
theorem run_string_new {P : Program} {w : World} {src dst e : TypeId} {n c : Nat} {cs : Array Value} {l : List UInt8} (hs : P.underlying src = some (.slice e)) (he : P.underlying e = some (.int .u8)) (hd : P.underlying dst = some .string)
    (hl : cs.toList = bytesV l) (hn : l.length = n) : (convert src dst (.slice (some ⟨w.heap.size, 0, none⟩) n c)).run P (w.alloc (.cells cs e)) = .ok (.string ⟨l.toArray⟩) (w.alloc (.cells cs e)) :=
  run_string_row hs he hd (by rw [← hl]; exact RowAt.new w e cs) hn
/-- string of two bytes that lie in a block. -/
theorem conv2 {a b : UInt8} (W : World) (g : Nat) (h0 : W.cell? ⟨g, 0, none⟩ = some (.int .u8 (a.toNat : Int))) (h1 : W.cell? ⟨g, 1, none⟩ = some (.int .u8 (b.toNat : Int))) :
    (convert 47 9 (.slice (some ⟨g, 0, none⟩) 2 2)).run Tryd.prog W = .ok (.string ⟨#[a, b]⟩) W :=
  run_string_row (l := [a, b]) Tryd.underlying47 Tryd.underlying5 Tryd.underlying9 (fun j u hu => by
    match j, hu with
    | 0, hu => simp [bytesV] at hu; subst hu; simpa using h0
    | 1, hu => simp [bytesV] at hu; subst hu; simpa using h1) rfl
end Go.Proofs.YtoeejfhdjmkpcaaDoor
namespace Go.Proofs.YtoeejfhdjmkpcaaDoor
open Go.RowKit
/-- A block that is known whole, none of its cells marked. -/
def Blk (w : World) (g : Nat) (t : TypeId) (cs : Array Value) : Prop := w.heap[g]? = some (.cells cs t (0, 0))
theorem Blk.below {w w' : World} {g B : Nat} {t : TypeId} {cs : Array Value} (h : Blk w g t cs) (hb : Below B w w') (hg : g < B) : Blk w' g t cs := (hb.block g hg).trans h
theorem Blk.lt {w : World} {g : Nat} {t : TypeId} {cs : Array Value} (h : Blk w g t cs) : g < w.heap.size := by
  rcases Nat.lt_or_ge g w.heap.size with h1 | h1
  · exact h1
  · unfold Blk at h; rw [Array.getElem?_eq_none h1] at h; cases h
theorem Blk.cell {w : World} {g : Nat} {t : TypeId} {cs : Array Value} (h : Blk w g t cs) (i : Nat) : w.cell? ⟨g, i, none⟩ = cs[i]? := cell_of_row w g i cs t (0, 0) h
theorem Blk.thaw {w : World} {g : Nat} {t : TypeId} {cs : Array Value} (h : Blk w g t cs) (i : Nat) : w.frozen? ⟨g, i, none⟩ = false := by unfold Blk at h; simp [World.frozen?, h]
theorem Blk.set {w : World} {g : Nat} {t : TypeId} {cs : Array Value} (h : Blk w g t cs) (i : Nat) (v : Value) : Blk (w.setCell ⟨g, i, none⟩ v) g t (cs.setIfInBounds i v) := by
  unfold Blk at h ⊢
  simp [World.setCell, Array.getElem?_modify, h]
theorem Blk.alloc {w : World} {g : Nat} {t : TypeId} {cs : Array Value} (h : Blk w g t cs) (o : Obj) : Blk (w.alloc o) g t cs := h.below ((Below.refl w.heap.size w).alloc (Nat.le_refl _) o) h.lt
theorem Blk.eq {w : World} {g : Nat} {t : TypeId} {cs cs' : Array Value} (h : Blk w g t cs) (e : cs = cs') : Blk w g t cs' := e ▸ h
section
variable {w a b : World} {g : Nat}
theorem bes_below (h : w.grownBy a (some g)) (hb : Below a.heap.size a b) : w.grownBy b (some g) :=
  ⟨hb.os.trans h.os, hb.tape.trans h.tape, hb.output.trans h.output, Nat.le_trans h.size hb.size, fun k hk hne => (hb.block k (Nat.lt_of_lt_of_le hk h.size)).trans (h.block k hk hne)⟩
theorem bes_set (h : w.grownBy a (some g)) (i : Nat) (v : Value) : w.grownBy (a.setCell ⟨g, i, none⟩ v) (some g) :=
  ⟨h.os, h.tape, h.output, by have := h.size; simp [World.setCell]; omega, fun k hk hne => (Below.heap_setCell a ⟨g, i, none⟩ v k (fun e => hne (by rw [e]))).trans (h.block k hk hne)⟩
theorem bes_grew {v v' : Value} (h : w.grownBy a (some g)) (hg : Grew a b v v') (hv : ∀ k, v.ownBlock = some k → w.heap.size ≤ k) : w.grownBy b (some g) :=
  ⟨hg.grown.os.trans h.os, hg.grown.tape.trans h.tape, hg.grown.output.trans h.output, Nat.le_trans h.size hg.grown.size, fun k hk hne =>
    (hg.grown.block k (Nat.lt_of_lt_of_le hk h.size) (fun e => by have := hv k e.symm; omega)).trans (h.block k hk hne)⟩
theorem Blk.grew {v v' : Value} {t : TypeId} {cs : Array Value} (h : Blk a g t cs) (hg : Grew a b v v') (hv : ∀ k, v.ownBlock = some k → g < k) : Blk b g t cs :=
  (hg.grown.block g h.lt (fun e => by have := hv g e.symm; omega)).trans h
end
end Go.Proofs.YtoeejfhdjmkpcaaDoor
namespace Go.Proofs.YtoeejfhdjmkpcaaDoor
open Go.RowKit
def rowsV {α : Type} (enc : α → List Value) (l : List α) : List Value := l.flatMap enc
section
variable {α : Type} {enc : α → List Value} {sz : Nat}
theorem rowsV_append (l k : List α) : rowsV enc (l ++ k) = rowsV enc l ++ rowsV enc k := List.flatMap_append
theorem rowsV_one (a : α) : rowsV enc [a] = enc a := by simp [rowsV]
theorem rowsV_length (h : ∀ a, (enc a).length = sz) : ∀ l : List α, (rowsV enc l).length = l.length * sz
  | [] => by simp [rowsV]
  | a :: l => by
    have := rowsV_length h l
    unfold rowsV at this ⊢
    rw [List.flatMap_cons, List.length_append, this, h, List.length_cons, Nat.add_mul]; omega
theorem rowsV_get (h : ∀ a, (enc a).length = sz) : ∀ (l : List α) (i j : Nat) (a : α), l[i]? = some a → j < sz → (rowsV enc l)[i * sz + j]? = (enc a)[j]?
  | [], i, j, a, hi, _ => by simp at hi
  | b :: l, 0, j, a, hi, hj => by
    simp only [List.getElem?_cons_zero, Option.some.injEq] at hi
    subst hi
    unfold rowsV
    rw [List.flatMap_cons, Nat.zero_mul, Nat.zero_add, List.getElem?_append_left (by rw [h]; exact hj)]
  | b :: l, i + 1, j, a, hi, hj => by
    have := rowsV_get h l i j a (by simpa using hi) hj
    unfold rowsV at this ⊢
    rw [List.flatMap_cons, List.getElem?_append_right (by rw [h, Nat.add_mul]; omega), h, show (i + 1) * sz + j - sz = i * sz + j from by rw [Nat.add_mul]; omega]
    exact this
theorem SlAt.rec_ {w : World} {B n : Nat} {A : Option Addr} {l : List α} (hz : ∀ a, (enc a).length = sz) (h : SlAt w B sz A n (rowsV enc l)) (hl : l.length = n) {i : Nat} {a : α} (hi : l[i]? = some a) :
    ∃ b off, A = some ⟨b, off, none⟩ ∧ b < B ∧ ∀ j u, (enc a)[j]? = some u → w.cell? ⟨b, off + i * sz + j, none⟩ = some u := by
  have hin : i < n := by
    rw [← hl]
    rcases Nat.lt_or_ge i l.length with h1 | h1
    · exact h1
    · rw [List.getElem?_eq_none h1] at hi; cases hi
  obtain ⟨b, off, e, hB, hr⟩ := h.at_ (by omega)
  refine ⟨b, off, e, hB, fun j u hu => ?_⟩
  rw [Nat.add_assoc]
  refine hr _ _ ?_
  have hj : j < sz := by
    rw [← hz a]
    rcases Nat.lt_or_ge j (enc a).length with h1 | h1
    · exact h1
    · rw [List.getElem?_eq_none h1] at hu; cases hu
  rw [rowsV_get hz l i j a hi hj]; exact hu
end
/-- A row of the call's own reads as a slice. -/
theorem own_slAt {w : World} {base : Nat} {e : TypeId} {sz n c : Nat} {A : Option Addr} {xs : List Value} (h : w.ownsRow base e sz (.slice A n c) n xs) : SlAt w w.heap.size sz A n xs :=
  ⟨h.1, fun hn => by
    obtain ⟨g, cap, hv, hb, hg⟩ := h.form hn
    injection hv with hA _ hc
    subst hA; subst hc
    refine ⟨g, 0, rfl, hg, fun j u hu => ?_⟩
    have hj : j < n * sz := by
      rw [← h.1]
      rcases Nat.lt_or_ge j xs.length with h1 | h1
      · exact h1
      · rw [List.getElem?_eq_none h1] at hu; cases hu
    rw [Nat.zero_add, h.cellAt j hj]; exact hu⟩
section
variable {P : Program} {w : World} {ops : Array Oper} {rest : List Oper} {o : Oper} {a : Act} {Q : Exit → Act → World → Prop}
/-- One record pushed. -/
theorem push_rec {α : Type} (enc : α → List Value) (hgd : o.guard = none) (s x : Operand) (t e : TypeId) (z : Value) (sz bytes : Nat) (ho : o.op = .call { callee := .builtin .append, args := #[s, x], argTypes := #[t, t] })
    (ht : P.underlying t = some (.slice e)) (hinfo : (P.info? e).map (fun i => (i.zero, i.size, i.bytes)) = some (some z, sz, bytes)) (hzs : z.cells.size = sz) (hsz : 0 < sz)
    (henc : ∀ a, (enc a).length = sz) (h1 : ∀ a, ∀ u ∈ enc a, u.oneCell' = true)
    (base : Nat) (A : Option Addr) (m c : Nat) (l : List α) (hs : a.eval s = .slice A m c) (hown : w.ownsRow base e sz (.slice A m c) m (rowsV enc l))
    (cs : Array Value) (b : α) (hu : cs.toList = enc b) (g : Nat) (hg : w.heap.size = g) (hx : a.eval x = .slice (some ⟨g, 0, none⟩) 1 1) (hm : (m + 1) * bytes ≤ 140737488355328) (h63 : m + 1 ≤ maxLen) (hbase : base ≤ w.heap.size)
    (h : ∀ A' c' w', w'.ownsRow base e sz (.slice A' (m + 1) c') (m + 1) (rowsV enc (l ++ [b])) → Grew w w' (.slice A m c) (.slice A' (m + 1) c') → wpList P ops Q rest (a.put o.dst (.slice A' (m + 1) c')) w') :
    wpList P ops Q (o :: rest) a (w.alloc (.cells cs e)) := by
  subst hg
  obtain ⟨i0, hi, hz0, hz1, hz2⟩ := info_parts hinfo
  have hcs : cs.size = 1 * sz := by rw [← Array.length_toList, hu, henc, Nat.one_mul]
  refine wpList_push hgd s x t ho base e i0 z sz bytes ht hi hz0 hz1 hz2 hzs hsz _ m _ hs hown cs 1 (by omega) hx hcs (fun u hu' => ?_) h63 hm hbase (fun v' w' o' g' b' _ => ?_)
  · rw [hu] at hu'
    exact h1 _ _ hu'
  · have e1 : rowsV enc l ++ cs.toList = rowsV enc (l ++ [b]) := by rw [hu, rowsV_append, rowsV_one]
    rw [e1] at o'
    obtain ⟨g, cap, hv, _⟩ := o'.form (by omega)
    subst hv
    exact h _ _ _ o' ⟨g', b'⟩
end
end Go.Proofs.YtoeejfhdjmkpcaaDoor
namespace Go.Proofs.YtoeejfhdjmkpcaaDoor
/-- Zig of a number. -/
def zigZ (n : Int) : Int := if 0 ≤ n then 2 * n else -2 * n - 1
/-- Zag of a number. -/
def zagZ (n : Int) : Int := if n % 2 = 0 then n / 2 else -(n / 2) - 1
theorem nat_xor_ones (a : Nat) (h : a < 18446744073709551616) : a ^^^ 18446744073709551615 = 18446744073709551615 - a := by
  have e : BitVec.ofNat 64 a ^^^ BitVec.allOnes 64 = ~~~ BitVec.ofNat 64 a := BitVec.xor_allOnes
  have e2 := congrArg BitVec.toNat e
  simp only [BitVec.toNat_xor, BitVec.toNat_not, BitVec.toNat_ofNat, BitVec.toNat_allOnes] at e2
  rw [Nat.mod_eq_of_lt (by omega)] at e2
  simpa using e2
theorem zig_xor (n : Int) (h : -9223372036854775808 ≤ n) (h' : n ≤ 9223372036854775807) :
    bits .xor .u64 (IntKind.u64.wrap (IntKind.u64.wrap n * 2)) (IntKind.u64.wrap (n / 9223372036854775808)) = zigZ n := by
  unfold zigZ
  simp only [IntKind.wrap_u64]
  rw [u64_xor _ _ (by omega) (by omega) (by omega) (by omega)]
  by_cases hn : 0 ≤ n
  · have e1 : n / 9223372036854775808 = 0 := by omega
    rw [if_pos hn, e1]
    simp
    omega
  · have e1 : n / 9223372036854775808 = -1 := by omega
    rw [if_neg hn, e1]
    have e2 : (-1 % 18446744073709551616 : Int).toNat = 18446744073709551615 := by decide
    rw [e2, nat_xor_ones _ (by omega)]
    omega
theorem u64_and1 (n : Int) (h : 0 ≤ n) (h' : n < 18446744073709551616) : bits .and .u64 n 1 = n % 2 := by
  rw [u64_and _ _ h h' (by omega) (by omega)]
  have e : (1 : Int).toNat = 1 := rfl
  rw [e, nat_mask1]
  omega
theorem i64_xor_0 (m : Int) (h : 0 ≤ m) (h' : m < 9223372036854775808) : bits .xor .i64 m 0 = m := by
  have e : BitVec.ofInt 64 0 = 0#64 := by decide
  show IntKind.i64.wrap ((BitVec.ofInt 64 m ^^^ BitVec.ofInt 64 0).toNat : Nat) = m
  rw [e, BitVec.xor_zero, BitVec.toNat_ofInt, IntKind.wrap_i64]
  omega
theorem i64_xor_m1 (m : Int) (h : 0 ≤ m) (h' : m < 9223372036854775808) : bits .xor .i64 m (-1) = -m - 1 := by
  have e : BitVec.ofInt 64 (-1) = BitVec.allOnes 64 := by decide
  show IntKind.i64.wrap ((BitVec.ofInt 64 m ^^^ BitVec.ofInt 64 (-1)).toNat : Nat) = -m - 1
  rw [e, BitVec.xor_allOnes, BitVec.toNat_not, BitVec.toNat_ofInt, IntKind.wrap_i64]
  omega
theorem zag_xor (n : Int) (h : 0 ≤ n) (h' : n < 18446744073709551616) :
    bits .xor .i64 (n / 2) (RowKit.wrap64 (-RowKit.wrap64 (bits .and .u64 n 1))) = zagZ n := by
  rw [u64_and1 n h h']
  unfold zagZ
  by_cases e : n % 2 = 0
  · rw [if_pos e, e]
    have e1 : RowKit.wrap64 (-RowKit.wrap64 0) = 0 := by unfold RowKit.wrap64; omega
    rw [e1, i64_xor_0 _ (by omega) (by omega)]
  · have e2 : n % 2 = 1 := by omega
    rw [if_neg e, e2]
    have e1 : RowKit.wrap64 (-RowKit.wrap64 1) = -1 := by unfold RowKit.wrap64; omega
    rw [e1, i64_xor_m1 _ (by omega) (by omega)]
end Go.Proofs.YtoeejfhdjmkpcaaDoor
namespace Go.Proofs.YtoeejfhdjmkpcaaDoor
/-- The bytes of a number, seven bits each, the last below 128; at most f + 1 of them. -/
def numF : Nat → Nat → List UInt8
  | 0, n => [UInt8.ofNat n]
  | f + 1, n => if n < 128 then [UInt8.ofNat n] else UInt8.ofNat (n % 128 + 128) :: numF f (n / 128)
def numL (n : Nat) : List UInt8 := numF 10 n
theorem numF_small {f n : Nat} (h : n < 128) : numF f n = [UInt8.ofNat n] := by
  cases f with
  | zero => rfl
  | succ f => rw [numF, if_pos h]
theorem numF_more : ∀ (f g n : Nat), n < 128 ^ (f + 1) → n < 128 ^ (g + 1) → numF f n = numF g n
  | 0, g, n, h, _ => by rw [numF_small (by simpa using h), numF_small (by simpa using h)]
  | f + 1, 0, n, _, h' => by rw [numF_small (by simpa using h'), numF_small (by simpa using h')]
  | f + 1, g + 1, n, h, h' => by
    unfold numF
    split
    · rfl
    · rw [numF_more f g (n / 128) (Nat.div_lt_of_lt_mul (by rw [Nat.pow_succ, Nat.mul_comm] at h; exact h)) (Nat.div_lt_of_lt_mul (by rw [Nat.pow_succ, Nat.mul_comm] at h'; exact h'))]
theorem numL_small {n : Nat} (h : n < 128) : numL n = [UInt8.ofNat n] := numF_small h
theorem numL_step {n : Nat} (h : 128 ≤ n) (h' : n < 18446744073709551616) : numL n = UInt8.ofNat (n % 128 + 128) :: numL (n / 128) := by
  unfold numL
  rw [numF, if_neg (by omega), numF_more 9 10 (n / 128) (by omega) (by omega)]
theorem numF_length : ∀ f n, 1 ≤ (numF f n).length ∧ (numF f n).length ≤ f + 1
  | 0, n => by simp [numF]
  | f + 1, n => by
    unfold numF
    split
    · simp
    · have := numF_length f (n / 128)
      simp; omega
theorem numL_length (n : Nat) : 1 ≤ (numL n).length ∧ (numL n).length ≤ 11 := numF_length 10 n
theorem byte_low (n : Int) (h : 0 ≤ n) (h' : n < 18446744073709551616) : bits .or .u8 (n % 256) 128 = (((UInt8.ofNat (n.toNat % 128 + 128)).toNat : Nat) : Int) := by
  obtain ⟨m, rfl⟩ := Int.eq_ofNat_of_zero_le h
  rw [u8_or _ _ (by omega) (by omega) (by omega) (by omega)]
  have e1 : (((m : Int) % 256).toNat : Nat) = m % 256 := by omega
  have e2 : (128 : Int).toNat = 128 := rfl
  have e3 : (UInt8.ofNat ((m : Int).toNat % 128 + 128)).toNat = m % 128 + 128 := by
    rw [UInt8.toNat_ofNat']; simp; omega
  rw [e1, e2, e3]
  have key : ∀ x : Fin 256, (x.val ||| 128) = x.val % 128 + 128 := by decide +kernel
  have := key ⟨m % 256, by omega⟩
  simp only at this
  rw [this]
  omega
end Go.Proofs.YtoeejfhdjmkpcaaDoor
namespace Go.Proofs.YtoeejfhdjmkpcaaDoor
/-- From place i on, with what has been read; f: how many bytes may still come. The number, how many bytes it has, the error. -/
def rdB (s : ByteArray) : Nat → Nat → Nat → Nat × Nat × Nat
  | 0, _, _ => (0, 0, 4)
  | f + 1, i, acc =>
    if h : i < s.size then
      if (i = 9 ∧ 1 < s[i].toNat) ∨ (0 < i ∧ s[i].toNat = 0) then (0, 0, 4)
      else if s[i].toNat < 128 then (acc + s[i].toNat % 128 * 128 ^ i, i + 1, 0)
      else rdB s f (i + 1) (acc + s[i].toNat % 128 * 128 ^ i)
    else (0, 0, 3)
def rdNum (s : ByteArray) : Nat × Nat × Nat := rdB s 10 0 0
def rdV (s : ByteArray) : Value := .tuple #[.int .u64 ((rdNum s).1 : Int), .int .i64 ((rdNum s).2.1 : Int), .int .i64 ((rdNum s).2.2 : Int)]
theorem rdV_of {s : ByteArray} {a k e : Nat} (h : rdNum s = (a, k, e)) : rdV s = .tuple #[.int .u64 (a : Int), .int .i64 (k : Int), .int .i64 (e : Int)] := by unfold rdV; rw [h]
section
variable {s : ByteArray} {k acc c : Nat}
theorem rdB_short (hk : k < 10) (h : s.size ≤ k) : rdB s (10 - k) k acc = (0, 0, 3) := by
  rw [show 10 - k = (9 - k) + 1 from by omega, rdB, dif_neg (by omega)]
theorem rdB_form (hk : k < 10) (h : k < s.size) (hc : s[k].toNat = c) (hb : (k = 9 ∧ 1 < c) ∨ (0 < k ∧ c = 0)) : rdB s (10 - k) k acc = (0, 0, 4) := by
  rw [show 10 - k = (9 - k) + 1 from by omega, rdB, dif_pos h, hc, if_pos hb]
theorem rdB_last (hk : k < 10) (h : k < s.size) (hc : s[k].toNat = c) (hb : ¬ ((k = 9 ∧ 1 < c) ∨ (0 < k ∧ c = 0))) (h1 : c < 128) : rdB s (10 - k) k acc = (acc + c % 128 * 128 ^ k, k + 1, 0) := by
  rw [show 10 - k = (9 - k) + 1 from by omega, rdB, dif_pos h, hc, if_neg hb, if_pos h1]
theorem rdB_more (hk : k < 10) (h : k < s.size) (hc : s[k].toNat = c) (hb : ¬ ((k = 9 ∧ 1 < c) ∨ (0 < k ∧ c = 0))) (h1 : ¬ c < 128) : rdB s (10 - k) k acc = rdB s (10 - (k + 1)) (k + 1) (acc + c % 128 * 128 ^ k) := by
  rw [show 10 - k = (9 - k) + 1 from by omega, rdB, dif_pos h, hc, if_neg hb, if_neg h1, show 10 - (k + 1) = 9 - k from by omega]
theorem pow7 (k : Nat) : 128 ^ k = 2 ^ (7 * k) := by rw [Nat.pow_mul]
/-- What the program's shift and or come to. -/
theorem or_step (hk : k < 10) (hc : c < 256) (h9 : k = 9 → c ≤ 1) (ha : acc < 128 ^ k) :
    bits .or .u64 (acc : Int) (IntKind.u64.wrap (IntKind.u64.wrap (bits .and .u8 (c : Int) 127) * 2 ^ (7 * k))) = ((acc + c % 128 * 128 ^ k : Nat) : Int) ∧ acc + c % 128 * 128 ^ k < 128 ^ (k + 1) ∧ acc + c % 128 * 128 ^ k < 18446744073709551616 := by
  have e1 : bits .and .u8 (c : Int) 127 = ((c % 128 : Nat) : Int) := by
    rw [show (127 : Int) = ((127 : Nat) : Int) from rfl, u8_and_nat c 127 hc (by omega), nat_mask7]
  have e2 : IntKind.u64.wrap ((c % 128 : Nat) : Int) = ((c % 128 : Nat) : Int) := by rw [IntKind.wrap_u64]; omega
  have hp : c % 128 * 128 ^ k < 18446744073709551616 ∧ acc + c % 128 * 128 ^ k < 18446744073709551616 ∧ acc + c % 128 * 128 ^ k < 128 ^ (k + 1) := by
    have h3 : acc + c % 128 * 128 ^ k < 128 ^ (k + 1) := by
      have : c % 128 * 128 ^ k ≤ 127 * 128 ^ k := Nat.mul_le_mul_right _ (by omega)
      rw [Nat.pow_succ]; omega
    have h4 : acc + c % 128 * 128 ^ k < 18446744073709551616 := by
      by_cases h : k = 9
      · have := h9 h
        subst h
        have : c % 128 * 128 ^ 9 ≤ 1 * 128 ^ 9 := Nat.mul_le_mul_right _ (by omega)
        omega
      · have : (128 : Nat) ^ (k + 1) ≤ 128 ^ 9 := Nat.pow_le_pow_right (by omega) (by omega)
        omega
    exact ⟨by omega, h4, h3⟩
  have e3 : IntKind.u64.wrap (((c % 128 : Nat) : Int) * 2 ^ (7 * k)) = ((c % 128 * 128 ^ k : Nat) : Int) := by
    rw [IntKind.wrap_u64, pow7]
    have e4 : ((c % 128 : Nat) : Int) * 2 ^ (7 * k) = ((c % 128 * 2 ^ (7 * k) : Nat) : Int) := by
      rw [Int.natCast_mul, Int.natCast_pow]; rfl
    have := hp.1
    rw [pow7] at this
    rw [e4]; omega
  refine ⟨?_, hp.2.2, hp.2.1⟩
  rw [e1, e2, e3, bits_or_u64_nat _ _ (by omega) hp.1, Nat.or_comm, nat_join (7 * k) _ _ (by rw [pow7]; exact Nat.mul_mod_left _ _) (by rw [← pow7]; exact ha), Nat.add_comm]
/-- What the reference's product and sum come to. -/
theorem add_step {p : Nat} (hk : k < 10) (hc : c < 256) (h9 : k = 9 → c ≤ 1) (ha : acc < 128 ^ k) (hp : p = 128 ^ k) :
    IntKind.u64.wrap ((acc : Int) + IntKind.u64.wrap ((c : Int) % 128 * (p : Int))) = ((acc + c % 128 * 128 ^ k : Nat) : Int) := by
  obtain ⟨_, h2, h3⟩ := or_step hk hc h9 ha
  subst hp
  have e : (c : Int) % 128 * ((128 ^ k : Nat) : Int) = ((c % 128 * 128 ^ k : Nat) : Int) := by rw [Int.natCast_mul]; rfl
  rw [e, IntKind.wrap_u64, IntKind.wrap_u64]
  omega
theorem pow_step (hk : k < 9) : IntKind.u64.wrap (((128 ^ k : Nat) : Int) * 128) = ((128 ^ (k + 1) : Nat) : Int) ∧ 128 ^ (k + 1) ≤ 9223372036854775808 := by
  have : (128 : Nat) ^ (k + 1) ≤ 128 ^ 9 := Nat.pow_le_pow_right (by omega) (by omega)
  have e : (128 : Nat) ^ (k + 1) = 128 ^ k * 128 := Nat.pow_succ ..
  rw [IntKind.wrap_u64]
  omega
end
end Go.Proofs.YtoeejfhdjmkpcaaDoor
namespace Go.Proofs.YtoeejfhdjmkpcaaDoor
theorem rdB_facts (s : ByteArray) : ∀ (f k acc : Nat), f + k = 10 → k ≤ s.size → acc < 128 ^ k → ∀ a n e, rdB s f k acc = (a, n, e) → a < 18446744073709551616 ∧ n ≤ 10 ∧ e ≤ 4 ∧ (e = 0 → 1 ≤ n ∧ n ≤ s.size)
  | 0, k, acc, _, _, _, a, n, e, h => by
    simp only [rdB, Prod.mk.injEq] at h
    omega
  | f + 1, k, acc, hf, hk, ha, a, n, e, h => by
    rw [rdB] at h
    by_cases hs : k < s.size
    · rw [dif_pos hs] at h
      have hc : s[k].toNat < 256 := s[k].toNat_lt
      by_cases hb : (k = 9 ∧ 1 < s[k].toNat) ∨ (0 < k ∧ s[k].toNat = 0)
      · rw [if_pos hb] at h
        simp only [Prod.mk.injEq] at h
        omega
      · rw [if_neg hb] at h
        obtain ⟨_, h2, h3⟩ := or_step (k := k) (acc := acc) (c := s[k].toNat) (by omega) hc (by omega) ha
        by_cases h1 : s[k].toNat < 128
        · rw [if_pos h1] at h
          simp only [Prod.mk.injEq] at h
          obtain ⟨rfl, rfl, rfl⟩ := h
          exact ⟨h3, by omega, by omega, fun _ => ⟨by omega, by omega⟩⟩
        · rw [if_neg h1] at h
          exact rdB_facts s f (k + 1) _ (by omega) (by omega) h2 a n e h
    · rw [dif_neg hs] at h
      simp only [Prod.mk.injEq] at h
      omega
theorem rdNum_facts {s : ByteArray} {a n e : Nat} (h : rdNum s = (a, n, e)) : a < 18446744073709551616 ∧ n ≤ 10 ∧ e ≤ 4 ∧ (e = 0 → 1 ≤ n ∧ n ≤ s.size) :=
  rdB_facts s 10 0 0 rfl (Nat.zero_le _) (by decide) a n e h
end Go.Proofs.YtoeejfhdjmkpcaaDoor
namespace Go.Proofs.YtoeejfhdjmkpcaaDoor
open Go.Lib
/-- The test of byte k of a rune. -/
def okAt (l : List UInt8) (lo hi k : Nat) : Prop := (if k = 1 then lo else 128) ≤ (l.getD k 0).toNat ∧ (l.getD k 0).toNat ≤ (if k = 1 then hi else 191)
theorem check_short (n b1 b2 b3 m lo hi : Nat) (h : n < m + 1) : checkN n b1 b2 b3 (m + 1) lo hi = none := by
  unfold checkN
  repeat' split
  all_goals first | rfl | omega
theorem check_bad (l : List UInt8) (n m lo hi k : Nat) (hm : m = 1 ∨ m = 2 ∨ m = 3) (h1 : 1 ≤ k) (hk : k ≤ m) (h : ¬ okAt l lo hi k) :
    checkN n (l.getD 1 0).toNat (l.getD 2 0).toNat (l.getD 3 0).toNat (m + 1) lo hi = none := by
  unfold okAt at h
  unfold checkN
  rcases hm with rfl | rfl | rfl
  all_goals (have : k = 1 ∨ k = 2 ∨ k = 3 := by omega)
  all_goals rcases this with rfl | rfl | rfl
  all_goals simp at h ⊢
  all_goals omega
theorem check_ok (l : List UInt8) (n m lo hi : Nat) (hm : m = 1 ∨ m = 2 ∨ m = 3) (hn : m + 1 ≤ n) (h : ∀ k, 1 ≤ k → k ≤ m → okAt l lo hi k) :
    checkN n (l.getD 1 0).toNat (l.getD 2 0).toNat (l.getD 3 0).toNat (m + 1) lo hi = some (m + 1) := by
  have h1 := h 1
  have h2 := h 2
  have h3 := h 3
  unfold okAt at h1 h2 h3
  unfold checkN
  rcases hm with rfl | rfl | rfl
  all_goals simp at h1 h2 h3 ⊢
  all_goals omega
/-- The reference's table: how many bytes come, and between which bounds the first of them lies. -/
def leadOf (c : Nat) : Option (Nat × Nat × Nat) :=
  if c < 194 then none
  else if c ≤ 223 then some (1, 128, 191)
  else if c ≤ 239 then some (2, if c = 224 then 160 else 128, if c = 237 then 159 else 191)
  else if c ≤ 244 then some (3, if c = 240 then 144 else 128, if c = 244 then 143 else 191)
  else none
def leadOk (c : Nat) : Bool := match leadOf c with
  | none => decide (firstT c % 8 ≠ 2 ∧ firstT c % 8 ≠ 3 ∧ firstT c % 8 ≠ 4)
  | some (m, lo, hi) => decide (firstT c % 8 = m + 1 ∧ accLo (firstT c / 16) = lo ∧ accHi (firstT c / 16) = hi)
theorem lead_tab : ∀ c : Fin 256, 128 ≤ c.val → leadOk c.val = true := by decide +kernel
theorem validD_none (l : List UInt8) (hne : l ≠ []) (h0 : 128 ≤ (l.getD 0 0).toNat) (h : leadOf (l.getD 0 0).toNat = none) : validD l = false := by
  have ht := lead_tab ⟨(l.getD 0 0).toNat, (l.getD 0 0).toNat_lt⟩ h0
  simp only [leadOk, h, decide_eq_true_eq] at ht
  rw [validD_lead l hne h0]
  unfold checkN
  rw [if_neg ht.1, if_neg ht.2.1, if_neg ht.2.2]
theorem validD_some (l : List UInt8) (hne : l ≠ []) (h0 : 128 ≤ (l.getD 0 0).toNat) {m lo hi : Nat} (h : leadOf (l.getD 0 0).toNat = some (m, lo, hi)) :
    validD l = match checkN l.length (l.getD 1 0).toNat (l.getD 2 0).toNat (l.getD 3 0).toNat (m + 1) lo hi with
      | none => false
      | some k => validD (l.drop k) := by
  have ht := lead_tab ⟨(l.getD 0 0).toNat, (l.getD 0 0).toNat_lt⟩ h0
  simp only [leadOk, h, decide_eq_true_eq] at ht
  rw [validD_lead l hne h0, ht.1, ht.2.1, ht.2.2]
  rfl
theorem lead_many {c m lo hi : Nat} (h : leadOf c = some (m, lo, hi)) : m = 1 ∨ m = 2 ∨ m = 3 := by
  unfold leadOf at h
  repeat' split at h
  all_goals simp at h
  all_goals omega
theorem validD_short (l : List UInt8) (hne : l ≠ []) (h0 : 128 ≤ (l.getD 0 0).toNat) {m lo hi : Nat} (h : leadOf (l.getD 0 0).toNat = some (m, lo, hi)) (hs : l.length < m + 1) : validD l = false := by
  rw [validD_some l hne h0 h, check_short _ _ _ _ _ _ _ hs]
theorem validD_bad (l : List UInt8) (hne : l ≠ []) (h0 : 128 ≤ (l.getD 0 0).toNat) {m lo hi : Nat} (h : leadOf (l.getD 0 0).toNat = some (m, lo, hi)) (k : Nat) (h1 : 1 ≤ k) (hk : k ≤ m) (hb : ¬ okAt l lo hi k) : validD l = false := by
  rw [validD_some l hne h0 h, check_bad l _ m lo hi k (lead_many h) h1 hk hb]
theorem validD_ok (l : List UInt8) (hne : l ≠ []) (h0 : 128 ≤ (l.getD 0 0).toNat) {m lo hi : Nat} (h : leadOf (l.getD 0 0).toNat = some (m, lo, hi)) (hs : m + 1 ≤ l.length) (hb : ∀ k, 1 ≤ k → k ≤ m → okAt l lo hi k) : validD l = validD (l.drop (m + 1)) := by
  rw [validD_some l hne h0 h, check_ok l _ m lo hi (lead_many h) hs hb]
/-- One class of first bytes: what the reference does there. -/
structure Cls (l : List UInt8) (m lo hi : Nat) : Prop where
  le : m ≤ 3
  short : l.length < m + 1 → validD l = false
  bad : ∀ k, 1 ≤ k → k ≤ m → ¬ okAt l lo hi k → validD l = false
  ok : m + 1 ≤ l.length → (∀ k, 1 ≤ k → k ≤ m → okAt l lo hi k) → validD l = validD (l.drop (m + 1))
theorem Cls.of {l : List UInt8} {c m lo hi : Nat} (hne : l ≠ []) (hc : (l.getD 0 0).toNat = c) (h0 : 128 ≤ c) (h : leadOf c = some (m, lo, hi)) : Cls l m lo hi := by
  subst hc
  exact ⟨by have := lead_many h; omega, validD_short l hne h0 h, validD_bad l hne h0 h, validD_ok l hne h0 h⟩
theorem Cls.ascii {l : List UInt8} {c : Nat} (hne : l ≠ []) (hc : (l.getD 0 0).toNat = c) (h0 : c < 128) : Cls l 0 128 191 := by
  subst hc
  match l, hne with
  | b :: r, _ =>
    exact ⟨by omega, fun h => by simp at h, fun k h1 h2 => by omega, fun _ _ => validD_cons b r (by simpa using h0)⟩
theorem validD_wrong {l : List UInt8} {c : Nat} (hne : l ≠ []) (hc : (l.getD 0 0).toNat = c) (h0 : 128 ≤ c) (h : leadOf c = none) : validD l = false := by
  subst hc; exact validD_none l hne h0 h
theorem okAt_first {l : List UInt8} {lo hi d : Nat} (h : (l.getD 1 0).toNat = d) : okAt l lo hi 1 ↔ lo ≤ d ∧ d ≤ hi := by unfold okAt; subst h; simp
theorem okAt_next {l : List UInt8} {lo hi d k : Nat} (hk : 1 < k) (h : (l.getD k 0).toNat = d) : okAt l lo hi k ↔ 128 ≤ d ∧ d ≤ 191 := by unfold okAt; subst h; rw [if_neg (by omega), if_neg (by omega)]
/-- The low bound at byte j of the rune; the high one. -/
def lowAt (lo j : Nat) : Nat := if j = 1 then lo else 128
def highAt (hi j : Nat) : Nat := if j = 1 then hi else 191
theorem okAt_at {l : List UInt8} {lo hi d k : Nat} (h : (l.getD k 0).toNat = d) : okAt l lo hi k ↔ lowAt lo k ≤ d ∧ d ≤ highAt hi k := by unfold okAt lowAt highAt; subst h; rfl
end Go.Proofs.YtoeejfhdjmkpcaaDoor
namespace Go.Proofs.YtoeejfhdjmkpcaaDoor
open Go.Lib (validD)
def txtOk (s : ByteArray) : Bool := decide (s.size ≤ 16) && validD s.data.toList
def nameOk (s : ByteArray) : Bool := decide (s.size ≠ 0) && txtOk s
def ranged (n lo hi : Int) : Bool := decide (lo ≤ n) && decide (n ≤ hi)
structure JobD where
  name : ByteArray
  prio : Int
  need : Int
  tries : Int
  tag : ByteArray
structure NodeD where
  name : ByteArray
  room : Int
  zone : ByteArray
structure LeaseD where
  job : ByteArray
  node : ByteArray
  till : Int
def jobV (j : JobD) : List Value := [.string j.name, .int .i64 j.prio, .int .i64 j.need, .int .i64 j.tries, .string j.tag]
def nodeV (n : NodeD) : List Value := [.string n.name, .int .i64 n.room, .string n.zone]
def leaseV (l : LeaseD) : List Value := [.string l.job, .string l.node, .int .i64 l.till]
def jobE (j : JobD) : Int := if nameOk j.name && txtOk j.tag then (if ranged j.prio (-1000) 1000 && ranged j.need 0 1000000 && ranged j.tries 0 100 then 0 else 1) else 4
def nodeE (n : NodeD) : Int := if nameOk n.name && txtOk n.zone then (if ranged n.room 0 1000000 then 0 else 1) else 4
theorem empty_of {s : ByteArray} (h : s.size = 0) : s = ⟨#[]⟩ := ByteArray.ext (Array.eq_empty_of_size_eq_zero h)
theorem beq_nil {s : ByteArray} (h : s.size ≠ 0) : (s.toList == []) = false := by
  rw [beq_eq_false_iff_ne, ByteArray.toList_eq]
  intro e
  have := congrArg List.length e
  rw [Array.length_toList] at this
  exact h this
theorem beq_empty {s : ByteArray} (h : s.size ≠ 0) : (s.toList == ByteArray.toList ⟨#[]⟩) = false := by
  rw [show ByteArray.toList ⟨#[]⟩ = [] from by rw [ByteArray.toList_eq]]; exact beq_nil h
theorem nameOk_empty {s : ByteArray} (h : s.size = 0) : nameOk s = false := by unfold nameOk; rw [decide_eq_false (by omega)]; rfl
theorem nameOk_more {s : ByteArray} (h : s.size ≠ 0) : nameOk s = txtOk s := by unfold nameOk; rw [decide_eq_true h]; rfl
theorem txtOk_long {s : ByteArray} (h : ¬ s.size ≤ 16) : txtOk s = false := by unfold txtOk; rw [decide_eq_false h]; rfl
theorem txtOk_short {s : ByteArray} (h : s.size ≤ 16) : txtOk s = validD s.data.toList := by unfold txtOk; rw [decide_eq_true h]; rfl
theorem ranged_iff {n lo hi : Int} : ranged n lo hi = true ↔ lo ≤ n ∧ n ≤ hi := by unfold ranged; simp
theorem ranged_not {n lo hi : Int} : ranged n lo hi = false ↔ n < lo ∨ hi < n := by
  rw [← Bool.not_eq_true, ranged_iff]; omega
end Go.Proofs.YtoeejfhdjmkpcaaDoor
namespace Go.Proofs.YtoeejfhdjmkpcaaDoor
open Go.Op (bytesLess)
theorem less_total : ∀ a b : List UInt8, (!bytesLess a b) = (bytesLess b a || b == a)
  | [], [] => by simp [bytesLess]
  | [], _ :: _ => by simp [bytesLess]
  | _ :: _, [] => by simp [bytesLess]
  | x :: a, y :: b => by
    have ih := less_total a b
    simp only [bytesLess]
    by_cases h1 : x < y
    · have h2 : ¬ y < x := fun h => absurd (UInt8.lt_trans h1 h) (UInt8.lt_irrefl _)
      have h3 : ¬ y = x := fun h => by subst h; exact absurd h1 (UInt8.lt_irrefl _)
      simp [h1, h2, h3]
    · by_cases h2 : y < x
      · have h3 : ¬ x = y := fun h => by subst h; exact absurd h2 (UInt8.lt_irrefl _)
        simp [h1, h2, h3]
      · have h3 : x = y := UInt8.le_antisymm (UInt8.not_lt.1 h2) (UInt8.not_lt.1 h1)
        subst h3
        simpa [h1] using ih
section
variable {α : Type} (E : α → Int) (key : α → ByteArray)
def before (p : Option ByteArray) (s : ByteArray) : Bool := match p with
  | none => true
  | some q => bytesLess q.toList s.toList
def rowsFrom : Option ByteArray → List α → Int
  | _, [] => 0
  | p, x :: l => if E x = 0 then (if before p (key x) = true then rowsFrom (some (key x)) l else 8) else E x
def rowsE (l : List α) : Int := rowsFrom E key none l
def prevK (l : List α) (k : Nat) : Option ByteArray := if k = 0 then none else l[k - 1]?.map key
variable {E key} {l : List α} {k : Nat} {x : α}
theorem drop_cons (h : l[k]? = some x) : l.drop k = x :: l.drop (k + 1) := by
  obtain ⟨hlt, rfl⟩ := List.getElem?_eq_some_iff.1 h
  exact List.drop_eq_getElem_cons hlt
theorem rows_err (h : l[k]? = some x) (he : E x ≠ 0) : rowsFrom E key (prevK key l k) (l.drop k) = E x := by
  rw [drop_cons h, rowsFrom, if_neg he]
theorem rows_order {y : α} (h : l[k]? = some x) (he : E x = 0) (hk : k ≠ 0) (hy : l[k - 1]? = some y) (hl : bytesLess (key y).toList (key x).toList = false) : rowsFrom E key (prevK key l k) (l.drop k) = 8 := by
  rw [drop_cons h, rowsFrom, if_pos he, if_neg]
  unfold prevK before
  rw [if_neg hk, hy]
  simp [hl]
theorem rows_next (h : l[k]? = some x) (he : E x = 0) (hb : k = 0 ∨ ∃ y, l[k - 1]? = some y ∧ bytesLess (key y).toList (key x).toList = true) :
    rowsFrom E key (prevK key l k) (l.drop k) = rowsFrom E key (prevK key l (k + 1)) (l.drop (k + 1)) := by
  have e1 : prevK key l (k + 1) = some (key x) := by unfold prevK; rw [if_neg (by omega), Nat.add_sub_cancel, h]; rfl
  rw [drop_cons h, rowsFrom, if_pos he, e1, if_pos]
  unfold prevK before
  rcases hb with rfl | ⟨y, hy, hl⟩
  · rfl
  · by_cases hk : k = 0
    · rw [if_pos hk]
    · rw [if_neg hk, hy]; exact hl
theorem rows_end (h : l.length ≤ k) (p : Option ByteArray) : rowsFrom E key p (l.drop k) = 0 := by
  rw [List.drop_of_length_le h]; rfl
end
theorem jobV_len (j : JobD) : (jobV j).length = 5 := rfl
theorem nodeV_len (n : NodeD) : (nodeV n).length = 3 := rfl
theorem leaseV_len (l : LeaseD) : (leaseV l).length = 3 := rfl
end Go.Proofs.YtoeejfhdjmkpcaaDoor
namespace Go.Proofs.YtoeejfhdjmkpcaaDoor
open Go.Op (bytesLess)
structure StateD where
  rev : Int
  jobs : List JobD
  nodes : List NodeD
  leases : List LeaseD
def jobOf (l : List JobD) (s : ByteArray) : Option JobD := l.find? fun j => decide (j.name = s)
def nodeOf (l : List NodeD) (s : ByteArray) : Option NodeD := l.find? fun n => decide (n.name = s)
def leaseE (st : StateD) (l : LeaseD) : Int := if (jobOf st.jobs l.job).isSome && (nodeOf st.nodes l.node).isSome then (if ranged l.till 0 1099511627776 then 0 else 1) else 6
def needOf (st : StateD) (l : LeaseD) (s : ByteArray) : Int := if l.node = s then (match jobOf st.jobs l.job with | some j => j.need | none => 0) else 0
def usedL (st : StateD) (s : ByteArray) : List LeaseD → Int
  | [] => 0
  | l :: r => needOf st l s + usedL st s r
def usedE (st : StateD) (s : ByteArray) : Int := usedL st s st.leases
def sizesOk (st : StateD) : Bool := decide (st.jobs.length ≤ 40) && decide (st.leases.length ≤ 40) && decide (st.nodes.length ≤ 20)
def roomOk (st : StateD) : Bool := st.nodes.all fun n => decide (usedE st n.name ≤ n.room)
def checkE (st : StateD) : Int :=
  if ranged st.rev 0 1099511627776 = false then 1
  else if sizesOk st = false then 2
  else if rowsE jobE JobD.name st.jobs ≠ 0 then rowsE jobE JobD.name st.jobs
  else if rowsE nodeE NodeD.name st.nodes ≠ 0 then rowsE nodeE NodeD.name st.nodes
  else if rowsE (leaseE st) LeaseD.job st.leases ≠ 0 then rowsE (leaseE st) LeaseD.job st.leases
  else if roomOk st = true then 0 else 9
theorem less_irrefl : ∀ a : List UInt8, bytesLess a a = false
  | [] => rfl
  | a :: r => by simp [bytesLess, less_irrefl r]
theorem less_trans : ∀ a b c : List UInt8, bytesLess a b = true → bytesLess b c = true → bytesLess a c = true
  | _, [], _, h, _ => by simp [bytesLess] at h
  | _, _ :: _, [], _, h => by simp [bytesLess] at h
  | [], _ :: _, _ :: _, _, _ => rfl
  | a :: x, b :: y, c :: z, h1, h2 => by
    simp only [bytesLess, Bool.or_eq_true, decide_eq_true_eq, Bool.and_eq_true, beq_iff_eq] at h1 h2 ⊢
    rcases h1 with h1 | ⟨rfl, h1⟩
    · rcases h2 with h2 | ⟨rfl, h2⟩
      · exact .inl (UInt8.lt_trans h1 h2)
      · exact .inl h1
    · rcases h2 with h2 | ⟨rfl, h2⟩
      · exact .inl h2
      · exact .inr ⟨rfl, less_trans x y z h1 h2⟩
section
variable {α : Type} {E : α → Int} {key : α → ByteArray}
theorem rows_all : ∀ (p : Option ByteArray) (l : List α), rowsFrom E key p l = 0 → (∀ x ∈ l, E x = 0 ∧ before p (key x) = true) ∧ l.Pairwise (fun a b => bytesLess (key a).toList (key b).toList = true)
  | _, [], _ => ⟨by simp, List.Pairwise.nil⟩
  | p, x :: l, h => by
    unfold rowsFrom at h
    by_cases h1 : E x = 0
    · rw [if_pos h1] at h
      by_cases h2 : before p (key x) = true
      · rw [if_pos h2] at h
        obtain ⟨i1, i2⟩ := rows_all (some (key x)) l h
        refine ⟨fun y hy => ?_, List.pairwise_cons.2 ⟨fun y hy => (i1 y hy).2, i2⟩⟩
        rcases List.mem_cons.1 hy with rfl | hy
        · exact ⟨h1, h2⟩
        · refine ⟨(i1 y hy).1, ?_⟩
          have h3 := (i1 y hy).2
          unfold before at h2 h3 ⊢
          cases p with
          | none => rfl
          | some q => exact less_trans _ _ _ h2 h3
      · rw [if_neg h2] at h; omega
    · rw [if_neg h1] at h; exact absurd h h1
theorem rows_zero {l : List α} (h : rowsE E key l = 0) {x : α} (hx : x ∈ l) : E x = 0 := ((rows_all none l h).1 x hx).1
theorem rows_apart {l : List α} (h : rowsE E key l = 0) : l.Pairwise (fun a b => key a ≠ key b) :=
  (rows_all none l h).2.imp fun {a b} hlt e => by rw [e, less_irrefl] at hlt; cases hlt
end
theorem jobE_need {j : JobD} (h : jobE j = 0) : 0 ≤ j.need ∧ j.need ≤ 1000000 := by
  unfold jobE at h
  split at h
  · split at h
    · rename_i h2
      simp only [Bool.and_eq_true] at h2
      exact ranged_iff.1 h2.1.2
    · omega
  · omega
/-- Reading a list to the k-th element: what is found by name. -/
theorem find_take {α : Type} (key : α → ByteArray) {l : List α} (hp : l.Pairwise (fun a b => key a ≠ key b)) {k : Nat} {x : α} (hx : l[k]? = some x) (s : ByteArray) :
    (l.take (k + 1)).find? (fun a => decide (key a = s)) = if s = key x then some x else (l.take k).find? (fun a => decide (key a = s)) := by
  have e : l.take (k + 1) = l.take k ++ [x] := by
    obtain ⟨hlt, rfl⟩ := List.getElem?_eq_some_iff.1 hx
    exact (List.take_append_getElem hlt).symm
  rw [e, List.find?_append]
  by_cases hs : s = key x
  · rw [if_pos hs]
    have hnone : (l.take k).find? (fun a => decide (key a = s)) = none := by
      rw [List.find?_eq_none]
      intro a ha hd
      have hk : key a = s := by simpa using hd
      obtain ⟨hlt, rfl⟩ := List.getElem?_eq_some_iff.1 hx
      obtain ⟨i, hi, rfl⟩ := List.mem_iff_getElem.1 ha
      rw [List.length_take] at hi
      rw [List.getElem_take] at hk
      exact List.pairwise_iff_getElem.1 hp i k (by omega) hlt (by omega) (hk.trans hs)
    rw [hnone]
    simp [hs]
  · rw [if_neg hs]
    have : [x].find? (fun a => decide (key a = s)) = none := by simpa using fun e => hs (Eq.symm e)
    rw [this]
    simp
theorem usedL_append (st : StateD) (s : ByteArray) : ∀ a b : List LeaseD, usedL st s (a ++ b) = usedL st s a + usedL st s b
  | [], b => by simp [usedL]
  | x :: a, b => by
    have ih := usedL_append st s a b
    simp only [List.cons_append, usedL, ih]; omega
theorem usedL_step (st : StateD) (s : ByteArray) {l : List LeaseD} {k : Nat} {x : LeaseD} (h : l[k]? = some x) : usedL st s (l.take (k + 1)) = usedL st s (l.take k) + needOf st x s := by
  have e : l.take (k + 1) = l.take k ++ [x] := by
    obtain ⟨hlt, rfl⟩ := List.getElem?_eq_some_iff.1 h
    exact (List.take_append_getElem hlt).symm
  rw [e, usedL_append]; simp [usedL]
def NeedsOk (st : StateD) : Prop := ∀ j ∈ st.jobs, 0 ≤ j.need ∧ j.need ≤ 1000000
theorem needOf_bound {st : StateD} (h : NeedsOk st) (x : LeaseD) (s : ByteArray) : 0 ≤ needOf st x s ∧ needOf st x s ≤ 1000000 := by
  unfold needOf
  split
  · cases hx : jobOf st.jobs x.job with
    | none => simp
    | some j => exact h j (List.mem_of_find?_eq_some hx)
  · omega
theorem usedL_bound {st : StateD} (h : NeedsOk st) (s : ByteArray) : ∀ l : List LeaseD, 0 ≤ usedL st s l ∧ usedL st s l ≤ (l.length : Int) * 1000000
  | [] => by simp [usedL]
  | x :: l => by
    have h1 := needOf_bound h x s
    have h2 := usedL_bound h s l
    simp only [usedL, List.length_cons]
    omega
theorem needs_of {st : StateD} (h : rowsE jobE JobD.name st.jobs = 0) : NeedsOk st := fun _ hj => jobE_need (rows_zero h hj)
end Go.Proofs.YtoeejfhdjmkpcaaDoor
namespace Go.Proofs.YtoeejfhdjmkpcaaDoor
open Go.Op (bytesLess)
def leaseOf (l : List LeaseD) (s : ByteArray) : Option LeaseD := l.find? fun x => decide (x.job = s)
def goneFrom (has : ByteArray → Bool) : Option ByteArray → List ByteArray → Int
  | _, [] => 0
  | p, s :: l => if nameOk s = true then (if before p s = true then (if has s = true then 7 else goneFrom has (some s) l) else 8) else 4
def goneE (has : ByteArray → Bool) (l : List ByteArray) : Int := goneFrom has none l
def selfK (s : ByteArray) : ByteArray := s
section
variable {has : ByteArray → Bool} {l : List ByteArray} {k : Nat} {s : ByteArray}
theorem gone_form (h : l[k]? = some s) (hn : nameOk s = false) : goneFrom has (prevK selfK l k) (l.drop k) = 4 := by
  rw [drop_cons h, goneFrom, if_neg (by rw [hn]; simp)]
theorem gone_order {y : ByteArray} (h : l[k]? = some s) (hn : nameOk s = true) (hk : k ≠ 0) (hy : l[k - 1]? = some y) (hl : bytesLess y.toList s.toList = false) : goneFrom has (prevK selfK l k) (l.drop k) = 8 := by
  rw [drop_cons h, goneFrom, if_pos hn, if_neg]
  unfold prevK before
  rw [if_neg hk, hy]
  simp [selfK, hl]
theorem gone_before (hb : k = 0 ∨ ∃ y, l[k - 1]? = some y ∧ bytesLess y.toList s.toList = true) : before (prevK selfK l k) s = true := by
  unfold prevK before
  rcases hb with rfl | ⟨y, hy, hl⟩
  · rfl
  · by_cases hk : k = 0
    · rw [if_pos hk]
    · rw [if_neg hk, hy]; exact hl
theorem gone_twice (h : l[k]? = some s) (hn : nameOk s = true) (hb : k = 0 ∨ ∃ y, l[k - 1]? = some y ∧ bytesLess y.toList s.toList = true) (hh : has s = true) : goneFrom has (prevK selfK l k) (l.drop k) = 7 := by
  rw [drop_cons h, goneFrom, if_pos hn, if_pos (gone_before hb), if_pos hh]
theorem gone_next (h : l[k]? = some s) (hn : nameOk s = true) (hb : k = 0 ∨ ∃ y, l[k - 1]? = some y ∧ bytesLess y.toList s.toList = true) (hh : has s = false) :
    goneFrom has (prevK selfK l k) (l.drop k) = goneFrom has (prevK selfK l (k + 1)) (l.drop (k + 1)) := by
  have e1 : prevK selfK l (k + 1) = some s := by unfold prevK; rw [if_neg (by omega), Nat.add_sub_cancel, h]; rfl
  rw [drop_cons h, goneFrom, if_pos hn, if_pos (gone_before hb), if_neg (by rw [hh]; simp), e1]
theorem gone_end (h : l.length ≤ k) (p : Option ByteArray) : goneFrom has p (l.drop k) = 0 := by
  rw [List.drop_of_length_le h]; rfl
end
def strV (s : ByteArray) : List Value := [.string s]
theorem strV_len (s : ByteArray) : (strV s).length = 1 := rfl
def lsE (l : LeaseD) : Int := if nameOk l.job && nameOk l.node then (if ranged l.till 0 1099511627776 then 0 else 1) else 4
structure DeltaD where
  from_ : Int
  to_ : Int
  jobs : List JobD
  nodes : List NodeD
  leases : List LeaseD
  gj : List ByteArray
  gn : List ByteArray
  gl : List ByteArray
def dSizes (d : DeltaD) : Bool := decide (d.jobs.length ≤ 40) && decide (d.leases.length ≤ 40) && decide (d.gj.length ≤ 40) && decide (d.gl.length ≤ 40) && decide (d.nodes.length ≤ 20) && decide (d.gn.length ≤ 20)
def dTimes (d : DeltaD) : Bool := ranged d.from_ 0 1099511627776 && decide (d.from_ < d.to_) && decide (d.to_ ≤ 1099511627776)
def firstE : List Int → Int
  | [] => 0
  | e :: l => if e = 0 then firstE l else e
def dRows (d : DeltaD) : List Int :=
  [rowsE jobE JobD.name d.jobs, rowsE nodeE NodeD.name d.nodes, rowsE lsE LeaseD.job d.leases,
   goneE (fun s => (jobOf d.jobs s).isSome) d.gj, goneE (fun s => (nodeOf d.nodes s).isSome) d.gn, goneE (fun s => (leaseOf d.leases s).isSome) d.gl]
def deltaE (d : DeltaD) : Int := if dTimes d = false then 1 else if dSizes d = false then 2 else firstE (dRows d)
theorem firstE_zero {e : Int} {l : List Int} (h : e = 0) : firstE (e :: l) = firstE l := by unfold firstE; rw [if_pos h]; cases l <;> rfl
theorem firstE_stop {e : Int} {l : List Int} (h : e ≠ 0) : firstE (e :: l) = e := by unfold firstE; rw [if_neg h]
end Go.Proofs.YtoeejfhdjmkpcaaDoor
namespace Go.Proofs.YtoeejfhdjmkpcaaDoor
open Go.Lib (validD)
def txtR (s : ByteArray) : ByteArray × Nat × Nat :=
  match rdNum s with
  | (n, k, e) =>
    if e = 0 then
      if 16 < n then (⟨#[]⟩, 0, 2)
      else if s.size < k + n then (⟨#[]⟩, 0, 3)
      else if validD (s.extract k (k + n)).data.toList = true then (s.extract k (k + n), k + n, 0)
      else (⟨#[]⟩, 0, 4)
    else (⟨#[]⟩, 0, e)
variable {s : ByteArray} {n k e : Nat}
theorem txtR_num (h : rdNum s = (n, k, e)) (he : e ≠ 0) : txtR s = (⟨#[]⟩, 0, e) := by unfold txtR; rw [h]; simp only; rw [if_neg he]
theorem txtR_large (h : rdNum s = (n, k, 0)) (hn : 16 < n) : txtR s = (⟨#[]⟩, 0, 2) := by unfold txtR; rw [h]; simp only; rw [if_pos trivial, if_pos hn]
theorem txtR_short (h : rdNum s = (n, k, 0)) (hn : ¬ 16 < n) (hl : s.size < k + n) : txtR s = (⟨#[]⟩, 0, 3) := by unfold txtR; rw [h]; simp only; rw [if_pos trivial, if_neg hn, if_pos hl]
theorem txtR_ok (h : rdNum s = (n, k, 0)) (hn : ¬ 16 < n) (hl : ¬ s.size < k + n) (hv : validD (s.extract k (k + n)).data.toList = true) : txtR s = (s.extract k (k + n), k + n, 0) := by unfold txtR; rw [h]; simp only; rw [if_pos trivial, if_neg hn, if_neg hl, if_pos hv]
theorem txtR_form (h : rdNum s = (n, k, 0)) (hn : ¬ 16 < n) (hl : ¬ s.size < k + n) (hv : validD (s.extract k (k + n)).data.toList = false) : txtR s = (⟨#[]⟩, 0, 4) := by unfold txtR; rw [h]; simp only; rw [if_pos trivial, if_neg hn, if_neg hl, if_neg (by rw [hv]; simp)]
end Go.Proofs.YtoeejfhdjmkpcaaDoor
namespace Go.Proofs.YtoeejfhdjmkpcaaDoor
open Go.RowKit

end Go.Proofs.YtoeejfhdjmkpcaaDoor
namespace Go.Proofs.YtoeejfhdjmkpcaaDoor
inductive RR (α : Type) where
  | ok (a : α) (r : ByteArray)
  | bad (e : Nat)
def RR.bind {α β : Type} (x : RR α) (f : α → ByteArray → RR β) : RR β := match x with
  | .ok a r => f a r
  | .bad e => .bad e
theorem RR.bind_ok {α β : Type} (a : α) (r : ByteArray) (f : α → ByteArray → RR β) : (RR.ok a r).bind f = f a r := rfl
theorem RR.bind_bad {α β : Type} (e : Nat) (f : α → ByteArray → RR β) : (RR.bad e : RR α).bind f = .bad e := rfl
def RR.st {α : Type} (x : RR α) : RR Unit := x.bind fun _ r => .ok () r
/-- Never the error 0, never a text that is too long. -/
def RR.Good {α : Type} (N : Nat) (x : RR α) : Prop := match x with
  | .ok _ r => r.size ≤ N
  | .bad e => e ≠ 0 ∧ e ≤ 10
theorem RR.Good.bind {α β : Type} {N : Nat} {x : RR α} {f : α → ByteArray → RR β} (h : x.Good N) (hf : ∀ a r, r.size ≤ N → (f a r).Good N) : (x.bind f).Good N := by
  cases x with
  | ok a r => exact hf a r h
  | bad e => exact h
theorem RR.Good.st {α : Type} {N : Nat} {x : RR α} (h : x.Good N) : x.st.Good N := h.bind fun _ _ hr => hr
def numP (s : ByteArray) : RR Nat := if (rdNum s).2.2 = 0 then (if 4611686018427387904 < (rdNum s).1 then .bad 2 else .ok (rdNum s).1 (s.extract (rdNum s).2.1 s.size)) else .bad (rdNum s).2.2
def textP (s : ByteArray) : RR ByteArray := if (txtR s).2.2 = 0 then .ok (txtR s).1 (s.extract (txtR s).2.1 s.size) else .bad (txtR s).2.2
theorem numP_ok {s : ByteArray} {a k : Nat} (h : rdNum s = (a, k, 0)) (hl : ¬ 4611686018427387904 < a) : numP s = .ok a (s.extract k s.size) := by unfold numP; rw [h]; simp only; rw [if_pos trivial, if_neg hl]
theorem numP_large {s : ByteArray} {a k : Nat} (h : rdNum s = (a, k, 0)) (hl : 4611686018427387904 < a) : numP s = .bad 2 := by unfold numP; rw [h]; simp only; rw [if_pos trivial, if_pos hl]
theorem numP_bad {s : ByteArray} {a k e : Nat} (h : rdNum s = (a, k, e)) (he : e ≠ 0) : numP s = .bad e := by unfold numP; rw [h]; simp only; rw [if_neg he]
theorem textP_ok {s t : ByteArray} {k : Nat} (h : txtR s = (t, k, 0)) : textP s = .ok t (s.extract k s.size) := by unfold textP; rw [h]; simp only; rw [if_pos trivial]
theorem textP_bad {s t : ByteArray} {k e : Nat} (h : txtR s = (t, k, e)) (he : e ≠ 0) : textP s = .bad e := by unfold textP; rw [h]; simp only; rw [if_neg he]
theorem extract_small {s : ByteArray} {k N : Nat} (h : s.size ≤ N) : (s.extract k s.size).size ≤ N := by
  rw [ByteArray.size_extract]; omega
theorem numP_good {s : ByteArray} {N : Nat} (h : s.size ≤ N) : (numP s).Good N := by
  rcases hr : rdNum s with ⟨a, k, e⟩
  have hf := rdNum_facts hr
  by_cases he : e = 0
  · subst he
    by_cases hl : 4611686018427387904 < a
    · rw [numP_large hr hl]; exact ⟨by decide, by decide⟩
    · rw [numP_ok hr hl]; exact extract_small h
  · rw [numP_bad hr he]; exact ⟨he, by omega⟩
theorem numP_le {s r : ByteArray} {a : Nat} (h : numP s = .ok a r) : a ≤ 4611686018427387904 := by
  unfold numP at h
  split at h
  · split at h
    · cases h
    · injection h with h1 h2; omega
  · cases h
theorem txtR_facts {s t : ByteArray} {k e : Nat} (h : txtR s = (t, k, e)) : e ≤ 10 ∧ t.size ≤ 16 ∧ (e = 0 → k ≤ s.size) := by
  rcases hr : rdNum s with ⟨a, n, e'⟩
  have hf := rdNum_facts hr
  by_cases he : e' = 0
  · subst he
    by_cases h1 : 16 < a
    · rw [txtR_large hr h1] at h; injection h with h2 h3; injection h3 with h4 h5; subst h2; subst h5
      exact ⟨by omega, by decide, fun hh => absurd hh (by decide)⟩
    · by_cases h2 : s.size < n + a
      · rw [txtR_short hr h1 h2] at h; injection h with h2 h3; injection h3 with h4 h5; subst h2; subst h5
        exact ⟨by omega, by decide, fun hh => absurd hh (by decide)⟩
      · cases hv : Lib.validD (s.extract n (n + a)).data.toList
        · rw [txtR_form hr h1 h2 hv] at h; injection h with h2 h3; injection h3 with h4 h5; subst h2; subst h5
          exact ⟨by omega, by decide, fun hh => absurd hh (by decide)⟩
        · rw [txtR_ok hr h1 h2 hv] at h; injection h with h2' h3; injection h3 with h4 h5; subst h2'; subst h5; subst h4
          exact ⟨by omega, by rw [ByteArray.size_extract]; omega, fun _ => by omega⟩
  · rw [txtR_num hr he] at h; injection h with h2 h3; injection h3 with h4 h5; subst h2; subst h5
    exact ⟨by omega, by decide, fun hh => absurd hh he⟩
theorem textP_good {s : ByteArray} {N : Nat} (h : s.size ≤ N) : (textP s).Good N := by
  rcases hr : txtR s with ⟨a, k, e⟩
  have hf := txtR_facts hr
  by_cases he : e = 0
  · subst he
    rw [textP_ok hr]; exact extract_small h
  · rw [textP_bad hr he]; exact ⟨he, hf.1⟩
theorem textP_le {s t r : ByteArray} (h : textP s = .ok t r) : t.size ≤ 16 := by
  rcases hr : txtR s with ⟨a, k, e⟩
  have hf := txtR_facts hr
  by_cases he : e = 0
  · subst he
    rw [textP_ok hr] at h; injection h with h1 h2; subst h1; exact hf.2.1
  · rw [textP_bad hr he] at h; cases h
/-- What a reader's method hands back: the value read; Z, where an error stands. -/
def RxVal {α : Type} (res : RR α) (Z : α → Prop) (a : α) : Prop := match res with
  | .ok b _ => a = b
  | .bad _ => Z a
def jobP (v : Int) (s : ByteArray) : RR JobD :=
  (textP s).bind fun name s => (numP s).bind fun p s => (numP s).bind fun need s =>
    (if 1 < v then numP s else .ok 0 s).bind fun tries s => (if 2 < v then textP s else .ok ⟨#[]⟩ s).bind fun tag s => .ok ⟨name, zagZ p, need, tries, tag⟩ s
def nodeP (v : Int) (s : ByteArray) : RR NodeD :=
  (textP s).bind fun name s => (numP s).bind fun room s => (if 1 < v then textP s else .ok ⟨#[]⟩ s).bind fun zone s => .ok ⟨name, room, zone⟩ s
def leaseP (s : ByteArray) : RR LeaseD := (textP s).bind fun job s => (textP s).bind fun node s => (numP s).bind fun till s => .ok ⟨job, node, till⟩ s
def repP {α : Type} (p : ByteArray → RR α) : Nat → ByteArray → RR (List α)
  | 0, s => .ok [] s
  | n + 1, s => (p s).bind fun a s => (repP p n s).bind fun l s => .ok (a :: l) s
def manyP (most : Nat) (s : ByteArray) : RR Nat := (numP s).bind fun n s => if most < n then .bad 2 else .ok n s
def takeP {α : Type} (most : Nat) (p : ByteArray → RR α) (s : ByteArray) : RR (List α) := (manyP most s).bind fun n s => repP p n s
theorem jobP_good {v : Int} {s : ByteArray} {N : Nat} (h : s.size ≤ N) : (jobP v s).Good N := by
  unfold jobP
  refine (textP_good h).bind fun _ r hr => (numP_good hr).bind fun _ r hr => (numP_good hr).bind fun _ r hr => RR.Good.bind ?_ fun _ r hr => RR.Good.bind ?_ fun _ r hr => hr
  · split
    · exact numP_good hr
    · exact hr
  · split
    · exact textP_good hr
    · exact hr
theorem nodeP_good {v : Int} {s : ByteArray} {N : Nat} (h : s.size ≤ N) : (nodeP v s).Good N := by
  unfold nodeP
  refine (textP_good h).bind fun _ r hr => (numP_good hr).bind fun _ r hr => RR.Good.bind ?_ fun _ r hr => hr
  split
  · exact textP_good hr
  · exact hr
theorem leaseP_good {s : ByteArray} {N : Nat} (h : s.size ≤ N) : (leaseP s).Good N := by
  unfold leaseP
  exact (textP_good h).bind fun _ r hr => (textP_good hr).bind fun _ r hr => (numP_good hr).bind fun _ r hr => hr
theorem repP_good {α : Type} {p : ByteArray → RR α} {N : Nat} (hp : ∀ s, s.size ≤ N → (p s).Good N) : ∀ (n : Nat) (s : ByteArray), s.size ≤ N → (repP p n s).Good N
  | 0, _, h => h
  | n + 1, s, h => (hp s h).bind fun _ r hr => (repP_good hp n r hr).bind fun _ r hr => hr
theorem manyP_good {most : Nat} {s : ByteArray} {N : Nat} (h : s.size ≤ N) : (manyP most s).Good N := by
  unfold manyP
  refine (numP_good h).bind fun n r hr => ?_
  split
  · exact ⟨by decide, by decide⟩
  · exact hr
theorem takeP_good {α : Type} {most : Nat} {p : ByteArray → RR α} {s : ByteArray} {N : Nat} (hp : ∀ s, s.size ≤ N → (p s).Good N) (h : s.size ≤ N) : (takeP most p s).Good N :=
  (manyP_good h).bind fun n r hr => repP_good hp n r hr
end Go.Proofs.YtoeejfhdjmkpcaaDoor
namespace Go.Proofs.YtoeejfhdjmkpcaaDoor
theorem repP_all {α : Type} {p : ByteArray → RR α} : ∀ {n : Nat} {s r : ByteArray} {l : List α}, repP p n s = .ok l r → l.length = n ∧ ∀ x ∈ l, ∃ s r, p s = .ok x r
  | 0, s, r, l, h => by
    unfold repP at h
    injection h with h1 h2
    subst h1
    exact ⟨rfl, fun x hx => by cases hx⟩
  | n + 1, s, r, l, h => by
    unfold repP at h
    cases hp : p s with
    | bad x => rw [hp] at h; cases h
    | ok a r1 =>
      rw [hp, RR.bind_ok] at h
      cases hq : repP p n r1 with
      | bad x => rw [hq] at h; cases h
      | ok l' r2 =>
        rw [hq, RR.bind_ok] at h
        injection h with h1 h2
        subst h1
        obtain ⟨i1, i2⟩ := repP_all hq
        refine ⟨by simp [i1], fun x hx => ?_⟩
        rcases List.mem_cons.1 hx with rfl | hx
        · exact ⟨_, _, hp⟩
        · exact i2 x hx
theorem takeP_all {α : Type} {p : ByteArray → RR α} {most : Nat} {s r : ByteArray} {l : List α} (h : takeP most p s = .ok l r) : l.length ≤ most ∧ ∀ x ∈ l, ∃ s r, p s = .ok x r := by
  unfold takeP manyP at h
  cases hn : numP s with
  | bad x => rw [hn] at h; cases h
  | ok n r1 =>
    rw [hn, RR.bind_ok] at h
    by_cases hb : most < n
    · rw [if_pos hb] at h; cases h
    · rw [if_neg hb, RR.bind_ok] at h
      obtain ⟨i1, i2⟩ := repP_all h
      exact ⟨by omega, i2⟩
theorem jobP_size {v : Int} {s r : ByteArray} {j : JobD} (h : jobP v s = .ok j r) : j.name.size ≤ 16 ∧ j.tag.size ≤ 16 := by
  unfold jobP at h
  cases h1 : textP s with
  | bad x => rw [h1] at h; cases h
  | ok a1 s1 =>
    rw [h1, RR.bind_ok] at h
    cases h2 : numP s1 with
    | bad x => rw [h2] at h; cases h
    | ok a2 s2 =>
      rw [h2, RR.bind_ok] at h
      cases h3 : numP s2 with
      | bad x => rw [h3] at h; cases h
      | ok a3 s3 =>
        rw [h3, RR.bind_ok] at h
        cases h4 : (if 1 < v then numP s3 else .ok 0 s3) with
        | bad x => rw [h4] at h; cases h
        | ok a4 s4 =>
          rw [h4, RR.bind_ok] at h
          cases h5 : (if 2 < v then textP s4 else .ok ⟨#[]⟩ s4) with
          | bad x => rw [h5] at h; cases h
          | ok a5 s5 =>
            rw [h5, RR.bind_ok] at h
            injection h with e1 e2
            subst e1
            refine ⟨textP_le h1, ?_⟩
            by_cases hv : 2 < v
            · rw [if_pos hv] at h5; exact textP_le h5
            · rw [if_neg hv] at h5; injection h5 with e3 e4; subst e3; show (0 : Nat) ≤ 16; omega
theorem nodeP_size {v : Int} {s r : ByteArray} {j : NodeD} (h : nodeP v s = .ok j r) : j.name.size ≤ 16 ∧ j.zone.size ≤ 16 := by
  unfold nodeP at h
  cases h1 : textP s with
  | bad x => rw [h1] at h; cases h
  | ok a1 s1 =>
    rw [h1, RR.bind_ok] at h
    cases h2 : numP s1 with
    | bad x => rw [h2] at h; cases h
    | ok a2 s2 =>
      rw [h2, RR.bind_ok] at h
      cases h5 : (if 1 < v then textP s2 else .ok ⟨#[]⟩ s2) with
      | bad x => rw [h5] at h; cases h
      | ok a5 s5 =>
        rw [h5, RR.bind_ok] at h
        injection h with e1 e2
        subst e1
        refine ⟨textP_le h1, ?_⟩
        by_cases hv : 1 < v
        · rw [if_pos hv] at h5; exact textP_le h5
        · rw [if_neg hv] at h5; injection h5 with e3 e4; subst e3; show (0 : Nat) ≤ 16; omega
theorem leaseP_size {s r : ByteArray} {j : LeaseD} (h : leaseP s = .ok j r) : j.job.size ≤ 16 ∧ j.node.size ≤ 16 := by
  unfold leaseP at h
  cases h1 : textP s with
  | bad x => rw [h1] at h; cases h
  | ok a1 s1 =>
    rw [h1, RR.bind_ok] at h
    cases h2 : textP s1 with
    | bad x => rw [h2] at h; cases h
    | ok a2 s2 =>
      rw [h2, RR.bind_ok] at h
      cases h3 : numP s2 with
      | bad x => rw [h3] at h; cases h
      | ok a3 s3 =>
        rw [h3, RR.bind_ok] at h
        injection h with e1 e2
        subst e1
        exact ⟨textP_le h1, textP_le h2⟩
def revP (v : Int) (s : ByteArray) : RR Nat := if 2 < v then numP s else .ok 0 s
def stP (v : Int) (s : ByteArray) : RR StateD :=
  (revP v s).bind fun rev s => (takeP 40 (jobP v) s).bind fun j s => (takeP 20 (nodeP v) s).bind fun n s => (takeP 40 leaseP s).bind fun l s => .ok ⟨rev, j, n, l⟩ s
def endP {α : Type} (x : RR α) : RR α := x.bind fun a s => if s.size = 0 then .ok a s else .bad 4
def zeroSt : StateD := ⟨0, [], [], []⟩
def decF (b : ByteArray) (v : Int) : StateD × Int := if v < 1 ∨ 3 < v then (zeroSt, 1) else match endP (stP v b) with
  | .bad e => (zeroSt, e)
  | .ok st _ => if checkE st = 0 then (st, 0) else (zeroSt, checkE st)
theorem decF_arg {b : ByteArray} {v : Int} (h : v < 1 ∨ 3 < v) : decF b v = (zeroSt, 1) := by unfold decF; rw [if_pos h]
theorem decF_bad {b : ByteArray} {v : Int} {e : Nat} (h : ¬ (v < 1 ∨ 3 < v)) (h2 : endP (stP v b) = .bad e) : decF b v = (zeroSt, (e : Int)) := by unfold decF; rw [if_neg h, h2]
theorem decF_check {b r : ByteArray} {v : Int} {st : StateD} (h : ¬ (v < 1 ∨ 3 < v)) (h2 : endP (stP v b) = .ok st r) (h3 : checkE st ≠ 0) : decF b v = (zeroSt, checkE st) := by unfold decF; rw [if_neg h, h2]; simp only; rw [if_neg h3]
theorem decF_ok {b r : ByteArray} {v : Int} {st : StateD} (h : ¬ (v < 1 ∨ 3 < v)) (h2 : endP (stP v b) = .ok st r) (h3 : checkE st = 0) : decF b v = (st, 0) := by unfold decF; rw [if_neg h, h2]; simp only; rw [if_pos h3]
theorem bad_eq {α β : Type} {x y : Nat} (h : (RR.bad x : RR α) = .bad y) : (RR.bad x : RR β) = .bad y := by injection h with e; rw [e]
/-- The four readings, one after another, told by the states of the reader. -/
theorem st_join {v : Int} {b : ByteArray} {r1 : RR Nat} {r2 : RR (List JobD)} {r3 : RR (List NodeD)} {r4 : RR (List LeaseD)}
    (e1 : r1 = revP v b) (e2 : r2 = r1.st.bind fun _ s => takeP 40 (jobP v) s) (e3 : r3 = r2.st.bind fun _ s => takeP 20 (nodeP v) s) (e4 : r4 = r3.st.bind fun _ s => takeP 40 leaseP s) :
    (∀ x, r4.st = .bad x → stP v b = .bad x) ∧ (∀ s, r4.st = .ok () s → ∃ rev j n l s1 s2 s3, r1 = .ok rev s1 ∧ (r2 = .ok j s2 ∧ takeP 40 (jobP v) s1 = .ok j s2) ∧ (r3 = .ok n s3 ∧ takeP 20 (nodeP v) s2 = .ok n s3) ∧ (r4 = .ok l s ∧ takeP 40 leaseP s3 = .ok l s) ∧ stP v b = .ok ⟨rev, j, n, l⟩ s) := by
  unfold stP
  rw [← e1]
  cases r1 with
  | bad x =>
    subst e2; subst e3; subst e4
    exact ⟨fun y hy => bad_eq hy, fun s hs => by cases hs⟩
  | ok rev s1 =>
    rw [RR.bind_ok]
    have e2' : r2 = takeP 40 (jobP v) s1 := e2
    rw [← e2']
    cases r2 with
    | bad x =>
      subst e3; subst e4
      exact ⟨fun y hy => bad_eq hy, fun s hs => by cases hs⟩
    | ok j s2 =>
      rw [RR.bind_ok]
      have e3' : r3 = takeP 20 (nodeP v) s2 := e3
      rw [← e3']
      cases r3 with
      | bad x =>
        subst e4
        exact ⟨fun y hy => bad_eq hy, fun s hs => by cases hs⟩
      | ok n s3 =>
        rw [RR.bind_ok]
        have e4' : r4 = takeP 40 leaseP s3 := e4
        rw [← e4']
        cases r4 with
        | bad x => exact ⟨fun y hy => bad_eq hy, fun s hs => by cases hs⟩
        | ok l s4 =>
          refine And.intro (fun y hy => by cases hy) (fun s hs => ?_)
          have hs : RR.ok () s4 = RR.ok () s := hs
          injection hs with _ h2
          subst h2
          exact ⟨rev, j, n, l, s1, s2, s3, rfl, ⟨rfl, e2'.symm⟩, ⟨rfl, e3'.symm⟩, ⟨rfl, e4'.symm⟩, rfl⟩
def endE (σ : RR Unit) : Nat := match σ with
  | .ok _ s => if s.size = 0 then 0 else 4
  | .bad x => x
theorem endE_ok0 {s : ByteArray} (h : s.size = 0) : endE (.ok () s) = 0 := by unfold endE; simp only; rw [if_pos h]
theorem endE_ok4 {s : ByteArray} (h : s.size ≠ 0) : endE (.ok () s) = 4 := by unfold endE; simp only; rw [if_neg h]
theorem isEmpty_no {s : ByteArray} (h : s.size ≠ 0) : s.toList.isEmpty = false := by
  have := beq_nil h
  cases hl : s.toList with
  | nil => rw [hl] at this; exact absurd this (by decide)
  | cons a l => rfl
end Go.Proofs.YtoeejfhdjmkpcaaDoor
namespace Go.Proofs.YtoeejfhdjmkpcaaDoor
/-- A sum of two numbers, wrapped. -/
def addW (f t : Nat) : Int := if f + t ≤ 9223372036854775807 then ((f + t : Nat) : Int) else ((f + t : Nat) : Int) - 18446744073709551616
theorem addW_bounds {f t : Nat} (hf : f ≤ 4611686018427387904) (ht : t ≤ 4611686018427387904) : -9223372036854775808 ≤ addW f t ∧ addW f t ≤ 9223372036854775807 := by
  unfold addW; split <;> omega
def dlP (b : ByteArray) : RR DeltaD :=
  (numP b).bind fun f s => (numP s).bind fun t s => (takeP 40 (jobP 3) s).bind fun j s => (takeP 20 (nodeP 3) s).bind fun n s => (takeP 40 leaseP s).bind fun l s =>
    (takeP 40 textP s).bind fun gj s => (takeP 20 textP s).bind fun gn s => (takeP 40 textP s).bind fun gl s => .ok ⟨(f : Int), addW f t, j, n, l, gj, gn, gl⟩ s
def zeroDe : DeltaD := ⟨0, 0, [], [], [], [], [], []⟩
def decDF (b : ByteArray) : DeltaD × Int := if 6000 < b.size then (zeroDe, 2) else match endP (dlP b) with
  | .bad e => (zeroDe, e)
  | .ok d _ => if deltaE d = 0 then (d, 0) else (zeroDe, deltaE d)
theorem decDF_large {b : ByteArray} (h : 6000 < b.size) : decDF b = (zeroDe, 2) := by unfold decDF; rw [if_pos h]
theorem decDF_bad {b : ByteArray} {e : Nat} (h : ¬ 6000 < b.size) (h2 : endP (dlP b) = .bad e) : decDF b = (zeroDe, (e : Int)) := by unfold decDF; rw [if_neg h, h2]
theorem decDF_check {b r : ByteArray} {d : DeltaD} (h : ¬ 6000 < b.size) (h2 : endP (dlP b) = .ok d r) (h3 : deltaE d ≠ 0) : decDF b = (zeroDe, deltaE d) := by unfold decDF; rw [if_neg h, h2]; simp only; rw [if_neg h3]
theorem decDF_ok {b r : ByteArray} {d : DeltaD} (h : ¬ 6000 < b.size) (h2 : endP (dlP b) = .ok d r) (h3 : deltaE d = 0) : decDF b = (d, 0) := by unfold decDF; rw [if_neg h, h2]; simp only; rw [if_pos h3]
theorem dlP_good {b : ByteArray} {N : Nat} (h : b.size ≤ N) : (dlP b).Good N := by
  unfold dlP
  exact (numP_good h).bind fun _ _ h => (numP_good h).bind fun _ _ h => (takeP_good (fun _ => jobP_good) h).bind fun _ _ h => (takeP_good (fun _ => nodeP_good) h).bind fun _ _ h => (takeP_good (fun _ => leaseP_good) h).bind fun _ _ h =>
    (takeP_good (fun _ => textP_good) h).bind fun _ _ h => (takeP_good (fun _ => textP_good) h).bind fun _ _ h => (takeP_good (fun _ => textP_good) h).bind fun _ _ h => h
/-- A reading behind another: told by the state. -/
theorem st_next {α β : Type} {R : RR α} {Q : RR β} {p : ByteArray → RR β} {s : ByteArray} (hQ : Q = R.st.bind fun _ s => p s) (h : Q.st = .ok () s) : ∃ a s1 b, R = .ok a s1 ∧ Q = .ok b s ∧ p s1 = .ok b s := by
  cases R with
  | bad x => subst hQ; cases h
  | ok a s1 =>
    have hQ : Q = p s1 := hQ
    cases Q with
    | bad x => cases h
    | ok b s2 =>
      have h : RR.ok () s2 = RR.ok () s := h
      injection h with _ h2
      subst h2
      exact ⟨a, s1, b, rfl, rfl, hQ.symm⟩
theorem dl_join {b : ByteArray} {r1 : RR Nat} {r2 : RR Nat} {r3 : RR (List JobD)} {r4 : RR (List NodeD)} {r5 : RR (List LeaseD)} {r6 : RR (List ByteArray)} {r7 : RR (List ByteArray)} {r8 : RR (List ByteArray)} (e1 : r1 = numP b) (e2 : r2 = r1.st.bind fun _ s => numP s) (e3 : r3 = r2.st.bind fun _ s => takeP 40 (jobP 3) s) (e4 : r4 = r3.st.bind fun _ s => takeP 20 (nodeP 3) s) (e5 : r5 = r4.st.bind fun _ s => takeP 40 leaseP s) (e6 : r6 = r5.st.bind fun _ s => takeP 40 textP s) (e7 : r7 = r6.st.bind fun _ s => takeP 20 textP s) (e8 : r8 = r7.st.bind fun _ s => takeP 40 textP s) :
    (∀ x, r8.st = .bad x → dlP b = .bad x) ∧ (∀ s, r8.st = .ok () s → ∃ f t j n l gj gn gl s1 s2 s3 s4 s5 s6 s7, (r1 = .ok f s1 ∧ numP b = .ok f s1) ∧ (r2 = .ok t s2 ∧ numP s1 = .ok t s2) ∧ (r3 = .ok j s3 ∧ takeP 40 (jobP 3) s2 = .ok j s3) ∧ (r4 = .ok n s4 ∧ takeP 20 (nodeP 3) s3 = .ok n s4) ∧ (r5 = .ok l s5 ∧ takeP 40 leaseP s4 = .ok l s5) ∧ (r6 = .ok gj s6 ∧ takeP 40 textP s5 = .ok gj s6) ∧ (r7 = .ok gn s7 ∧ takeP 20 textP s6 = .ok gn s7) ∧ (r8 = .ok gl s ∧ takeP 40 textP s7 = .ok gl s) ∧ dlP b = .ok ⟨(f : Int), addW f t, j, n, l, gj, gn, gl⟩ s) := by
  unfold dlP
  rw [← e1]
  cases r1 with
  | bad x =>
    subst e2; subst e3; subst e4; subst e5; subst e6; subst e7; subst e8; exact ⟨fun y hy => bad_eq hy, fun s hs => by cases hs⟩
  | ok f s1 =>
    rw [RR.bind_ok]
    have e2' : r2 = numP s1 := e2
    rw [← e2']
    cases r2 with
    | bad x =>
      subst e3; subst e4; subst e5; subst e6; subst e7; subst e8; exact ⟨fun y hy => bad_eq hy, fun s hs => by cases hs⟩
    | ok t s2 =>
      rw [RR.bind_ok]
      have e3' : r3 = takeP 40 (jobP 3) s2 := e3
      rw [← e3']
      cases r3 with
      | bad x =>
        subst e4; subst e5; subst e6; subst e7; subst e8; exact ⟨fun y hy => bad_eq hy, fun s hs => by cases hs⟩
      | ok j s3 =>
        rw [RR.bind_ok]
        have e4' : r4 = takeP 20 (nodeP 3) s3 := e4
        rw [← e4']
        cases r4 with
        | bad x =>
          subst e5; subst e6; subst e7; subst e8; exact ⟨fun y hy => bad_eq hy, fun s hs => by cases hs⟩
        | ok n s4 =>
          rw [RR.bind_ok]
          have e5' : r5 = takeP 40 leaseP s4 := e5
          rw [← e5']
          cases r5 with
          | bad x =>
            subst e6; subst e7; subst e8; exact ⟨fun y hy => bad_eq hy, fun s hs => by cases hs⟩
          | ok l s5 =>
            rw [RR.bind_ok]
            have e6' : r6 = takeP 40 textP s5 := e6
            rw [← e6']
            cases r6 with
            | bad x =>
              subst e7; subst e8; exact ⟨fun y hy => bad_eq hy, fun s hs => by cases hs⟩
            | ok gj s6 =>
              rw [RR.bind_ok]
              have e7' : r7 = takeP 20 textP s6 := e7
              rw [← e7']
              cases r7 with
              | bad x =>
                subst e8; exact ⟨fun y hy => bad_eq hy, fun s hs => by cases hs⟩
              | ok gn s7 =>
                rw [RR.bind_ok]
                have e8' : r8 = takeP 40 textP s7 := e8
                rw [← e8']
                cases r8 with
                | bad x =>
                   exact ⟨fun y hy => bad_eq hy, fun s hs => by cases hs⟩
                | ok gl s8 =>
                  refine And.intro (fun y hy => by cases hy) (fun s hs => ?_)
                  have hs : RR.ok () s8 = RR.ok () s := hs
                  injection hs with _ h2
                  subst h2
                  exact ⟨f, t, j, n, l, gj, gn, gl, s1, s2, s3, s4, s5, s6, s7, ⟨rfl, rfl⟩, ⟨rfl, e2'.symm⟩, ⟨rfl, e3'.symm⟩, ⟨rfl, e4'.symm⟩, ⟨rfl, e5'.symm⟩, ⟨rfl, e6'.symm⟩, ⟨rfl, e7'.symm⟩, ⟨rfl, e8'.symm⟩, rfl⟩
end Go.Proofs.YtoeejfhdjmkpcaaDoor
namespace Go.Proofs.YtoeejfhdjmkpcaaDoor
open Go.RowKit
def JobsOk (xs : List JobD) : Prop := ∀ x ∈ xs, x.name.size ≤ 9223372036854775807 ∧ x.tag.size ≤ 9223372036854775807
def JobInv (xs : List JobD) (n : Nat) (R : Int) (w : World) (i : Value) (wr : World) : Prop := ∃ k : Nat, k ≤ n ∧ i = .int .i64 k ∧ rowsFrom jobE JobD.name (prevK JobD.name xs k) (xs.drop k) = R ∧ Below w.heap.size w wr
def NodesOk (xs : List NodeD) : Prop := ∀ x ∈ xs, x.name.size ≤ 9223372036854775807 ∧ x.zone.size ≤ 9223372036854775807
def NodeInv (xs : List NodeD) (n : Nat) (R : Int) (w : World) (i : Value) (wr : World) : Prop := ∃ k : Nat, k ≤ n ∧ i = .int .i64 k ∧ rowsFrom nodeE NodeD.name (prevK NodeD.name xs k) (xs.drop k) = R ∧ Below w.heap.size w wr
end Go.Proofs.YtoeejfhdjmkpcaaDoor
namespace Go.Proofs.YtoeejfhdjmkpcaaDoor
open Go.RowKit Go.Maps
def heldR : Value → Option (DataW Value × List MemPlace) := fun v => some (.held v, [])
/-- Block b is a map of at most n entries: at the text s it holds g s. -/
def MapIs (w : World) (b n : Nat) (g : ByteArray → Option Value) : Prop :=
  ∃ D : DataW Value, w.ownsMap Tryd.prog 9 heldR b n D ∧ ∀ (s : ByteArray) (z : DataW Value), D.atKey (.string s.data.toList) z = match g s with
    | none => z
    | some v => .held v
theorem lawS : Keyed Tryd.prog 9 := string_keyed Tryd.underlying9
section
variable {w w' : World} {b n : Nat} {g : ByteArray → Option Value}
theorem MapIs.made (w : World) : MapIs (w.alloc (.map #[] 0)) w.heap.size 0 (fun _ => none) := ⟨.map [], World.ownsMap_made w _ _ _, fun _ _ => rfl⟩
theorem MapIs.lt (h : MapIs w b n g) : b < w.heap.size := h.choose_spec.1.lt
theorem MapIs.same (h : MapIs w b n g) (e : w'.heap[b]? = w.heap[b]?) : MapIs w' b n g := by
  obtain ⟨D, ⟨es, clock, hb, r⟩, hD⟩ := h
  exact ⟨D, ⟨es, clock, e.trans hb, r⟩, hD⟩
theorem MapIs.below {B : Nat} (h : MapIs w b n g) (hb : Below B w w') (hB : b < B) : MapIs w' b n g := h.same (hb.block b hB)
theorem MapIs.but {c : Nat} (h : MapIs w b n g) (hg : w.grownBy w' (some c)) (hne : b ≠ c) : MapIs w' b n g := h.same (hg.block b h.lt (by simp [hne]))
theorem MapIs.congr {g' : ByteArray → Option Value} (h : MapIs w b n g) (e : ∀ s, g s = g' s) : MapIs w b n g' := by
  obtain ⟨D, ho, hD⟩ := h
  exact ⟨D, ho, fun s z => by rw [hD, e]⟩
theorem MapIs.mono {m : Nat} (h : MapIs w b n g) (hm : n ≤ m) : MapIs w b m g := by
  obtain ⟨D, ho, hD⟩ := h
  exact ⟨D, ho.mono hm, hD⟩
theorem data_inj {s t : ByteArray} (h : (Lit.string s.data.toList) = .string t.data.toList) : s = t := by
  injection h with h
  exact ByteArray.ext (Array.toList_inj.1 h)
theorem MapIs.put {t e : TypeId} (h : MapIs w b n g) (ht : Tryd.prog.underlying t = some (.map 9 e)) (hn : n < maxLen) (s : ByteArray) (hs : s.size ≤ maxLen) (v : Value) :
    ∃ w', (Instr.mapUpdate t (.map (some b)) (.string s) v).run Tryd.prog w = .ok () w' ∧ MapIs w' b (n + 1) (fun x => if x = s then some v else g x) ∧ w.grownBy w' (some b) := by
  obtain ⟨D, ho, hD⟩ := h
  obtain ⟨w', hr, ho', hg⟩ := ho.update lawS ht hn (Go.WideMaps.keyOf_string_mk Tryd.underlying9 hs) (val := v) (d := .held v) (ps := []) rfl
  refine ⟨w', hr, ⟨_, ho', fun x z => ?_⟩, hg⟩
  by_cases hx : x = s
  · subst hx
    rw [atKey_put_same ho.isMap (by simp [WideAt.IsKeyLit])]
    simp
  · rw [atKey_put_other (fun e => hx (data_inj e)), hD x z]
    simp [hx]
theorem MapIs.look {t e : TypeId} (h : MapIs w b n g) (ht : Tryd.prog.underlying t = some (.map 9 e)) {z : Value} (hz : (zeroValue e).run Tryd.prog w = .ok z w) (s : ByteArray) (hs : s.size ≤ maxLen) :
    (Instr.lookup t (.map (some b)) (.string s) false).run Tryd.prog w = .ok ((g s).getD z) w := by
  obtain ⟨D, ho, hD⟩ := h
  obtain ⟨v, ps, hr, hv⟩ := ho.lookup lawS ht hz (zd := .held z) (zp := []) rfl (Go.WideMaps.keyOf_string_mk Tryd.underlying9 hs)
  rw [hD] at hv
  have hv1 : (DataW.held v : DataW Value) = match g s with | none => .held z | some v => .held v := by
    have := congrArg (fun o => o.map Prod.fst) hv
    simpa [heldR] using this
  have e : v = (g s).getD z := by
    cases hg : g s with
    | none => rw [hg] at hv1; injection hv1
    | some u => rw [hg] at hv1; injection hv1
  rw [hr, e]
theorem MapIs.look_ok {t e : TypeId} (h : MapIs w b n g) (ht : Tryd.prog.underlying t = some (.map 9 e)) {z : Value} (hz : (zeroValue e).run Tryd.prog w = .ok z w) (s : ByteArray) (hs : s.size ≤ maxLen) :
    (Instr.lookup t (.map (some b)) (.string s) true).run Tryd.prog w = .ok (.tuple #[(g s).getD z, .bool (g s).isSome]) w := by
  obtain ⟨D, ho, hD⟩ := h
  obtain ⟨v, ps, hr, hv⟩ := ho.look_ok lawS ht hz (zd := .held z) (zp := []) rfl (Go.WideMaps.keyOf_string_mk Tryd.underlying9 hs)
  rw [hD] at hv
  have hv1 : (DataW.held v : DataW Value) = match g s with | none => .held z | some v => .held v := by
    have := congrArg (fun o => o.map Prod.fst) hv
    simpa [heldR] using this
  cases hg : g s with
  | none =>
    rw [hg] at hv1
    have e : v = z := by injection hv1
    have hh : Maps.has D (.string s.data.toList) = false := Maps.has_false_of_atKey (fun x => by rw [hD, hg])
    rw [hr, e, hh]; rfl
  | some u =>
    rw [hg] at hv1
    have e : v = u := by injection hv1
    have hh : Maps.has D (.string s.data.toList) = true := Maps.has_true_of_atKey (y := .held u) (fun x => by rw [hD, hg])
    rw [hr, e, hh]; rfl
end
end Go.Proofs.YtoeejfhdjmkpcaaDoor
