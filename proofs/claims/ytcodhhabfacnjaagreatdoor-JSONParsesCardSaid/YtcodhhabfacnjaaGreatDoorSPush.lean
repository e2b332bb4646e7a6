/- Of the proof of a statement: Kit, Mem, Push. -/
import Derived.Test.YtcodhhabfacnjaaGreatDoorRows
import Derived.WalkKit
import Derived.Lib.Hide
import Derived.WalkSpells
import Derived.WalkLawsBesides
import Derived.Laws.OwnMore
import Derived.Laws.Rows
import Derived.Outline
import Derived.Maps.AppendAt
import Derived.Laws.IdiomStrings
import Derived.Lib.BufferRead
set_option linter.unusedVariables false
set_option linter.unusedSimpArgs false
/- Small words that all walks use: an ending by its value. -/
namespace Go.Proofs.YtcodhhabfacnjaaGreatDoor
open Go.RowKit
theorem ret_int {k : IntKind} {a b : Int} (h : a = b) : Ending.returned (.int k a) = .returned (.int k b) := by rw [h]
theorem ret_bool {a b : Bool} (h : a = b) : Ending.returned (.bool a) = .returned (.bool b) := by rw [h]
theorem ret_str {a b : ByteArray} (h : a = b) : Ending.returned (.string a) = .returned (.string b) := by rw [h]
end Go.Proofs.YtcodhhabfacnjaaGreatDoor
/- Words for memory: a row of cells, and a slice that reads as a list of cells. -/
namespace Go.Proofs.YtcodhhabfacnjaaGreatDoor
open Go.RowKit
/-- From address (b, off) on the cells hold xs. -/
def RowAt (w : World) (b off : Nat) (xs : List Value) : Prop := ∀ j u, xs[j]? = some u → w.cell? ⟨b, off + j, none⟩ = some u
/-- A slice of n elements, sz cells each, that reads as xs, in blocks below B. -/
structure SlAt (w : World) (B sz : Nat) (A : Option Addr) (n : Nat) (xs : List Value) : Prop where
  len : xs.length = n * sz
  at_ : 0 < n → ∃ b off, A = some ⟨b, off, none⟩ ∧ b < B ∧ RowAt w b off xs
section
variable {w w' : World} {B B' b off sz n : Nat} {A : Option Addr} {xs : List Value}
theorem RowAt.cell {j : Nat} {u : Value} (h : RowAt w b off xs) (hu : xs[j]? = some u) : w.cell? ⟨b, off + j, none⟩ = some u := h j u hu
theorem RowAt.below (h : RowAt w b off xs) (hb : Below B w w') (hB : b < B) : RowAt w' b off xs := fun j u hu => (hb.cell (p := ⟨b, off + j, none⟩) hB).trans (h j u hu)
theorem RowAt.drop (h : RowAt w b off xs) (k : Nat) : RowAt w b (off + k) (xs.drop k) := fun j u hu => by
  rw [Nat.add_assoc]; exact h (k + j) u (by rw [← hu, List.getElem?_drop])
theorem RowAt.take (h : RowAt w b off xs) (k : Nat) : RowAt w b off (xs.take k) := fun j u hu => h j u (by
  rw [List.getElem?_take] at hu; split at hu
  · exact hu
  · cases hu)
theorem SlAt.below (h : SlAt w B sz A n xs) (hb : Below B w w') : SlAt w' B sz A n xs :=
  ⟨h.len, fun hn => by obtain ⟨b, off, e, hB, hr⟩ := h.at_ hn; exact ⟨b, off, e, hB, hr.below hb hB⟩⟩
theorem SlAt.more (h : SlAt w B sz A n xs) (hB : B ≤ B') : SlAt w B' sz A n xs :=
  ⟨h.len, fun hn => by obtain ⟨b, off, e, hb, hr⟩ := h.at_ hn; exact ⟨b, off, e, by omega, hr⟩⟩
theorem SlAt.nil : SlAt w B sz A 0 [] := ⟨by simp, fun h => absurd h (by omega)⟩
theorem SlAt.cell (h : SlAt w B sz A n xs) {j : Nat} (hj : j < n * sz) : ∃ b off u, A = some ⟨b, off, none⟩ ∧ b < B ∧ xs[j]? = some u ∧ w.cell? ⟨b, off + j, none⟩ = some u := by
  have hn : 0 < n := by
    rcases Nat.eq_zero_or_pos n with h0 | h0
    · subst h0; omega
    · exact h0
  obtain ⟨b, off, e, hB, hr⟩ := h.at_ hn
  have hl : j < xs.length := by rw [h.len]; exact hj
  exact ⟨b, off, xs[j], e, hB, List.getElem?_eq_getElem hl, hr j _ (List.getElem?_eq_getElem hl)⟩
theorem RowAt.new (w : World) (t : TypeId) (cs : Array Value) : RowAt (w.alloc (.cells cs t)) w.heap.size 0 cs.toList := fun j u hu => by
  rw [cell_of_row (w.alloc (.cells cs t)) w.heap.size (0 + j) cs t (0, 0) (heap_alloc_new w _), Nat.zero_add]
  simpa using hu
theorem SlAt.new (w : World) (t : TypeId) (cs : Array Value) (h : cs.size = n * sz) : SlAt (w.alloc (.cells cs t)) (w.heap.size + 1) sz (some ⟨w.heap.size, 0, none⟩) n cs.toList :=
  ⟨by simpa using h, fun _ => ⟨_, _, rfl, by omega, RowAt.new w t cs⟩⟩
theorem SlAt.alloc (h : SlAt w B sz A n xs) (hB : B ≤ w.heap.size) (o : Obj) : SlAt (w.alloc o) B sz A n xs := h.below ((Below.refl B w).alloc hB o)
theorem SlAt.drew (h : SlAt w B sz A n xs) : SlAt w.drew B sz A n xs := ⟨h.len, h.at_⟩
theorem RowAt.drew (h : RowAt w b off xs) : RowAt w.drew b off xs := h
end
/-- What lay below a block number still lies there: as two rules for the walk. -/
theorem bcell {B : Nat} {W w1 : World} (hb : Below B W w1) : (∀ b o, b < B → w1.cell? ⟨b, o, none⟩ = W.cell? ⟨b, o, none⟩) ∧ (∀ b o, b < B → w1.frozen? ⟨b, o, none⟩ = W.frozen? ⟨b, o, none⟩) :=
  ⟨fun b o h => hb.cell (p := ⟨b, o, none⟩) h, fun b o h => hb.frozen (p := ⟨b, o, none⟩) h⟩
end Go.Proofs.YtcodhhabfacnjaaGreatDoor
/- append of one element to a row of the call's own. -/
namespace Go.Proofs.YtcodhhabfacnjaaGreatDoor
open Go.RowKit
/-- From world w and slice v the call has come to w' and v': of the old blocks only v's own may have turned; v' lies there, or in a new block. -/
structure Grew (w w' : World) (v v' : Value) : Prop where
  grown : w.grownBy w' v.ownBlock
  own : v'.ownBlock = v.ownBlock ∨ ∃ g, v'.ownBlock = some g ∧ w.heap.size ≤ g
theorem Grew.refl (w : World) (v : Value) : Grew w w v v := ⟨World.grownBy.refl w _, .inl rfl⟩
theorem Grew.trans {a b c : World} {u v x : Value} (h : Grew a b u v) (k : Grew b c v x) : Grew a c u x := by
  refine ⟨⟨k.grown.os.trans h.grown.os, k.grown.tape.trans h.grown.tape, k.grown.output.trans h.grown.output, Nat.le_trans h.grown.size k.grown.size, fun i hi hne => ?_⟩, ?_⟩
  · refine (k.grown.block i (Nat.lt_of_lt_of_le hi h.grown.size) ?_).trans (h.grown.block i hi hne)
    rcases h.own with e | ⟨g, e, hg⟩
    · rw [e]; exact hne
    · rw [e]; intro h'; injection h' with h'; omega
  · rcases k.own with e | ⟨g, e, hg⟩
    · rw [e]; exact h.own
    · exact .inr ⟨g, e, Nat.le_trans h.grown.size hg⟩
theorem Grew.below {w w' : World} {v v' : Value} {B : Nat} (h : Grew w w' v v') (hB : B ≤ w.heap.size) (hv : ∀ g, v.ownBlock = some g → B ≤ g) : Below B w w' :=
  ⟨h.grown.os, h.grown.tape, h.grown.output, h.grown.size, fun k hk => h.grown.block k (by omega) (fun e => by have := hv k e.symm; omega)⟩
section
variable {P : Program} {w : World} {ops : Array Oper} {rest : List Oper} {o : Oper} {a : Act} {Q : Exit → Act → World → Prop}
/-- An append of k elements: the source is a literal of k elements, laid just before. -/
theorem wpList_push (hgd : o.guard = none) (s x : Operand) (t : TypeId)
    (ho : o.op = .call { callee := .builtin .append, args := #[s, x], argTypes := #[t, t] })
    (base : Nat) (e : TypeId) (i : TypeInfo) (z : Value) (size bytes : Nat) (ht : P.underlying t = some (.slice e)) (hi : P.info? e = some i) (hz : i.zero = some z)
    (hsize : i.size = size) (hby : i.bytes = bytes) (hzs : z.cells.size = size) (hsz : 0 < size)
    (v : Value) (n : Nat) (xs : List Value) (hs : a.eval s = v) (hown : w.ownsRow base e size v n xs)
    (cs : Array Value) (k : Nat) (hk : 0 < k) (hx : a.eval x = .slice (some ⟨w.heap.size, 0, none⟩) k k) (hl : cs.size = k * size) (h1 : ∀ u ∈ cs.toList, u.oneCell' = true)
    (h63 : n + k ≤ maxLen) (hbytes : (n + k) * bytes ≤ 140737488355328) (hbase : base ≤ w.heap.size)
    (h : ∀ v' w', w'.ownsRow base e size v' (n + k) (xs ++ cs.toList) → w.grownBy w' v.ownBlock → (v'.ownBlock = v.ownBlock ∨ ∃ g, v'.ownBlock = some g ∧ w.heap.size ≤ g) → v' ≠ .slice none 0 0 → wpList P ops Q rest (a.put o.dst v') w') :
    wpList P ops Q (o :: rest) a (w.alloc (.cells cs e)) := by
  have hr := RowAt.new w e cs
  refine wpList_append_own_at _ hgd s x t ho base e i z size bytes ht hi hz hsize hby hzs hsz v n xs hs (hown.alloc _) ⟨w.heap.size, 0, none⟩ k k cs.toList hx (by simpa using hl)
    (fun j u hu => ?_) h1 h63 hbytes (by simp; omega) (fun v' w' o' g' hnil hb => h v' w' o' ?_ ?_ ?_)
  · have := hr j u hu
    unfold Addr.add
    split
    · rename_i hj; subst hj; simpa using this
    · simpa using this
  · have g0 : w.grownBy (w.alloc (.cells cs e)) v.ownBlock := ⟨rfl, rfl, rfl, by simp, fun k hk _ => Below.heap_alloc _ _ _ hk⟩
    exact ⟨g'.os.trans g0.os, g'.tape.trans g0.tape, g'.output.trans g0.output, Nat.le_trans g0.size g'.size, fun k hk hne => (g'.block k (by simp; omega) hne).trans (g0.block k hk hne)⟩
  · rcases hb with hb | hb
    · exact .inl hb
    · exact .inr ⟨_, hb, by simp⟩
  · intro e0
    have := (hnil.1 e0).2
    omega
end
/-- The cells of bytes. -/
def bytesV (l : List UInt8) : List Value := l.map fun c => .int .u8 (c.toNat : Int)
theorem bytesV_append (l k : List UInt8) : bytesV (l ++ k) = bytesV l ++ bytesV k := by simp [bytesV]
theorem bytesV_length (l : List UInt8) : (bytesV l).length = l.length := by simp [bytesV]
section
variable {w : World} {ops : Array Oper} {rest : List Oper} {o : Oper} {a : Act} {Q : Exit → Act → World → Prop}
theorem Tryz.infoU8 : (Tryz.prog.info? 5).map (fun i => (i.zero, i.size, i.bytes)) = some (some (.int .u8 0), 1, 1) := by kernel_rfl
/-- Bytes pushed. -/
theorem push_bytes (hgd : o.guard = none) (s x : Operand) (ho : o.op = .call { callee := .builtin .append, args := #[s, x], argTypes := #[78, 78] })
    (base : Nat) (A : Option Addr) (m c : Nat) (l : List UInt8) (hs : a.eval s = .slice A m c) (hown : w.ownsRow base 5 1 (.slice A m c) m (bytesV l))
    (cs : Array Value) (k : Nat) (hk : 0 < k) (b : List UInt8) (hu : cs.toList = bytesV b) (hbk : b.length = k) (hx : a.eval x = .slice (some ⟨w.heap.size, 0, none⟩) k k) (hm : m + k ≤ 140737488355328) (hbase : base ≤ w.heap.size)
    (h : ∀ A' c' w', w'.ownsRow base 5 1 (.slice A' (m + k) c') (m + k) (bytesV (l ++ b)) → Grew w w' (.slice A m c) (.slice A' (m + k) c') → wpList Tryz.prog ops Q rest (a.put o.dst (.slice A' (m + k) c')) w') :
    wpList Tryz.prog ops Q (o :: rest) a (w.alloc (.cells cs 5)) := by
  obtain ⟨i0, hi, hz0, hz1, hz2⟩ := info_parts Tryz.infoU8
  have hcs : cs.size = k := by rw [← Array.length_toList, hu, bytesV_length, hbk]
  refine wpList_push hgd s x 78 ho base 5 i0 (.int .u8 0) 1 1 Tryz.underlying78 hi hz0 hz1 hz2 rfl (by decide) _ m _ hs hown cs k hk hx (by omega) (fun u hu' => ?_) (by unfold maxLen; omega) (by omega) hbase (fun v' w' o' g' b' _ => ?_)
  · rw [hu] at hu'
    obtain ⟨c, _, rfl⟩ := List.mem_map.1 hu'
    rfl
  · have e1 : bytesV l ++ cs.toList = bytesV (l ++ b) := by rw [hu, bytesV_append]
    rw [e1] at o'
    rcases o'.2 with ⟨_, h0⟩ | ⟨g, cap, cur, hv, _⟩
    · omega
    · subst hv
      exact h _ _ _ o' ⟨g', b'⟩
/-- Bytes of a row appended, at an operation: whatever the world. -/
theorem wp_bytes {K : Act → World → Prop} (s x : Operand) (ho : o.op = .call { callee := .builtin .append, args := #[s, x], argTypes := #[78, 78] })
    (base : Nat) (A : Option Addr) (m c : Nat) (l : List UInt8) (hs : a.eval s = .slice A m c) (hown : w.ownsRow base 5 1 (.slice A m c) m (bytesV l))
    (g off k c2 : Nat) (b : List UInt8) (hr : RowAt w g off (bytesV b)) (hk : 0 < k) (hbk : b.length = k) (hx : a.eval x = .slice (some ⟨g, off, none⟩) k c2) (hm : m + k ≤ 140737488355328) (hbase : base ≤ w.heap.size)
    (h : ∀ A' c' w', w'.ownsRow base 5 1 (.slice A' (m + k) c') (m + k) (bytesV (l ++ b)) → Grew w w' (.slice A m c) (.slice A' (m + k) c') → K (a.put o.dst (.slice A' (m + k) c')) w') :
    o.wp Tryz.prog a w K Q := by
  obtain ⟨i0, hi, hz0, hz1, hz2⟩ := info_parts Tryz.infoU8
  obtain ⟨v', w', hrun, h2, h3, h4, h5⟩ := run_append_own_at (P := Tryz.prog) w base 78 o.type 5 i0 (.int .u8 0) 1 1 Tryz.underlying78 hi hz0 hz1 hz2 rfl (by decide) _ m _ hown ⟨g, off, none⟩ k c2 (bytesV b) (by rw [bytesV_length, hbk, Nat.mul_one]) (fun j u hu => by
    have := hr j u hu
    unfold Addr.add
    split
    · rename_i hj; subst hj; simpa using this
    · exact this) (fun u hu => by obtain ⟨c, _, rfl⟩ := List.mem_map.1 hu; rfl) (by unfold maxLen; omega) (by omega) hbase
  rw [← bytesV_append] at h2
  unfold Oper.wp execOp
  simp only [ho, resolve, invoke, builtin, Sem.run_bind, Sem.run_pure, Result.andThen_ok, List.map_toArray, List.map_cons, List.map_nil, hs, hx, hrun]
  rcases h2.2 with ⟨_, h0⟩ | ⟨g, cap, cur, hv, _⟩
  · omega
  · subst hv
    refine h _ _ _ h2 ⟨h3, ?_⟩
    rcases h5 with h5 | h5
    · exact .inl h5
    · exact .inr ⟨_, h5, Nat.le_refl _⟩
/-- Likewise, as a step of a region that draws its order: the source a literal laid before. -/
theorem step_bytes {K : Act → World → Prop} {E : Prop} (hgd : o.guard = none) (s x : Operand) (ho : o.op = .call { callee := .builtin .append, args := #[s, x], argTypes := #[78, 78] })
    (base : Nat) (A : Option Addr) (m c : Nat) (l : List UInt8) (hs : a.eval s = .slice A m c) (hown : w.ownsRow base 5 1 (.slice A m c) m (bytesV l))
    (cs : Array Value) (k c2 : Nat) (b : List UInt8) (hcs : cs.toList = bytesV b) (hk : 0 < k) (hbk : b.length = k) (hx : a.eval x = .slice (some ⟨w.heap.size, 0, none⟩) k c2) (hm : m + k ≤ 140737488355328) (hbase : base ≤ w.heap.size)
    (h : ∀ A' c' w', w'.ownsRow base 5 1 (.slice A' (m + k) c') (m + k) (bytesV (l ++ b)) → Grew w w' (.slice A m c) (.slice A' (m + k) c') → K (a.put o.dst (.slice A' (m + k) c')) w') :
    if Region.wanted o (yielded ops a.tmps) = true then Oper.wp Tryz.prog o a (w.alloc (.cells cs 5)).drew K Q else E := by
  have hw : Region.wanted o (yielded ops a.tmps) = true := by simp [Region.wanted, hgd]
  rw [if_pos hw]
  refine wp_bytes (w := (w.alloc (.cells cs 5)).drew) s x ho base A m c l hs (hown.alloc _) w.heap.size 0 k c2 b ?_ hk hbk hx hm (by simpa using Nat.le_succ_of_le hbase) (fun A' c' w' o' g' => h A' c' w' o' ?_)
  · rw [← hcs]; exact (RowAt.new w 5 cs).drew
  · refine Grew.trans (b := (w.alloc (.cells cs 5)).drew) (v := .slice A m c) ⟨⟨rfl, rfl, rfl, by simp, fun k hk _ => ?_⟩, .inl rfl⟩ g'
    exact Below.heap_alloc _ _ _ hk
/-- A byte pushed. -/
theorem push_u8 (hgd : o.guard = none) (s x : Operand) (ho : o.op = .call { callee := .builtin .append, args := #[s, x], argTypes := #[78, 78] })
    (base : Nat) (A : Option Addr) (m c : Nat) (l : List UInt8) (hs : a.eval s = .slice A m c) (hown : w.ownsRow base 5 1 (.slice A m c) m (bytesV l))
    (u : Int) (b : UInt8) (hu : u = (b.toNat : Int)) (hx : a.eval x = .slice (some ⟨w.heap.size, 0, none⟩) 1 1) (hm : m + 1 ≤ 140737488355328) (hbase : base ≤ w.heap.size)
    (h : ∀ A' c' w', w'.ownsRow base 5 1 (.slice A' (m + 1) c') (m + 1) (bytesV (l ++ [b])) → Grew w w' (.slice A m c) (.slice A' (m + 1) c') → wpList Tryz.prog ops Q rest (a.put o.dst (.slice A' (m + 1) c')) w') :
    wpList Tryz.prog ops Q (o :: rest) a (w.alloc (.cells #[.int .u8 u] 5)) :=
  push_bytes hgd s x ho base A m c l hs hown #[.int .u8 u] 1 (by decide) [b] (by subst hu; rfl) rfl hx hm hbase h
end
/-- string(b) of a row of the call's own. -/
theorem run_string_own {P : Program} {w : World} {base : Nat} {src dst e : TypeId} {A : Option Addr} {n c : Nat} {l : List UInt8} (hs : P.underlying src = some (.slice e)) (he : P.underlying e = some (.int .u8)) (hd : P.underlying dst = some .string)
    (hown : w.ownsRow base e 1 (.slice A n c) n (bytesV l)) : (convert src dst (.slice A n c)).run P w = .ok (.string ⟨l.toArray⟩) w := by
  have hn : l.length = n := by have := hown.1; simpa [bytesV] using this
  rcases hown.2 with ⟨h0, hn0⟩ | ⟨g, cap, cur, hv, _⟩
  · injection h0 with h1 h2 h3
    subst h1; subst h2; subst h3
    have hl0 : l = [] := List.eq_nil_of_length_eq_zero hn
    subst hl0
    exact Lib.run_convert_nil_bytes w src dst e 0 hs he hd
  · injection hv with h1 h2 h3
    subst h1
    subst hn
    refine run_convert_bytes_back w src dst e ⟨g, 0, none⟩ c l hs he hd (fun j hj => ?_)
    exact hown.cells (g := g) rfl j _ (by simp [bytesV, hj])
/-- string(b) of a row that holds bytes. -/
theorem run_string_row {P : Program} {w : World} {src dst e : TypeId} {b off n c : Nat} {l : List UInt8} (hs : P.underlying src = some (.slice e)) (he : P.underlying e = some (.int .u8)) (hd : P.underlying dst = some .string)
    (hr : RowAt w b off (bytesV l)) (hn : l.length = n) : (convert src dst (.slice (some ⟨b, off, none⟩) n c)).run P w = .ok (.string ⟨l.toArray⟩) w := by
  subst hn
  refine run_convert_bytes_back w src dst e ⟨b, off, none⟩ c l hs he hd (fun j hj => ?_)
  have h := hr j _ (show (bytesV l)[j]? = some (.int .u8 (l[j].toNat : Int)) by simp [bytesV, hj])
  unfold Addr.add
  split
  · rename_i h0; subst h0; simpa using h
  · exact h
/-- string(b) of a literal laid just before. -/
theorem run_string_new {P : Program} {w : World} {src dst e : TypeId} {n c : Nat} {cs : Array Value} {l : List UInt8} (hs : P.underlying src = some (.slice e)) (he : P.underlying e = some (.int .u8)) (hd : P.underlying dst = some .string)
    (hl : cs.toList = bytesV l) (hn : l.length = n) : (convert src dst (.slice (some ⟨w.heap.size, 0, none⟩) n c)).run P (w.alloc (.cells cs e)) = .ok (.string ⟨l.toArray⟩) (w.alloc (.cells cs e)) :=
  run_string_row hs he hd (by rw [← hl]; exact RowAt.new w e cs) hn
end Go.Proofs.YtcodhhabfacnjaaGreatDoor
