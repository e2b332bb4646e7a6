/- Of the proof of a statement: Pl, PlRead, Kit, Mem, Push. -/
import Derived.Laws.BitsAllLaws
import Derived.Below
import Derived.Laws.Bits64b
import Derived.Test.YtjgnnobccecpeaaGreatDoorRows
import Derived.WalkKit
import Derived.Lib.Hide
import Derived.WalkSpells
import Derived.WalkLawsBesides
import Derived.Laws.OwnMore
import Derived.Laws.Rows
import Derived.Outline
import Derived.Maps.AppendAt
import Derived.Laws.IdiomStrings
import Derived.Lib.BufferRead
set_option linter.unusedVariables false
set_option linter.unusedSimpArgs false
set_option maxRecDepth 100000
set_option maxHeartbeats 8000000
/- Plain arithmetic for the walks of package prim: no program in sight. -/
namespace Go.Proofs.YtjgnnobccecpeaaGreatDoor
open Go.Lib (hid)
def zagZ (n : Int) : Int := if n % 2 = 0 then n / 2 else -(n / 2) - 1
theorem u64_and1 (n : Int) (h : 0 ≤ n) (h' : n < 18446744073709551616) : bits .and .u64 n 1 = n % 2 := by
 rw [u64_and _ _ h h' (by omega) (by omega)]
 have e : (1 : Int).toNat = 1 := rfl
 rw [e, nat_mask1]
 omega
theorem i64_xor_0 (m : Int) (h : 0 ≤ m) (h' : m < 9223372036854775808) : bits .xor .i64 m 0 = m := by
 have e : BitVec.ofInt 64 0 = 0#64 := by decide
 show IntKind.i64.wrap ((BitVec.ofInt 64 m ^^^ BitVec.ofInt 64 0).toNat : Nat) = m
 rw [e, BitVec.xor_zero, BitVec.toNat_ofInt, IntKind.wrap_i64]
 omega
theorem i64_xor_m1 (m : Int) (h : 0 ≤ m) (h' : m < 9223372036854775808) : bits .xor .i64 m (-1) = -m - 1 := by
 have e : BitVec.ofInt 64 (-1) = BitVec.allOnes 64 := by decide
 show IntKind.i64.wrap ((BitVec.ofInt 64 m ^^^ BitVec.ofInt 64 (-1)).toNat : Nat) = -m - 1
 rw [e, BitVec.xor_allOnes, BitVec.toNat_not, BitVec.toNat_ofInt, IntKind.wrap_i64]
 omega
theorem zag_xor (n : Int) (h : 0 ≤ n) (h' : n < 18446744073709551616) :
 bits .xor .i64 (n / 2) (RowKit.wrap64 (-RowKit.wrap64 (bits .and .u64 n 1))) = zagZ n := by
 rw [u64_and1 n h h']
 unfold zagZ
 by_cases e : n % 2 = 0
 · rw [if_pos e, e]
   have e1 : RowKit.wrap64 (-RowKit.wrap64 0) = 0 := by unfold RowKit.wrap64; omega
   rw [e1, i64_xor_0 _ (by omega) (by omega)]
 · have e2 : n % 2 = 1 := by omega
   rw [if_neg e, e2]
   have e1 : RowKit.wrap64 (-RowKit.wrap64 1) = -1 := by unfold RowKit.wrap64; omega
   rw [e1, i64_xor_m1 _ (by omega) (by omega)]
end Go.Proofs.YtjgnnobccecpeaaGreatDoor
/- Reading a number: plain. -/
namespace Go.Proofs.YtjgnnobccecpeaaGreatDoor
open Go.Lib (hid)
def rdB (s : ByteArray) : Nat → Nat → Nat → Nat × Nat × Nat
 | 0, _, _ => (0, 0, 4)
 | f + 1, i, acc =>
  if h : i < s.size then
   if (i = 9 ∧ 1 < s[i].toNat) ∨ (0 < i ∧ s[i].toNat = 0) then (0, 0, 4)
   else if s[i].toNat < 128 then (acc + s[i].toNat % 128 * 128 ^ i, i + 1, 0)
   else rdB s f (i + 1) (acc + s[i].toNat % 128 * 128 ^ i)
  else (0, 0, 3)
def rdNum (s : ByteArray) : Nat × Nat × Nat := rdB s 10 0 0
def rdV (s : ByteArray) : Value := .tuple #[.int .u64 ((rdNum s).1 : Int), .int .i64 ((rdNum s).2.1 : Int), .int .i64 ((rdNum s).2.2 : Int)]
theorem rdV_of {s : ByteArray} {a k e : Nat} (h : rdNum s = (a, k, e)) : rdV s = .tuple #[.int .u64 (a : Int), .int .i64 (k : Int), .int .i64 (e : Int)] := by unfold rdV; rw [h]
section
variable {s : ByteArray} {k acc c : Nat}
theorem rdB_short (hk : k < 10) (h : s.size ≤ k) : rdB s (10 - k) k acc = (0, 0, 3) := by
 rw [show 10 - k = (9 - k) + 1 from by omega, rdB, dif_neg (by omega)]
theorem rdB_form (hk : k < 10) (h : k < s.size) (hc : s[k].toNat = c) (hb : (k = 9 ∧ 1 < c) ∨ (0 < k ∧ c = 0)) : rdB s (10 - k) k acc = (0, 0, 4) := by
 rw [show 10 - k = (9 - k) + 1 from by omega, rdB, dif_pos h, hc, if_pos hb]
theorem rdB_last (hk : k < 10) (h : k < s.size) (hc : s[k].toNat = c) (hb : ¬ ((k = 9 ∧ 1 < c) ∨ (0 < k ∧ c = 0))) (h1 : c < 128) : rdB s (10 - k) k acc = (acc + c % 128 * 128 ^ k, k + 1, 0) := by
 rw [show 10 - k = (9 - k) + 1 from by omega, rdB, dif_pos h, hc, if_neg hb, if_pos h1]
theorem rdB_more (hk : k < 10) (h : k < s.size) (hc : s[k].toNat = c) (hb : ¬ ((k = 9 ∧ 1 < c) ∨ (0 < k ∧ c = 0))) (h1 : ¬ c < 128) : rdB s (10 - k) k acc = rdB s (10 - (k + 1)) (k + 1) (acc + c % 128 * 128 ^ k) := by
 rw [show 10 - k = (9 - k) + 1 from by omega, rdB, dif_pos h, hc, if_neg hb, if_neg h1, show 10 - (k + 1) = 9 - k from by omega]
theorem pow7 (k : Nat) : 128 ^ k = 2 ^ (7 * k) := by rw [Nat.pow_mul]
theorem or_step (hk : k < 10) (hc : c < 256) (h9 : k = 9 → c ≤ 1) (ha : acc < 128 ^ k) :
 bits .or .u64 (acc : Int) (IntKind.u64.wrap (IntKind.u64.wrap (bits .and .u8 (c : Int) 127) * 2 ^ (7 * k))) = ((acc + c % 128 * 128 ^ k : Nat) : Int) ∧ acc + c % 128 * 128 ^ k < 128 ^ (k + 1) ∧ acc + c % 128 * 128 ^ k < 18446744073709551616 := by
 have e1 : bits .and .u8 (c : Int) 127 = ((c % 128 : Nat) : Int) := by
  rw [show (127 : Int) = ((127 : Nat) : Int) from rfl, u8_and_nat c 127 hc (by omega), nat_mask7]
 have e2 : IntKind.u64.wrap ((c % 128 : Nat) : Int) = ((c % 128 : Nat) : Int) := by rw [IntKind.wrap_u64]; omega
 have hp : c % 128 * 128 ^ k < 18446744073709551616 ∧ acc + c % 128 * 128 ^ k < 18446744073709551616 ∧ acc + c % 128 * 128 ^ k < 128 ^ (k + 1) := by
  have h3 : acc + c % 128 * 128 ^ k < 128 ^ (k + 1) := by
   have : c % 128 * 128 ^ k ≤ 127 * 128 ^ k := Nat.mul_le_mul_right _ (by omega)
   rw [Nat.pow_succ]; omega
  have h4 : acc + c % 128 * 128 ^ k < 18446744073709551616 := by
   by_cases h : k = 9
   · have := h9 h
     subst h
     have : c % 128 * 128 ^ 9 ≤ 1 * 128 ^ 9 := Nat.mul_le_mul_right _ (by omega)
     omega
   · have : (128 : Nat) ^ (k + 1) ≤ 128 ^ 9 := Nat.pow_le_pow_right (by omega) (by omega)
     omega
  exact ⟨by omega, h4, h3⟩
 have e3 : IntKind.u64.wrap (((c % 128 : Nat) : Int) * 2 ^ (7 * k)) = ((c % 128 * 128 ^ k : Nat) : Int) := by
  rw [IntKind.wrap_u64, pow7]
  have e4 : ((c % 128 : Nat) : Int) * 2 ^ (7 * k) = ((c % 128 * 2 ^ (7 * k) : Nat) : Int) := by
   rw [Int.natCast_mul, Int.natCast_pow]; rfl
  have := hp.1
  rw [pow7] at this
  rw [e4]; omega
 refine ⟨?_, hp.2.2, hp.2.1⟩
 rw [e1, e2, e3, bits_or_u64_nat _ _ (by omega) hp.1, Nat.or_comm, nat_join (7 * k) _ _ (by rw [pow7]; exact Nat.mul_mod_left _ _) (by rw [← pow7]; exact ha), Nat.add_comm]
theorem add_step {p : Nat} (hk : k < 10) (hc : c < 256) (h9 : k = 9 → c ≤ 1) (ha : acc < 128 ^ k) (hp : p = 128 ^ k) :
 IntKind.u64.wrap ((acc : Int) + IntKind.u64.wrap ((c : Int) % 128 * (p : Int))) = ((acc + c % 128 * 128 ^ k : Nat) : Int) := by
 obtain ⟨_, h2, h3⟩ := or_step hk hc h9 ha
 subst hp
 have e : (c : Int) % 128 * ((128 ^ k : Nat) : Int) = ((c % 128 * 128 ^ k : Nat) : Int) := by rw [Int.natCast_mul]; rfl
 rw [e, IntKind.wrap_u64, IntKind.wrap_u64]
 omega
theorem pow_step (hk : k < 9) : IntKind.u64.wrap (((128 ^ k : Nat) : Int) * 128) = ((128 ^ (k + 1) : Nat) : Int) ∧ 128 ^ (k + 1) ≤ 9223372036854775808 := by
 have : (128 : Nat) ^ (k + 1) ≤ 128 ^ 9 := Nat.pow_le_pow_right (by omega) (by omega)
 have e : (128 : Nat) ^ (k + 1) = 128 ^ k * 128 := Nat.pow_succ ..
 rw [IntKind.wrap_u64]
 omega
end
end Go.Proofs.YtjgnnobccecpeaaGreatDoor
/- Small words that all walks use: an ending by its value. -/
namespace Go.Proofs.YtjgnnobccecpeaaGreatDoor
open Go.Lib (hid)
open Go.RowKit
theorem ret_int {k : IntKind} {a b : Int} (h : a = b) : Ending.returned (.int k a) = .returned (.int k b) := by rw [h]
theorem ret_bool {a b : Bool} (h : a = b) : Ending.returned (.bool a) = .returned (.bool b) := by rw [h]
theorem ret_str {a b : ByteArray} (h : a = b) : Ending.returned (.string a) = .returned (.string b) := by rw [h]
end Go.Proofs.YtjgnnobccecpeaaGreatDoor
/- Words for memory: a row of cells, and a slice that reads as a list of cells. -/
namespace Go.Proofs.YtjgnnobccecpeaaGreatDoor
open Go.Lib (hid)
open Go.RowKit
def RowAt (w : World) (b off : Nat) (xs : List Value) : Prop := ∀ j u, xs[j]? = some u → w.cell? ⟨b, off + j, none⟩ = some u
structure SlAt (w : World) (B sz : Nat) (A : Option Addr) (n : Nat) (xs : List Value) : Prop where
 len : xs.length = n * sz
 at_ : 0 < n → ∃ b off, A = some ⟨b, off, none⟩ ∧ b < B ∧ RowAt w b off xs
section
variable {w w' : World} {B B' b off sz n : Nat} {A : Option Addr} {xs : List Value}
theorem RowAt.cell {j : Nat} {u : Value} (h : RowAt w b off xs) (hu : xs[j]? = some u) : w.cell? ⟨b, off + j, none⟩ = some u := h j u hu
theorem RowAt.below (h : RowAt w b off xs) (hb : Below B w w') (hB : b < B) : RowAt w' b off xs := fun j u hu => (hb.cell (p := ⟨b, off + j, none⟩) hB).trans (h j u hu)
theorem RowAt.drop (h : RowAt w b off xs) (k : Nat) : RowAt w b (off + k) (xs.drop k) := fun j u hu => by
 rw [Nat.add_assoc]; exact h (k + j) u (by rw [← hu, List.getElem?_drop])
theorem RowAt.take (h : RowAt w b off xs) (k : Nat) : RowAt w b off (xs.take k) := fun j u hu => h j u (by
 rw [List.getElem?_take] at hu; split at hu
 · exact hu
 · cases hu)
theorem SlAt.below (h : SlAt w B sz A n xs) (hb : Below B w w') : SlAt w' B sz A n xs :=
 ⟨h.len, fun hn => by obtain ⟨b, off, e, hB, hr⟩ := h.at_ hn; exact ⟨b, off, e, hB, hr.below hb hB⟩⟩
theorem SlAt.more (h : SlAt w B sz A n xs) (hB : B ≤ B') : SlAt w B' sz A n xs :=
 ⟨h.len, fun hn => by obtain ⟨b, off, e, hb, hr⟩ := h.at_ hn; exact ⟨b, off, e, by omega, hr⟩⟩
theorem SlAt.nil : SlAt w B sz A 0 [] := ⟨by simp, fun h => absurd h (by omega)⟩
theorem SlAt.cell (h : SlAt w B sz A n xs) {j : Nat} (hj : j < n * sz) : ∃ b off u, A = some ⟨b, off, none⟩ ∧ b < B ∧ xs[j]? = some u ∧ w.cell? ⟨b, off + j, none⟩ = some u := by
 have hn : 0 < n := by
  rcases Nat.eq_zero_or_pos n with h0 | h0
  · subst h0; omega
  · exact h0
 obtain ⟨b, off, e, hB, hr⟩ := h.at_ hn
 have hl : j < xs.length := by rw [h.len]; exact hj
 exact ⟨b, off, xs[j], e, hB, List.getElem?_eq_getElem hl, hr j _ (List.getElem?_eq_getElem hl)⟩
theorem RowAt.new (w : World) (t : TypeId) (cs : Array Value) : RowAt (w.alloc (.cells cs t)) w.heap.size 0 cs.toList := fun j u hu => by
 rw [cell_of_row (w.alloc (.cells cs t)) w.heap.size (0 + j) cs t (0, 0) (heap_alloc_new w _), Nat.zero_add]
 simpa using hu
theorem SlAt.new (w : World) (t : TypeId) (cs : Array Value) (h : cs.size = n * sz) : SlAt (w.alloc (.cells cs t)) (w.heap.size + 1) sz (some ⟨w.heap.size, 0, none⟩) n cs.toList :=
 ⟨by simpa using h, fun _ => ⟨_, _, rfl, by omega, RowAt.new w t cs⟩⟩
theorem SlAt.alloc (h : SlAt w B sz A n xs) (hB : B ≤ w.heap.size) (o : Obj) : SlAt (w.alloc o) B sz A n xs := h.below ((Below.refl B w).alloc hB o)
theorem SlAt.drew (h : SlAt w B sz A n xs) : SlAt w.drew B sz A n xs := ⟨h.len, h.at_⟩
theorem RowAt.drew (h : RowAt w b off xs) : RowAt w.drew b off xs := h
end
theorem bcell {B : Nat} {W w1 : World} (hb : Below B W w1) : (∀ b o, b < B → w1.cell? ⟨b, o, none⟩ = W.cell? ⟨b, o, none⟩) ∧ (∀ b o, b < B → w1.frozen? ⟨b, o, none⟩ = W.frozen? ⟨b, o, none⟩) :=
 ⟨fun b o h => hb.cell (p := ⟨b, o, none⟩) h, fun b o h => hb.frozen (p := ⟨b, o, none⟩) h⟩
end Go.Proofs.YtjgnnobccecpeaaGreatDoor
/- append of one element to a row of the call's own. -/
namespace Go.Proofs.YtjgnnobccecpeaaGreatDoor
open Go.Lib (hid)
open Go.RowKit
structure Grew (w w' : World) (v v' : Value) : Prop where
 grown : w.grownBy w' v.ownBlock
 own : v'.ownBlock = v.ownBlock ∨ ∃ g, v'.ownBlock = some g ∧ w.heap.size ≤ g
theorem Grew.refl (w : World) (v : Value) : Grew w w v v := ⟨World.grownBy.refl w _, .inl rfl⟩
theorem Grew.trans {a b c : World} {u v x : Value} (h : Grew a b u v) (k : Grew b c v x) : Grew a c u x := by
 refine ⟨⟨k.grown.os.trans h.grown.os, k.grown.tape.trans h.grown.tape, k.grown.output.trans h.grown.output, Nat.le_trans h.grown.size k.grown.size, fun i hi hne => ?_⟩, ?_⟩
 · refine (k.grown.block i (Nat.lt_of_lt_of_le hi h.grown.size) ?_).trans (h.grown.block i hi hne)
   rcases h.own with e | ⟨g, e, hg⟩
   · rw [e]; exact hne
   · rw [e]; intro h'; injection h' with h'; omega
 · rcases k.own with e | ⟨g, e, hg⟩
   · rw [e]; exact h.own
   · exact .inr ⟨g, e, Nat.le_trans h.grown.size hg⟩
theorem Grew.below {w w' : World} {v v' : Value} {B : Nat} (h : Grew w w' v v') (hB : B ≤ w.heap.size) (hv : ∀ g, v.ownBlock = some g → B ≤ g) : Below B w w' :=
 ⟨h.grown.os, h.grown.tape, h.grown.output, h.grown.size, fun k hk => h.grown.block k (by omega) (fun e => by have := hv k e.symm; omega)⟩
section
variable {P : Program} {w : World} {ops : Array Oper} {rest : List Oper} {o : Oper} {a : Act} {Q : Exit → Act → World → Prop}
theorem wpList_push (hgd : o.guard = none) (s x : Operand) (t : TypeId)
 (ho : o.op = .call { callee := .builtin .append, args := #[s, x], argTypes := #[t, t] })
 (base : Nat) (e : TypeId) (i : TypeInfo) (z : Value) (size bytes : Nat) (ht : P.underlying t = some (.slice e)) (hi : P.info? e = some i) (hz : i.zero = some z)
 (hsize : i.size = size) (hby : i.bytes = bytes) (hzs : z.cells.size = size) (hsz : 0 < size)
 (v : Value) (n : Nat) (xs : List Value) (hs : a.eval s = v) (hown : w.ownsRow base e size v n xs)
 (cs : Array Value) (k : Nat) (hk : 0 < k) (hx : a.eval x = .slice (some ⟨w.heap.size, 0, none⟩) k k) (hl : cs.size = k * size) (h1 : ∀ u ∈ cs.toList, u.oneCell' = true)
 (h63 : n + k ≤ maxLen) (hbytes : (n + k) * bytes ≤ 140737488355328) (hbase : base ≤ w.heap.size)
 (h : ∀ v' w', w'.ownsRow base e size v' (n + k) (xs ++ cs.toList) → w.grownBy w' v.ownBlock → (v'.ownBlock = v.ownBlock ∨ ∃ g, v'.ownBlock = some g ∧ w.heap.size ≤ g) → v' ≠ .slice none 0 0 → wpList P ops Q rest (a.put o.dst v') w') :
 wpList P ops Q (o :: rest) a (w.alloc (.cells cs e)) := by
 have hr := RowAt.new w e cs
 refine wpList_append_own_at _ hgd s x t ho base e i z size bytes ht hi hz hsize hby hzs hsz v n xs hs (hown.alloc _) ⟨w.heap.size, 0, none⟩ k k cs.toList hx (by simpa using hl)
  (fun j u hu => ?_) h1 h63 hbytes (by simp; omega) (fun v' w' o' g' hnil hb => h v' w' o' ?_ ?_ ?_)
 · have := hr j u hu
   unfold Addr.add
   split
   · rename_i hj; subst hj; simpa using this
   · simpa using this
 · have g0 : w.grownBy (w.alloc (.cells cs e)) v.ownBlock := ⟨rfl, rfl, rfl, by simp, fun k hk _ => Below.heap_alloc _ _ _ hk⟩
   exact ⟨g'.os.trans g0.os, g'.tape.trans g0.tape, g'.output.trans g0.output, Nat.le_trans g0.size g'.size, fun k hk hne => (g'.block k (by simp; omega) hne).trans (g0.block k hk hne)⟩
 · rcases hb with hb | hb
   · exact .inl hb
   · exact .inr ⟨_, hb, by simp⟩
 · intro e0
   have := (hnil.1 e0).2
   omega
end
def bytesV (l : List UInt8) : List Value := l.map fun c => .int .u8 (c.toNat : Int)
section
variable {w : World} {ops : Array Oper} {rest : List Oper} {o : Oper} {a : Act} {Q : Exit → Act → World → Prop}
end
theorem run_string_row {P : Program} {w : World} {src dst e : TypeId} {b off n c : Nat} {l : List UInt8} (hs : P.underlying src = some (.slice e)) (he : P.underlying e = some (.int .u8)) (hd : P.underlying dst = some .string)
 (hr : RowAt w b off (bytesV l)) (hn : l.length = n) : (convert src dst (.slice (some ⟨b, off, none⟩) n c)).run P w = .ok (.string ⟨l.toArray⟩) w := by
 subst hn
 refine run_convert_bytes_back w src dst e ⟨b, off, none⟩ c l hs he hd (fun j hj => ?_)
 have h := hr j _ (show (bytesV l)[j]? = some (.int .u8 (l[j].toNat : Int)) by simp [bytesV, hj])
 unfold Addr.add
 split
 · rename_i h0; subst h0; simpa using h
 · exact h
theorem run_string_new {P : Program} {w : World} {src dst e : TypeId} {n c : Nat} {cs : Array Value} {l : List UInt8} (hs : P.underlying src = some (.slice e)) (he : P.underlying e = some (.int .u8)) (hd : P.underlying dst = some .string)
 (hl : cs.toList = bytesV l) (hn : l.length = n) : (convert src dst (.slice (some ⟨w.heap.size, 0, none⟩) n c)).run P (w.alloc (.cells cs e)) = .ok (.string ⟨l.toArray⟩) (w.alloc (.cells cs e)) :=
 run_string_row hs he hd (by rw [← hl]; exact RowAt.new w e cs) hn
end Go.Proofs.YtjgnnobccecpeaaGreatDoor
