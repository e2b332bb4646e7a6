/- Of the proof of a statement: Reads, PlRx, Recs, PlGone, RowsDef, Itoa, Frm. -/
import Derived.Laws.Bits64b
import Derived.Laws.BitsAllLaws
import Derived.Below
import Derived.Lib.ValidLaws
import Derived.Test.YtcodhhabfacnjaaGreatDoorRows
import Derived.Deep.AppendLies
import Derived.Shelf.Strconv.AppendIntPublic10
import Derived.WalkKit
import Derived.ProofKit
import Derived.OpenShut
import Derived.ShutString
import Derived.ChangeOld
import Derived.Lib.SmallJoins
import Derived.Test.YtcodhhabfacnjaaGreatDoorSPlSt
import Derived.Test.YtcodhhabfacnjaaGreatDoorSPlUtf
import Derived.Test.YtcodhhabfacnjaaGreatDoorSTabM
set_option linter.unusedVariables false
set_option linter.unusedSimpArgs false
/- The law PrimReads. -/
namespace Go.Proofs.YtcodhhabfacnjaaGreatDoor
open Go.RowKit
theorem toList_take_succ {s : ByteArray} {k : Nat} (h : k < s.size) : s.data.toList.take (k + 1) = s.data.toList.take k ++ [s[k]] := by
  rw [List.take_succ_eq_append_getElem (by simpa using h)]; rfl
end Go.Proofs.YtcodhhabfacnjaaGreatDoor
/- What a reader of bytes gives: plain. -/
namespace Go.Proofs.YtcodhhabfacnjaaGreatDoor
inductive RR (α : Type) where
  | ok (a : α) (r : ByteArray)
  | bad (e : Nat)
def RR.bind {α β : Type} (x : RR α) (f : α → ByteArray → RR β) : RR β := match x with
  | .ok a r => f a r
  | .bad e => .bad e
theorem RR.bind_ok {α β : Type} (a : α) (r : ByteArray) (f : α → ByteArray → RR β) : (RR.ok a r).bind f = f a r := rfl
def RR.st {α : Type} (x : RR α) : RR Unit := x.bind fun _ r => .ok () r
/-- Never the error 0, never a text that is too long. -/
def RR.Good {α : Type} (N : Nat) (x : RR α) : Prop := match x with
  | .ok _ r => r.size ≤ N
  | .bad e => e ≠ 0 ∧ e ≤ 10
theorem RR.Good.bind {α β : Type} {N : Nat} {x : RR α} {f : α → ByteArray → RR β} (h : x.Good N) (hf : ∀ a r, r.size ≤ N → (f a r).Good N) : (x.bind f).Good N := by
  cases x with
  | ok a r => exact hf a r h
  | bad e => exact h
theorem RR.Good.st {α : Type} {N : Nat} {x : RR α} (h : x.Good N) : x.st.Good N := h.bind fun _ _ hr => hr
theorem extract_small {s : ByteArray} {k N : Nat} (h : s.size ≤ N) : (s.extract k s.size).size ≤ N := by
  rw [ByteArray.size_extract]; omega
end Go.Proofs.YtcodhhabfacnjaaGreatDoor
/- Rows of records: lists of elements of several cells each. -/
namespace Go.Proofs.YtcodhhabfacnjaaGreatDoor
open Go.RowKit
def rowsV {α : Type} (enc : α → List Value) (l : List α) : List Value := l.flatMap enc
section
variable {α : Type} {enc : α → List Value} {sz : Nat}
theorem rowsV_append (l k : List α) : rowsV enc (l ++ k) = rowsV enc l ++ rowsV enc k := List.flatMap_append
theorem rowsV_one (a : α) : rowsV enc [a] = enc a := by simp [rowsV]
theorem rowsV_get (h : ∀ a, (enc a).length = sz) : ∀ (l : List α) (i j : Nat) (a : α), l[i]? = some a → j < sz → (rowsV enc l)[i * sz + j]? = (enc a)[j]?
  | [], i, j, a, hi, _ => by simp at hi
  | b :: l, 0, j, a, hi, hj => by
    simp only [List.getElem?_cons_zero, Option.some.injEq] at hi
    subst hi
    unfold rowsV
    rw [List.flatMap_cons, Nat.zero_mul, Nat.zero_add, List.getElem?_append_left (by rw [h]; exact hj)]
  | b :: l, i + 1, j, a, hi, hj => by
    have := rowsV_get h l i j a (by simpa using hi) hj
    unfold rowsV at this ⊢
    rw [List.flatMap_cons, List.getElem?_append_right (by rw [h, Nat.add_mul]; omega), h, show (i + 1) * sz + j - sz = i * sz + j from by rw [Nat.add_mul]; omega]
    exact this
theorem SlAt.rec_ {w : World} {B n : Nat} {A : Option Addr} {l : List α} (hz : ∀ a, (enc a).length = sz) (h : SlAt w B sz A n (rowsV enc l)) (hl : l.length = n) {i : Nat} {a : α} (hi : l[i]? = some a) :
    ∃ b off, A = some ⟨b, off, none⟩ ∧ b < B ∧ ∀ j u, (enc a)[j]? = some u → w.cell? ⟨b, off + i * sz + j, none⟩ = some u := by
  have hin : i < n := by
    rw [← hl]
    rcases Nat.lt_or_ge i l.length with h1 | h1
    · exact h1
    · rw [List.getElem?_eq_none h1] at hi; cases hi
  obtain ⟨b, off, e, hB, hr⟩ := h.at_ (by omega)
  refine ⟨b, off, e, hB, fun j u hu => ?_⟩
  rw [Nat.add_assoc]
  refine hr _ _ ?_
  have hj : j < sz := by
    rw [← hz a]
    rcases Nat.lt_or_ge j (enc a).length with h1 | h1
    · exact h1
    · rw [List.getElem?_eq_none h1] at hu; cases hu
  rw [rowsV_get hz l i j a hi hj]; exact hu
end
/-- A row of the call's own reads as a slice. -/
theorem own_slAt {w : World} {base : Nat} {e : TypeId} {sz n c : Nat} {A : Option Addr} {xs : List Value} (h : w.ownsRow base e sz (.slice A n c) n xs) : SlAt w w.heap.size sz A n xs :=
  ⟨h.1, fun hn => by
    obtain ⟨g, cap, hv, hb, hg⟩ := h.form hn
    injection hv with hA _ hc
    subst hA; subst hc
    refine ⟨g, 0, rfl, hg, fun j u hu => ?_⟩
    have hj : j < n * sz := by
      rw [← h.1]
      rcases Nat.lt_or_ge j xs.length with h1 | h1
      · exact h1
      · rw [List.getElem?_eq_none h1] at hu; cases hu
    rw [Nat.zero_add, h.cellAt j hj]; exact hu⟩
section
variable {P : Program} {w : World} {ops : Array Oper} {rest : List Oper} {o : Oper} {a : Act} {Q : Exit → Act → World → Prop}
/-- One record pushed. -/
theorem push_rec {α : Type} (enc : α → List Value) (hgd : o.guard = none) (s x : Operand) (t e : TypeId) (z : Value) (sz bytes : Nat) (ho : o.op = .call { callee := .builtin .append, args := #[s, x], argTypes := #[t, t] })
    (ht : P.underlying t = some (.slice e)) (hinfo : (P.info? e).map (fun i => (i.zero, i.size, i.bytes)) = some (some z, sz, bytes)) (hzs : z.cells.size = sz) (hsz : 0 < sz)
    (henc : ∀ a, (enc a).length = sz) (h1 : ∀ a, ∀ u ∈ enc a, u.oneCell' = true)
    (base : Nat) (A : Option Addr) (m c : Nat) (l : List α) (hs : a.eval s = .slice A m c) (hown : w.ownsRow base e sz (.slice A m c) m (rowsV enc l))
    (cs : Array Value) (b : α) (hu : cs.toList = enc b) (g : Nat) (hg : w.heap.size = g) (hx : a.eval x = .slice (some ⟨g, 0, none⟩) 1 1) (hm : (m + 1) * bytes ≤ 140737488355328) (h63 : m + 1 ≤ maxLen) (hbase : base ≤ w.heap.size)
    (h : ∀ A' c' w', w'.ownsRow base e sz (.slice A' (m + 1) c') (m + 1) (rowsV enc (l ++ [b])) → Grew w w' (.slice A m c) (.slice A' (m + 1) c') → wpList P ops Q rest (a.put o.dst (.slice A' (m + 1) c')) w') :
    wpList P ops Q (o :: rest) a (w.alloc (.cells cs e)) := by
  subst hg
  obtain ⟨i0, hi, hz0, hz1, hz2⟩ := info_parts hinfo
  have hcs : cs.size = 1 * sz := by rw [← Array.length_toList, hu, henc, Nat.one_mul]
  refine wpList_push hgd s x t ho base e i0 z sz bytes ht hi hz0 hz1 hz2 hzs hsz _ m _ hs hown cs 1 (by omega) hx hcs (fun u hu' => ?_) h63 hm hbase (fun v' w' o' g' b' _ => ?_)
  · rw [hu] at hu'
    exact h1 _ _ hu'
  · have e1 : rowsV enc l ++ cs.toList = rowsV enc (l ++ [b]) := by rw [hu, rowsV_append, rowsV_one]
    rw [e1] at o'
    obtain ⟨g, cap, hv, _⟩ := o'.form (by omega)
    subst hv
    exact h _ _ _ o' ⟨g', b'⟩
end
end Go.Proofs.YtcodhhabfacnjaaGreatDoor
/- Names that are to go: in order, and none that is set: plain. -/
namespace Go.Proofs.YtcodhhabfacnjaaGreatDoor
open Go.Op (bytesLess)
section
variable {has : ByteArray → Bool} {l : List ByteArray} {k : Nat} {s : ByteArray}
end
def strV (s : ByteArray) : List Value := [.string s]
theorem strV_len (s : ByteArray) : (strV s).length = 1 := rfl
end Go.Proofs.YtcodhhabfacnjaaGreatDoor
/- What the loops over rows hold. -/
namespace Go.Proofs.YtcodhhabfacnjaaGreatDoor
open Go.RowKit
def JobsOk (xs : List JobD) : Prop := ∀ x ∈ xs, x.name.size ≤ 9223372036854775807 ∧ x.tag.size ≤ 9223372036854775807
def JobInv (xs : List JobD) (n : Nat) (R : Int) (w : World) (i : Value) (wr : World) : Prop := ∃ k : Nat, k ≤ n ∧ i = .int .i64 k ∧ rowsFrom jobE JobD.name (prevK JobD.name xs k) (xs.drop k) = R ∧ Below w.heap.size w wr
def NodesOk (xs : List NodeD) : Prop := ∀ x ∈ xs, x.name.size ≤ 9223372036854775807 ∧ x.zone.size ≤ 9223372036854775807
def NodeInv (xs : List NodeD) (n : Nat) (R : Int) (w : World) (i : Value) (wr : World) : Prop := ∃ k : Nat, k ≤ n ∧ i = .int .i64 k ∧ rowsFrom nodeE NodeD.name (prevK NodeD.name xs k) (xs.drop k) = R ∧ Below w.heap.size w wr
end Go.Proofs.YtcodhhabfacnjaaGreatDoor
/- strconv.AppendInt at base 10, laid at this program. -/
namespace Go.Proofs.YtcodhhabfacnjaaGreatDoor
open Go.RowKit Go.Shelf
theorem appendInt_any (B n : Nat) (i : Int) (h0 : -9223372036854775808 ≤ i) (h1 : i ≤ 9223372036854775807) (sv : Value) (xs : List Value) (w : World) (hown : w.ownsRow B 5 1 sv n xs) (hBw : B ≤ w.heap.size) (hlim : n + 21 ≤ 140737488355328)
    (htab : Lib.TabBelow Tryz.prog B w "internal/strconv.uint64pow10" .u64 Lib.pow10Tab) :
    Calls Tryz.prog 33 #[sv, .int .i64 i, .int .i64 10] w fun e w' => ∃ v', e = .returned v' ∧ w'.ownsRow B 5 1 v' (n + (Lib.itoa i).length) (xs ++ Lib.byteCells (Lib.itoa i)) ∧ RowKit.Below B w w' ∧ Lib.OthersKept 5 none w w' := Any.strconv_AppendInt_10 laysAI B n i h0 h1 sv xs w hown hBw hlim htab
end Go.Proofs.YtcodhhabfacnjaaGreatDoor
/- What every law's frame uses: the program's fixed facts, and bounds out of well-formed integers. -/
namespace Go.Proofs.YtcodhhabfacnjaaGreatDoor
theorem own : ownKnob Tryz.prog.godebug = none := by kernel_rfl
theorem laidOut : laidOutB Tryz.prog = true := by kernel_rfl
end Go.Proofs.YtcodhhabfacnjaaGreatDoor
