/- Of the proof of a statement: Recs. -/
import Derived.Deep.AppendLies
import Derived.Test.YtjgnnobccecpeaaGreatDoorQPush
set_option linter.unusedVariables false
set_option linter.unusedSimpArgs false
/- Rows of records: lists of elements of several cells each. -/
namespace Go.Proofs.YtjgnnobccecpeaaGreatDoor
open Go.RowKit
def rowsV {α : Type} (enc : α → List Value) (l : List α) : List Value := l.flatMap enc
section
variable {α : Type} {enc : α → List Value} {sz : Nat}
theorem rowsV_append (l k : List α) : rowsV enc (l ++ k) = rowsV enc l ++ rowsV enc k := List.flatMap_append
theorem rowsV_one (a : α) : rowsV enc [a] = enc a := by simp [rowsV]
theorem rowsV_length (h : ∀ a, (enc a).length = sz) : ∀ l : List α, (rowsV enc l).length = l.length * sz
  | [] => by simp [rowsV]
  | a :: l => by
    have := rowsV_length h l
    unfold rowsV at this ⊢
    rw [List.flatMap_cons, List.length_append, this, h, List.length_cons, Nat.add_mul]; omega
theorem rowsV_get (h : ∀ a, (enc a).length = sz) : ∀ (l : List α) (i j : Nat) (a : α), l[i]? = some a → j < sz → (rowsV enc l)[i * sz + j]? = (enc a)[j]?
  | [], i, j, a, hi, _ => by simp at hi
  | b :: l, 0, j, a, hi, hj => by
    simp only [List.getElem?_cons_zero, Option.some.injEq] at hi
    subst hi
    unfold rowsV
    rw [List.flatMap_cons, Nat.zero_mul, Nat.zero_add, List.getElem?_append_left (by rw [h]; exact hj)]
  | b :: l, i + 1, j, a, hi, hj => by
    have := rowsV_get h l i j a (by simpa using hi) hj
    unfold rowsV at this ⊢
    rw [List.flatMap_cons, List.getElem?_append_right (by rw [h, Nat.add_mul]; omega), h, show (i + 1) * sz + j - sz = i * sz + j from by rw [Nat.add_mul]; omega]
    exact this
theorem SlAt.rec_ {w : World} {B n : Nat} {A : Option Addr} {l : List α} (hz : ∀ a, (enc a).length = sz) (h : SlAt w B sz A n (rowsV enc l)) (hl : l.length = n) {i : Nat} {a : α} (hi : l[i]? = some a) :
    ∃ b off, A = some ⟨b, off, none⟩ ∧ b < B ∧ ∀ j u, (enc a)[j]? = some u → w.cell? ⟨b, off + i * sz + j, none⟩ = some u := by
  have hin : i < n := by
    rw [← hl]
    rcases Nat.lt_or_ge i l.length with h1 | h1
    · exact h1
    · rw [List.getElem?_eq_none h1] at hi; cases hi
  obtain ⟨b, off, e, hB, hr⟩ := h.at_ (by omega)
  refine ⟨b, off, e, hB, fun j u hu => ?_⟩
  rw [Nat.add_assoc]
  refine hr _ _ ?_
  have hj : j < sz := by
    rw [← hz a]
    rcases Nat.lt_or_ge j (enc a).length with h1 | h1
    · exact h1
    · rw [List.getElem?_eq_none h1] at hu; cases hu
  rw [rowsV_get hz l i j a hi hj]; exact hu
end
/-- A row of the call's own reads as a slice. -/
theorem own_slAt {w : World} {base : Nat} {e : TypeId} {sz n c : Nat} {A : Option Addr} {xs : List Value} (h : w.ownsRow base e sz (.slice A n c) n xs) : SlAt w w.heap.size sz A n xs :=
  ⟨h.1, fun hn => by
    obtain ⟨g, cap, hv, hb, hg⟩ := h.form hn
    injection hv with hA _ hc
    subst hA; subst hc
    refine ⟨g, 0, rfl, hg, fun j u hu => ?_⟩
    have hj : j < n * sz := by
      rw [← h.1]
      rcases Nat.lt_or_ge j xs.length with h1 | h1
      · exact h1
      · rw [List.getElem?_eq_none h1] at hu; cases hu
    rw [Nat.zero_add, h.cellAt j hj]; exact hu⟩
section
variable {P : Program} {w : World} {ops : Array Oper} {rest : List Oper} {o : Oper} {a : Act} {Q : Exit → Act → World → Prop}
/-- One record pushed. -/
theorem push_rec {α : Type} (enc : α → List Value) (hgd : o.guard = none) (s x : Operand) (t e : TypeId) (z : Value) (sz bytes : Nat) (ho : o.op = .call { callee := .builtin .append, args := #[s, x], argTypes := #[t, t] })
    (ht : P.underlying t = some (.slice e)) (hinfo : (P.info? e).map (fun i => (i.zero, i.size, i.bytes)) = some (some z, sz, bytes)) (hzs : z.cells.size = sz) (hsz : 0 < sz)
    (henc : ∀ a, (enc a).length = sz) (h1 : ∀ a, ∀ u ∈ enc a, u.oneCell' = true)
    (base : Nat) (A : Option Addr) (m c : Nat) (l : List α) (hs : a.eval s = .slice A m c) (hown : w.ownsRow base e sz (.slice A m c) m (rowsV enc l))
    (cs : Array Value) (b : α) (hu : cs.toList = enc b) (g : Nat) (hg : w.heap.size = g) (hx : a.eval x = .slice (some ⟨g, 0, none⟩) 1 1) (hm : (m + 1) * bytes ≤ 140737488355328) (h63 : m + 1 ≤ maxLen) (hbase : base ≤ w.heap.size)
    (h : ∀ A' c' w', w'.ownsRow base e sz (.slice A' (m + 1) c') (m + 1) (rowsV enc (l ++ [b])) → Grew w w' (.slice A m c) (.slice A' (m + 1) c') → wpList P ops Q rest (a.put o.dst (.slice A' (m + 1) c')) w') :
    wpList P ops Q (o :: rest) a (w.alloc (.cells cs e)) := by
  subst hg
  obtain ⟨i0, hi, hz0, hz1, hz2⟩ := info_parts hinfo
  have hcs : cs.size = 1 * sz := by rw [← Array.length_toList, hu, henc, Nat.one_mul]
  refine wpList_push hgd s x t ho base e i0 z sz bytes ht hi hz0 hz1 hz2 hzs hsz _ m _ hs hown cs 1 (by omega) hx hcs (fun u hu' => ?_) h63 hm hbase (fun v' w' o' g' b' _ => ?_)
  · rw [hu] at hu'
    exact h1 _ _ hu'
  · have e1 : rowsV enc l ++ cs.toList = rowsV enc (l ++ [b]) := by rw [hu, rowsV_append, rowsV_one]
    rw [e1] at o'
    obtain ⟨g, cap, hv, _⟩ := o'.form (by omega)
    subst hv
    exact h _ _ _ o' ⟨g', b'⟩
end
end Go.Proofs.YtjgnnobccecpeaaGreatDoor
