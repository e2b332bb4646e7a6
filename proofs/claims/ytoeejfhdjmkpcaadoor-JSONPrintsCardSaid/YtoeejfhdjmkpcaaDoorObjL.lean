/- Lengths and steps of what the printer writes: plain. -/
import Derived.Test.YtoeejfhdjmkpcaaDoorDig
set_option linter.unusedVariables false
set_option linter.unusedSimpArgs false
namespace Go.Proofs.YtoeejfhdjmkpcaaDoor
theorem commaL_len {L : Nat} : ∀ l : List (List UInt8), (∀ x ∈ l, x.length ≤ L) → (commaL l).length ≤ l.length * (L + 1)
  | [], _ => by simp [commaL]
  | x :: l, h => by
    have h1 : ∀ l : List (List UInt8), (∀ y ∈ l, y.length ≤ L) → (l.flatMap fun y => 44 :: y).length ≤ l.length * (L + 1) := by
      intro l
      induction l with
      | nil => intro _; simp
      | cons y l ih =>
        intro h
        have := ih fun z hz => h z (List.mem_cons_of_mem _ hz)
        have hy := h y List.mem_cons_self
        rw [List.flatMap_cons, List.length_append, List.length_cons, List.length_cons, Nat.add_mul]
        omega
    have h2 := h1 l fun y hy => h y (List.mem_cons_of_mem _ hy)
    have hx := h x List.mem_cons_self
    show (x ++ l.flatMap fun y => 44 :: y).length ≤ _
    rw [List.length_append, List.length_cons, Nat.add_mul]
    omega
/-- One more, with its comma. -/
theorem commaL_take {α : Type} (f : α → List UInt8) {l : List α} {k : Nat} {y : α} (h : l[k]? = some y) : commaL ((l.take (k + 1)).map f) = (if k = 0 then [] else commaL ((l.take k).map f) ++ [44]) ++ f y := by
  have hk : k < l.length := (List.getElem?_eq_some_iff.1 h).1
  rw [List.take_add_one, h]
  show commaL ((l.take k ++ [y]).map f) = _
  rw [List.map_append, List.map_singleton, commaL_snoc]
  by_cases h0 : k = 0
  · subst h0; simp
  · rw [if_neg h0, if_neg (by intro e; have := congrArg List.length e; rw [List.length_map, List.length_take, List.length_nil] at this; omega)]
    simp
/-- A field is small. -/
def FvOk (v : FV) : Prop := match v with
  | .num x => -9223372036854775807 ≤ x ∧ x ≤ 9223372036854775807
  | .txt s => s.size ≤ 100
theorem quoteL_len (s : ByteArray) (h : s.size ≤ 100) : (quoteL s.data.toList).length ≤ 602 := by
  have := quoteP_len s.data.toList
  have hs : s.data.toList.length = s.size := by simp
  unfold quoteL
  rw [List.length_append, List.length_singleton]
  omega
theorem fieldL_len (f : ByteArray × FV) (h1 : f.1.size ≤ 100) (h2 : FvOk f.2) : (fieldL f).length ≤ 1210 := by
  have a := quoteL_len f.1 h1
  have b : (fvL f.2).length ≤ 602 := by
    obtain ⟨nm, v⟩ := f
    cases v with
    | num x => have := itoa_len x (by have := h2.1; omega) h2.2; show (Go.Lib.itoa x).length ≤ 602; omega
    | txt s => exact quoteL_len s h2
  unfold fieldL
  rw [List.length_append, List.length_append, List.length_singleton]
  omega
end Go.Proofs.YtoeejfhdjmkpcaaDoor
