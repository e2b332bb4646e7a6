/- A text quoted: plain. -/
import Derived.Test.YtoeejfhdjmkpcaaDoorBase
set_option linter.unusedVariables false
set_option linter.unusedSimpArgs false
namespace Go.Proofs.YtoeejfhdjmkpcaaDoor
def hexB (n : Nat) : UInt8 := UInt8.ofNat (if n < 10 then 48 + n else 87 + n)
def quoteB (c : UInt8) : List UInt8 := if c = 34 ∨ c = 92 then [92, c] else if c < 32 then [92, 117, 48, 48, hexB (c.toNat / 16), hexB (c.toNat % 16)] else [c]
def quoteP (l : List UInt8) : List UInt8 := 34 :: l.flatMap quoteB
def quoteL (l : List UInt8) : List UInt8 := quoteP l ++ [34]
theorem quoteP_snoc (l : List UInt8) (c : UInt8) : quoteP (l ++ [c]) = quoteP l ++ quoteB c := by simp [quoteP]
theorem quoteB_len (c : UInt8) : (quoteB c).length ≤ 6 := by unfold quoteB; split <;> (try split) <;> simp
theorem quoteP_len : ∀ l : List UInt8, (quoteP l).length ≤ 6 * l.length + 1
  | [] => by simp [quoteP]
  | c :: l => by
    have h1 := quoteP_len l
    have h2 := quoteB_len c
    simp only [quoteP, List.length_cons, List.flatMap_cons, List.length_append] at *
    omega
theorem quoteB_esc {c : UInt8} (h : c.toNat = 34 ∨ c.toNat = 92) : quoteB c = [92, c] := by
  unfold quoteB
  rw [if_pos]
  rcases h with h | h
  · exact .inl (UInt8.toNat_inj.1 h)
  · exact .inr (UInt8.toNat_inj.1 h)
theorem quoteB_low {c : UInt8} (h : c.toNat < 32) : quoteB c = [92, 117, 48, 48, hexB (c.toNat / 16), hexB (c.toNat % 16)] := by
  unfold quoteB
  rw [if_neg, if_pos (UInt8.lt_iff_toNat_lt.2 h)]
  rintro (rfl | rfl) <;> exact absurd h (by decide)
theorem quoteB_plain {c : UInt8} (h1 : c.toNat ≠ 34) (h2 : c.toNat ≠ 92) (h3 : ¬ c.toNat < 32) : quoteB c = [c] := by
  unfold quoteB
  rw [if_neg, if_neg (fun h => h3 (UInt8.lt_iff_toNat_lt.1 h))]
  rintro (rfl | rfl)
  · exact h1 rfl
  · exact h2 rfl
def hexS : ByteArray := ⟨#[48, 49, 50, 51, 52, 53, 54, 55, 56, 57, 97, 98, 99, 100, 101, 102]⟩
theorem hexS_at : ∀ n : Fin 16, (hexS.data.toList[n.val]?).map (·.toNat) = some (hexB n.val).toNat := by decide +kernel
theorem hex_lo (c : Nat) (hc : c < 256) : bits .and .u8 (c : Int) 15 = ((c % 16 : Nat) : Int) := by
  rw [show (15 : Int) = ((15 : Nat) : Int) from rfl, u8_and_nat c 15 hc (by omega), nat_mask4]
end Go.Proofs.YtoeejfhdjmkpcaaDoor
