/- What the printer appends: a text, a number. -/
import Derived.Test.YtoeejfhdjmkpcaaDoorQuoteA
import Derived.Test.YtoeejfhdjmkpcaaDoorItoa
import Derived.Test.YtoeejfhdjmkpcaaDoorDig
set_option linter.unusedVariables false
set_option linter.unusedSimpArgs false
namespace Go.Proofs.YtoeejfhdjmkpcaaDoor
open Go.RowKit
/-- Bytes go behind those of the call's own row; all other blocks stand. -/
def JPost (B : Nat) (l : List UInt8) (w : World) (e : Ending) (w' : World) : Prop :=
  ∃ A m c, e = .returned (.slice A m c) ∧ w'.ownsRow B 5 1 (.slice A m c) m (bytesV l) ∧ Below B w w' ∧ Lib.OthersKept 5 none w w'
theorem kept_grew {B : Nat} {w w' : World} {A A' : Option Addr} {m m' c c' : Nat} {xs : List Value} (ho : w.ownsRow B 5 1 (.slice A m c) m xs) (hg : Grew w w' (.slice A m c) (.slice A' m' c')) : Lib.OthersKept 5 none w w' := by
  refine (Lib.OthersKept.refl _ _ _).grown hg.grown fun g hgb => ?_
  rcases ho.2 with ⟨h1, h2⟩ | ⟨q, cap, cur, hv, hq, hgq, r⟩
  · rw [h1] at hgb; cases hgb
  · rw [hv] at hgb
    have : q = g := by simpa [Value.ownBlock] using hgb
    subst this
    exact ⟨_, _, hgq⟩
theorem own_form {B n : Nat} {w : World} {v : Value} {xs : List Value} (ho : w.ownsRow B 5 1 v n xs) : ∃ A c, v = .slice A n c := by
  rcases ho.2 with ⟨h1, h2⟩ | ⟨q, cap, cur, hv, hq, hgq, r⟩
  · subst h2; exact ⟨_, _, h1⟩
  · exact ⟨_, _, hv⟩
theorem jint (B : Nat) (A : Option Addr) (m c : Nat) (l : List UInt8) (i : Int) (h0 : -9223372036854775808 ≤ i) (h1 : i ≤ 9223372036854775807) (w : World) (hown : w.ownsRow B 5 1 (.slice A m c) m (bytesV l)) (hBw : B ≤ w.heap.size) (hm : m ≤ 140737488350000)
    (htab : Lib.TabBelow Tryd.prog B w "internal/strconv.uint64pow10" .u64 Lib.pow10Tab) :
    Calls Tryd.prog 14 #[.slice A m c, .int .i64 i, .int .i64 10] w (JPost B (l ++ Lib.itoa i) w) := by
  refine Calls.mono (appendInt_any B m i h0 h1 _ _ w hown hBw (by omega) htab) ?_
  rintro e w' ⟨v', rfl, ho, hb, hk⟩
  obtain ⟨A', c', rfl⟩ := own_form ho
  refine ⟨A', _, c', rfl, ?_, hb, hk⟩
  rw [bytesV_append]
  exact ho
theorem jquote (B : Nat) (A : Option Addr) (m c : Nat) (l : List UInt8) (s : ByteArray) (w : World) (hown : w.ownsRow B 5 1 (.slice A m c) m (bytesV l)) (hm : m + 6 * s.size + 8 ≤ 140737488355328) (hB : B ≤ w.heap.size) :
    Calls Tryd.prog 42 #[.slice A m c, .string s] w (JPost B (l ++ quoteL s.data.toList) w) := by
  refine Calls.mono (quote_any B A m c l s w hown hm hB) ?_
  rintro e w' ⟨A', m', c', rfl, ho, hg⟩
  exact ⟨A', m', c', rfl, ho, hg.below hB (fun k hk => (hown.lt k hk).1), kept_grew hown hg⟩
end Go.Proofs.YtoeejfhdjmkpcaaDoor
